import Derived.Test.YtakcaekikfcbpaaG1
namespace Go.Proofs.Ytakcaekikfcbpaa
open Go.Ab Go.RowKit
set_option linter.unusedVariables false
set_option linter.unusedSimpArgs false
set_option maxRecDepth 10000
set_option maxHeartbeats 1000000
theorem zkr {τ : Hp} {p0 : Int} {g : zb} {bmf0 : Nat} {vmf0_0 vmf0_1 vmf0_2 : Value} {omf0_2 : Ob} {vmf0_4 : Value} {omf0_4 : Ob} {vmf0_6 : Value} {omf0_6 : Ob} {vmf0_7 : Value} {omf0_7 : Ob} {S : Addr} (rmf0_0 : RdT zw τ vmf0_0 g.prog.Structs) (rmf0_1 : RdT zt τ vmf0_1 g.prog.Funcs) (wmf0_2 : za zq 59 τ vmf0_2 g.tree.Bodies omf0_2) (wmf0_4 : za zr 87 τ vmf0_4 g.tree.Points omf0_4) (wmf0_6 : za zo 82 τ vmf0_6 g.vars omf0_6) (wmf0_7 : za (Ty.int .i64) 3 τ vmf0_7 g.scope omf0_7) (U : At τ S [.pointer (some ⟨bmf0, 0, none⟩)]) {rr : zb} (hF : zdO p0 g = some rr) :
  zeR Try.prog 79 #[.int .i64 p0, .pointer (some S)] τ [zm bmf0 vmf0_0 vmf0_1 vmf0_2 g.tree.Main vmf0_4 g.fn vmf0_6 vmf0_7, omf0_2, omf0_4, omf0_6, omf0_7] (fun v τ' vs' => ∃ (h k o : Value) (q : Ob) (z : Value) (B : Ob) (D : Value) (E : Ob) (G : Value) (I : Ob), v = .tuple #[] ∧ vs' = [zm bmf0 h k o rr.tree.Main z rr.fn D G, q, B, E, I] ∧ RdT zw τ' h rr.prog.Structs ∧ RdT zt τ' k rr.prog.Funcs ∧ za zq 59 τ' o rr.tree.Bodies q ∧ za zr 87 τ' z rr.tree.Points B ∧ za zo 82 τ' D rr.vars E ∧ za (Ty.int .i64) 3 τ' G rr.scope I) := by
 obtain ⟨Amf0_0, cmf0_0, rfl, -⟩ := rmf0_0.form
 obtain ⟨Amf0_1, cmf0_1, rfl, -⟩ := rmf0_1.form
 obtain ⟨Amf0_2, cmf0_2, rfl, -⟩ := wmf0_2.form
 obtain ⟨Amf0_4, cmf0_4, rfl, -⟩ := wmf0_4.form
 obtain ⟨Amf0_6, cmf0_6, rfl, -⟩ := wmf0_6.form
 obtain ⟨Amf0_7, cmf0_7, rfl, -⟩ := wmf0_7.form
 refine znM (args := [.int .i64 p0, .pointer (some S)]) hm Try.func79 s79 rfl fun w0 σ hO Q hQ => ?_
 unfold zdO at hF
 have hL := Hp.le.refl τ
 show wpn _ _ a79.body _ _ _
 unfold a79
 dsimp only
 refine zgE (zbh rfl ((U.le hL).le hO.base).fst ?_)
 refine zbh rfl ((U.le hL).le hO.base).fst ?_
 refine zg hO 4 [0] [(7, zor Amf0_7 g.scope cmf0_7), (8, zok p0)] [1, 3] (And.intro (And.intro rfl rfl) zn7) fun j => ?_
 obtain ⟨Y, W, hF⟩ := zoq hF
 refine zmS (T := (Ty.int .i64)) (wmf0_7.le hL) rfl rfl W fun X => ?_
 refine zg hO 2 [] [(11, .pointer (some ⟨bmf0, 7, none⟩))] [1, 9] zn6 fun j => ?_
 refine zu hO (i := 0) rfl (off := 7) rfl rfl rfl rfl (Nat.le_of_ble_eq_true rfl) rfl fun σ hO => ?_
 have hO := zop5 hO
 refine ze (zh ?_)
 cases hF
 exact (hQ _ _ _ _ _ rfl hO hL ⟨_, _, _, _, _, _, _, _, _, _, rfl, rfl, (rmf0_0.le hL), (rmf0_1.le hL), (wmf0_2.le hL), (wmf0_4.le hL), (wmf0_6.le hL), X⟩).2
abbrev zjW (V : Nat) (rr : Except (Value × zb) ((List zj) × zb)) : List PanicEntry → Hp → List Ob → Prop := fun ch τ' vs' => match (generalizing := false) rr with | .ok _ => False | .error ee => ∃ (h k o : Value) (q : Ob) (z : Value) (B : Ob) (D : Value) (E : Ob) (G : Value) (I : Ob), ch = [{ v := ee.1, recovered := false }] ∧ vs' = [zm V h k o ee.2.tree.Main z ee.2.fn D G, q, B, E, I] ∧ RdT zw τ' h ee.2.prog.Structs ∧ RdT zt τ' k ee.2.prog.Funcs ∧ za zq 59 τ' o ee.2.tree.Bodies q ∧ za zr 87 τ' z ee.2.tree.Points B ∧ za zo 82 τ' D ee.2.vars E ∧ za (Ty.int .i64) 3 τ' G ee.2.scope I
def zhx : zU := (.seq (.reg [.s ⟨(some 5), .mv (.c (.slice none 0 0)), []⟩])
(.seq (.seq (.reg [.s ⟨(some 14), .mv (.t 1), []⟩,
 .s ⟨(some 15), .lenL (.t 14), []⟩,
 .s ⟨(some 16), .mv (.c (.int .i64 0)), []⟩])
(.block 0 (.loop (.seq (.reg [.s ⟨(some 17), .bin .lss (.t 16) (.t 15), []⟩])
(.seq (.cond (.t 17) .skip
(.exit 0))
(.seq (.block 1 (.seq (.reg [.s ⟨(some 18), .idx 11 (.t 14) (.t 16), []⟩,
 .s ⟨(some 19), .load true 11 (.t 18), []⟩,
 .s ⟨(some 7), .alloc 73 [(.int .u8 0), (.int .i64 0), (.string znS), (.string znS), (.string znS), (.int .u8 0), (.int .i64 0), (.string znS), (.slice none 0 0), (.slice none 0 0), (.slice none 0 0)], []⟩,
 .s ⟨none, .store 11 (.t 7) (.t 19), []⟩])
(.reg [.s ⟨(some 20), .mv (.t 5), []⟩,
 .s ⟨(some 21), .load false 1 (.t 2), []⟩,
 .s ⟨(some 22), .load true 11 (.t 7), []⟩,
 .s ⟨(some 23), .call 80 [(.t 21), (.t 22)], []⟩,
 .s ⟨(some 24), .bslice 115 1 [(.int .u8 0), (.int .i64 0), (.int .i64 0), (.int .i64 0), (.int .i64 0), (.slice none 0 0), (.slice none 0 0), (.slice none 0 0)] [(0, 8, (.t 23))], []⟩,
 .s ⟨(some 25), .app 115 8 112 (.t 20) (.t 24), []⟩,
 .s ⟨(some 5), .mv (.t 25), []⟩])))
(.reg [.s ⟨(some 26), .bin .add (.t 16) (.c (.int .i64 1)), []⟩,
 .s ⟨(some 16), .mv (.t 26), []⟩])))))))
(.seq (.reg [.s ⟨(some 27), .mv (.t 5), []⟩,
 .s ⟨(some 4), .mv (.t 27), []⟩])
.ret)))
theorem zj2 {gn : Nat} (ih_check_checker_list : zfX gn) (ih_check_checker_stmt : zgB gn) {τ : Hp} {q0 : zb} {Y : Nat} {f6 f7 f8 : Value} {b3 : Ob} {f9 : Value} {b4 : Ob} {g0 : Value} {b5 : Ob} {g1 : Value} {b6 : Ob} {v1 : Value} {p1 : (List zf)} {g8 : Addr} (g2 : RdT zw τ f6 q0.prog.Structs) (g3 : RdT zt τ f7 q0.prog.Funcs) (g4 : za zq 59 τ f8 q0.tree.Bodies b3) (g5 : za zr 87 τ f9 q0.tree.Points b4) (g6 : za zo 82 τ g0 q0.vars b5) (g7 : za (Ty.int .i64) 3 τ g1 q0.scope b6) (r1 : RdT zH τ v1 p1) (o3 : At τ g8 [.pointer (some ⟨Y, 0, none⟩)]) {w0 : Base} {σ : Hp} {Q : Exit → Env → Hp → Prop} {e0 : Env} {rr : Except (Value × zb) ((List zj) × zb)} (hF : zfL ((zbP gn).1) ((zbP gn).2) q0 p1 = some rr) (hP : ∀ ch σ' τ' vs', Obs τ' σ' vs' → Hp.le τ τ' → (zjW Y rr) ch τ' vs' → w0.pan ch σ') (hO : Obs τ σ [zm Y f6 f7 f8 q0.tree.Main f9 q0.fn g0 g1, b3, b4, b5, b6]) (hQ : ∀ e σ' rs τ' vs', resvs e σ' [.t 4] = some rs → Obs τ' σ' vs' → Hp.le τ τ' → (fun v τ' vs' => match (generalizing := false) rr with | .ok rr => ∃ (v0 : Value) (o0 : Ob) (g9 h0 h1 : Value) (h2 : Ob) (h3 : Value) (h4 : Ob) (h5 : Value) (h6 : Ob) (h7 : Value) (h8 : Ob), v = v0 ∧ vs' = [o0, zm Y g9 h0 h1 rr.2.tree.Main h3 rr.2.fn h5 h7, h2, h4, h6, h8] ∧ za zba 115 τ' v0 rr.1 o0 ∧ RdT zw τ' g9 rr.2.prog.Structs ∧ RdT zt τ' h0 rr.2.prog.Funcs ∧ za zq 59 τ' h1 rr.2.tree.Bodies h2 ∧ za zr 87 τ' h3 rr.2.tree.Points h4 ∧ za zo 82 τ' h5 rr.2.vars h6 ∧ za (Ty.int .i64) 3 τ' h7 rr.2.scope h8 | .error _ => False) (zch rs) τ' vs' → Q .ret e σ' ∧ Q .normal e σ') : wpn Try.prog w0 zhx Q (sets [(0, .pointer (some ⟨Y, 0, none⟩)), (1, v1), (2, .pointer (some g8))] e0) σ := by
 obtain ⟨j7, j8, rfl, -⟩ := g2.form
 obtain ⟨j9, k0, rfl, -⟩ := g3.form
 obtain ⟨k1, k2, rfl, -⟩ := g4.form
 obtain ⟨k3, k4, rfl, -⟩ := g5.form
 obtain ⟨k5, k6, rfl, -⟩ := g6.form
 obtain ⟨k7, k8, rfl, -⟩ := g7.form
 obtain ⟨A1, c1, rfl, -⟩ := r1.form
 unfold zhx
 unfold zfL at hF
 have hL := Hp.le.refl τ
 refine zd hO [] [(5, .slice none 0 0)] [0, 1, 2] zn7 fun j => ?_
 refine zn (zd hO [] [(14, zor A1 p1 c1), (15, zok (p1.length : Int)), (16, zok 0)] [0, 2, 5] zn9 fun j => ?_)
 refine zbr ?_
 have hO := hO.no
 have hO := zop6 hO
 refine zcg (fun (n : Nat) e' σ' => ∃ (b8 : Option Addr) (b9 : Nat) (o : List zbj) (c0 : Option Addr) (c2 : Nat) (q : List zB) (c3 : Option Addr) (c4 : Nat) (c5 : Ob) (z : List zI) (V : Int) (c6 : Option Addr) (c7 : Nat) (c8 : Ob) (B : List zE) (W : Int) (c9 : Option Addr) (d0 : Nat) (d5 : Ob) (D : List zG) (d6 : Option Addr) (d7 : Nat) (d8 : Ob) (E : List Int) (Z : Option Addr) (b0 : Nat) (d9 : Ob) (k : List zj) (G : Int) (τ' : Hp), agr [(0, zol Y), (2, .pointer (some g8)), (5, zor Z k b0), (14, zor A1 p1 c1), (15, zok (p1.length : Int)), (16, zok G)] e' ∧ Obs τ' σ' [zm Y (zor b8 o b9) (zor c0 q c2) (zor c3 z c4) V (zor c6 B c7) W (zor c9 D d0) (zor d6 E d7), c5, c8, d5, d8, d9] ∧ Hp.le τ τ' ∧ RdT zw τ' (zor b8 o b9) o ∧ RdT zt τ' (zor c0 q c2) q ∧ za zq 59 τ' (zor c3 z c4) z c5 ∧ za zr 87 τ' (zor c6 B c7) B c8 ∧ za zo 82 τ' (zor c9 D d0) D d5 ∧ za (Ty.int .i64) 3 τ' (zor d6 E d7) E d8 ∧ za zba 115 τ' (zor Z k b0) k d9 ∧ zd7 (zbP gn).2 p1 n o q z V B W D E k G = some rr) big ⟨j7, j8, q0.prog.Structs, j9, k0, q0.prog.Funcs, k1, k2, b3, q0.tree.Bodies, q0.tree.Main, k3, k4, b4, q0.tree.Points, q0.fn, k5, k6, b5, q0.vars, k7, k8, b6, q0.scope, none, 0, none, [], 0, _, zoj zn8, hO, hL, (g2.le hL), (g3.le hL), (g4.le hL), (g5.le hL), (g6.le hL), (g7.le hL), za.nil _ _ _, hF⟩ ?_
 clear hF hO hL
 rintro b7 e σ ⟨b8, b9, o, c0, c2, q, c3, c4, c5, z, V, c6, c7, c8, B, W, c9, d0, d5, D, d6, d7, d8, E, Z, b0, d9, k, G, _, hA, hO, hL, f0, f1, f2, f3, f4, f5, X, hF⟩
 rw [← zW _ _ hA]
 cases b7 with
 | zero => exact nomatch (show none = some rr from hF)
 | succ b7 =>
 replace hF : zfq (zd7 (zbP gn).2 p1 b7) (zbP gn).2 p1 o q z V B W D E k G = some rr := hF
 unfold zfq at hF
 refine zd hO [] [(17, .bool (decide (G < (p1.length : Int))))] [0, 2, 5, 14, 15, 16] zoa fun j => ?_
 refine zz hF rfl (fun hF => ?_) fun hF => ?_
 ·refine zN (zbr ?_)
  obtain ⟨h, l0, hF⟩ := zoq hF
  refine zbG (T := zH) (r1.le hL) hO.base rfl rfl l0 (by decide) fun a264 _ l1 l2 => ?_
  obtain ⟨o9, p2, p3, rfl, I, S, U⟩ := zgb l1
  obtain ⟨l3, l4, rfl, -⟩ := I.form
  obtain ⟨l5, l6, rfl, -⟩ := S.form
  obtain ⟨l7, l8, rfl, -⟩ := U.form
  refine zbh rfl ((l2.le hO.base).all rfl) ?_
  refine zbm hO fun p4 σ hO => ?_
  have hO := zop7 hO
  refine zu hO (i := 6) rfl (off := 0) rfl rfl rfl rfl (Nat.le_of_ble_eq_true rfl) rfl fun σ hO => ?_
  have hO := zop7 hO
  refine ze (zbi (zg hO 1 [] [(20, zor Z k b0)] [0, 2, 7, 14, 15, 16] zoa fun j => ?_))
  refine zbh rfl ((o3.le hL).le hO.base).fst ?_
  refine zg hO 1 [6] [(22, .agg #[(.int .u8 (h.Kind.toNat : Int)), (.int .i64 h.Line), (.string h.Name), (.string h.Field), (.string h.Call), (.int .u8 (h.Type_.Kind.toNat : Int)), (.int .i64 h.Type_.N), (.string h.Type_.Name), (zor l3 h.Kids l4), (zor l5 h.Body l6), (zor l7 h.Else l8)])] [0, 2, 14, 15, 16, 20, 21] (And.intro (And.intro rfl rfl) zob) fun j => ?_
  have hO := hO.sel [5, 6, 0, 1, 2, 3, 4]
  rcases zP hF with ⟨p5, l9, hF⟩ | ⟨g, m0, hF⟩
  ·refine zbo (hs := [_, _]) hO (ih_check_checker_stmt (q0 := (⟨(⟨o, q⟩ : zs), (⟨z, V, B⟩ : zx), W, D, E⟩ : zb)) f0 f1 f2 f3 f4 f5 I S U l9) zn2 rfl fun _ σ _ _ hO b1 m1 => ?_
   have hL := hL.trans b1
   have X := X.le b1
   have I := I.le b1
   have S := S.le b1
   have U := U.le b1
   obtain ⟨p6, p7, p8, p9, q2, q3, q4, q5, q6, q7, rfl, rfl, h9, i0, i1, i2, i3, i4⟩ := m1
   obtain ⟨q8, q9, rfl, -⟩ := h9.form
   obtain ⟨r0, r2, rfl, -⟩ := i0.form
   obtain ⟨r3, r4, rfl, -⟩ := i1.form
   obtain ⟨r5, r6, rfl, -⟩ := i2.form
   obtain ⟨r7, r8, rfl, -⟩ := i3.form
   obtain ⟨r9, t0, rfl, -⟩ := i4.form
   have hO := zop7 hO
   cases hF
   have hO := hO.sel [2, 3, 4, 5, 6]
   exact hP _ _ _ _ hO hL ⟨_, _, _, _, _, _, _, _, _, _, rfl, rfl, h9, i0, i1, i2, i3, i4⟩
  refine zbn (hs := [_, _]) hO (ih_check_checker_stmt (q0 := (⟨(⟨o, q⟩ : zs), (⟨z, V, B⟩ : zx), W, D, E⟩ : zb)) f0 f1 f2 f3 f4 f5 I S U m0) zn2 rfl fun _ σ _ _ hO b2 m2 => ?_
  have hL := hL.trans b2
  have X := X.le b2
  have I := I.le b2
  have S := S.le b2
  have U := U.le b2
  obtain ⟨t1, t2, t3, t4, t5, t6, m3, t7, m4, t8, m5, t9, m6, rfl, rfl, i5, i6, i7, i8, i9, j0, j1, j2, j3⟩ := m2
  obtain ⟨u0, u1, rfl, -⟩ := i5.form
  obtain ⟨u2, u3, rfl, -⟩ := i6.form
  obtain ⟨u4, u5, rfl, -⟩ := i7.form
  obtain ⟨m7, m8, rfl, -⟩ := i8.form
  obtain ⟨m9, n0, rfl, -⟩ := i9.form
  obtain ⟨n1, n2, rfl, -⟩ := j0.form
  obtain ⟨n3, n4, rfl, -⟩ := j1.form
  obtain ⟨n5, n6, rfl, -⟩ := j2.form
  obtain ⟨n7, n8, rfl, -⟩ := j3.form
  have hO := zop7 hO
  obtain ⟨_, k9, hF⟩ := zoq hF
  refine zdt (T := zba) (y := (⟨g.1.Kind, g.1.Point, g.1.Var, g.1.Field, g.1.Call, g.1.Kids, g.1.Body, g.1.Else⟩ : zj)) hO X (i := 0) rfl rfl (fun _ => rfl) rfl (zno ⟨_, _, _, rfl, i5, i6, i7⟩) rfl k9 (by decide) fun u _ σ n9 j4 hO => ?_
  obtain ⟨j5, j6, rfl, -⟩ := j4.form
  have hO := zop7 hO
  refine zd hO [] [(5, zor j5 (k ++ [(⟨g.1.Kind, g.1.Point, g.1.Var, g.1.Field, g.1.Call, g.1.Kids, g.1.Body, g.1.Else⟩ : zj)]) j6)] [0, 2, 14, 15, 16] zn9 fun j => ?_
  refine zh (zX (zi (zbi (zd hO [] [(16, zok (IntKind.i64.wrap (G + 1)))] [0, 2, 5, 14, 15] zn9 fun j => ?_))))
  refine zh (zi ?_)
  have hO := hO.sel [2, 3, 4, 5, 6, 0]
  exact ⟨b7, Nat.lt_succ_self _, m7, m8, g.2.prog.Structs, m9, n0, g.2.prog.Funcs, n1, n2, m3, g.2.tree.Bodies, g.2.tree.Main, n3, n4, m4, g.2.tree.Points, g.2.fn, n5, n6, m5, g.2.vars, n7, n8, m6, g.2.scope, j5, j6, n9, (k ++ [(⟨g.1.Kind, g.1.Point, g.1.Var, g.1.Field, g.1.Call, g.1.Kids, g.1.Body, g.1.Else⟩ : zj)]), (IntKind.i64.wrap (G + 1)), _, zoj zn8, hO, hL, i8, i9, j0, j1, j2, j3, j4, hF⟩
 refine zb9 (zbR (zbX (zi (zd hO [] [(4, zor Z k b0)] [0] zn5 fun j => ?_))))
 refine zbb ?_
 cases hF
 have hO := hO.sel [5, 0, 1, 2, 3, 4]
 refine (hQ _ _ _ _ _ rfl hO hL ?_).1
 exact ⟨_, _, _, _, _, _, _, _, _, _, _, _, rfl, rfl, X, f0, f1, f2, f3, f4, f5⟩
def a64 : zej := ⟨28, [.t 4], (.pre (.reg [.s ⟨(some 2), .box 108 (.t 0), []⟩,
 .s ⟨(some 4), .mv (.c (.slice none 0 0)), []⟩])
(.dfr [.s ⟨(some 8), .mkfn (.func 79) [] [(.t 2)], []⟩,
 .s ⟨(some 9), .load false 1 (.t 2), []⟩,
 .s ⟨(some 10), .nilchk (.t 9), []⟩,
 .s ⟨(some 11), .faddr 7 (.t 10), []⟩,
 .s ⟨(some 12), .load false 1 (.t 11), []⟩,
 .s ⟨(some 13), .lenL (.t 12), []⟩] 8 [(.t 13)] zhx))⟩
theorem s64 : ze7 Try.prog [] Try.f64 = some a64.fn := by kernel_rfl
theorem znC {gn : Nat} (ih_check_checker_list : zfX gn) (ih_check_checker_stmt : zgB gn) {τ : Hp} {q0 : zb} {g : Nat} {b5 b6 b7 : Value} {b8 : Ob} {b9 : Value} {c0 : Ob} {c2 : Value} {c3 : Ob} {c4 : Value} {c5 : Ob} {v1 : Value} {p1 : (List zf)} (k : RdT zw τ b5 q0.prog.Structs) (o : RdT zt τ b6 q0.prog.Funcs) (B : za zq 59 τ b7 q0.tree.Bodies b8) (D : za zr 87 τ b9 q0.tree.Points c0) (E : za zo 82 τ c2 q0.vars c3) (G : za (Ty.int .i64) 3 τ c4 q0.scope c5) (r1 : RdT zH τ v1 p1) {rr : Except (Value × zb) ((List zj) × zb)} (hF : zfJ ((zbP gn).1) ((zbP gn).2) q0 p1 = some rr) :
  zbu Try.prog 64 #[.pointer (some ⟨g, 0, none⟩), v1] τ [zm g b5 b6 b7 q0.tree.Main b9 q0.fn c2 c4, b8, c0, c3, c5] (fun v τ' vs' => match (generalizing := false) rr with | .ok rr => ∃ (v0 : Value) (o0 : Ob) (I S U : Value) (V : Ob) (W : Value) (X : Ob) (Y : Value) (Z : Ob) (b0 : Value) (b1 : Ob), v = v0 ∧ vs' = [o0, zm g I S U rr.2.tree.Main W rr.2.fn Y b0, V, X, Z, b1] ∧ za zba 115 τ' v0 rr.1 o0 ∧ RdT zw τ' I rr.2.prog.Structs ∧ RdT zt τ' S rr.2.prog.Funcs ∧ za zq 59 τ' U rr.2.tree.Bodies V ∧ za zr 87 τ' W rr.2.tree.Points X ∧ za zo 82 τ' Y rr.2.vars Z ∧ za (Ty.int .i64) 3 τ' b0 rr.2.scope b1 | .error _ => False) (fun ch τ' vs' => match (generalizing := false) rr with | .ok _ => False | .error ee => ∃ (I S U : Value) (V : Ob) (W : Value) (X : Ob) (Y : Value) (Z : Ob) (b0 : Value) (b1 : Ob), ch = [{ v := ee.1, recovered := false }] ∧ vs' = [zm g I S U ee.2.tree.Main W ee.2.fn Y b0, V, X, Z, b1] ∧ RdT zw τ' I ee.2.prog.Structs ∧ RdT zt τ' S ee.2.prog.Funcs ∧ za zq 59 τ' U ee.2.tree.Bodies V ∧ za zr 87 τ' W ee.2.tree.Points X ∧ za zo 82 τ' Y ee.2.vars Z ∧ za (Ty.int .i64) 3 τ' b0 ee.2.scope b1) := by
 obtain ⟨h8, h9, rfl, -⟩ := k.form
 obtain ⟨i0, i1, rfl, -⟩ := o.form
 obtain ⟨i2, i3, rfl, -⟩ := B.form
 obtain ⟨i4, i5, rfl, -⟩ := D.form
 obtain ⟨i6, i7, rfl, -⟩ := E.form
 obtain ⟨i8, i9, rfl, -⟩ := G.form
 obtain ⟨A1, c1, rfl, -⟩ := r1.form
 unfold zfJ at hF
 obtain ⟨r, hB, hF⟩ := zoq hF
 refine zke (J := []) (af := a64) (args := [.pointer (some ⟨g, 0, none⟩), .slice A1 p1.length c1]) hm Try.func64 s64 rfl fun w0 σ hO Q hQ hP => ?_
 have hL := Hp.le.refl τ
 show zc8 _ _ _ a64.body _ _ _
 unfold a64
 dsimp only [zc8]
 refine zbi (zbJ (n := 1) hO rfl rfl fun b2 σ hO => ?_)
 have hO := zop6 hO
 refine zD hO [] [(0, zol g), (1, zor A1 p1 c1), (2, zol b2)] ⟨rfl, rfl, rfl, trivial⟩ fun j => ?_
 refine zh ?_
 dsimp only [thn]
 refine zbi (zD hO [5, 0] [(0, zol g), (1, zor A1 p1 c1), (2, zol b2), (8, .func (.func 79) #[] #[.pointer (some ⟨b2, 0, none⟩)]), (13, zok (q0.scope.length : Int))] ⟨⟨rfl, rfl⟩, ⟨rfl, rfl⟩, rfl, rfl, rfl, rfl, rfl, trivial⟩ fun j => ?_)
 refine zh ?_
 refine ⟨rfl, 79, #[.pointer (some ⟨b2, 0, none⟩)], rfl, by kernel_rfl, ?_⟩
 obtain ⟨τ6, h6, m6, hO⟩ := hO.shareV (i := 5) rfl
 have hO := hO.sel [0, 1, 2, 3, 4]
 have hL := hL.trans h6
 have k := k.le h6
 have o := o.le h6
 have B := B.le h6
 have D := D.le h6
 have E := E.le h6
 have G := G.le h6
 have r1 := r1.le h6
 cases r with
 | ok c =>
  replace hF : ((zdO (q0.scope.length : Int) c.2).bind fun q => some (Except.ok (c.1, q))) = some rr := hF
  obtain ⟨q, hC, hF⟩ := zoq hF
  cases hF
  refine zcw (fun _ _ => False) rfl (fun _ _ _ h => h.elim) ?_
  refine (congrArg (fun z => wpn _ _ _ _ z _) (zW [(0, zol g), (1, zor A1 p1 c1), (2, zol b2)] _ ⟨rfl, rfl, rfl, trivial⟩)).mp ?_
  refine zj2 ih_check_checker_list ih_check_checker_stmt k o B D E G r1 m6 hB (fun _ _ _ _ _ _ h => h.elim) hO fun e σ' rs τ' vs' hrs hO' hle hK => ?_
  obtain ⟨v0, o0, u0, u1, u2, y2, u4, y4, u6, y6, u7, y7, hv, rfl, fv, f0, f1, f2, f4, f6, f7⟩ := hK
  have key : zb3 Try.prog w0 79 #[.int .i64 (q0.scope.length : Int), .pointer (some ⟨b2, 0, none⟩)] .returning σ' fun u' σ'' => settle u' = .returning ∧ Q .ret e σ'' := (zeR.fr .returning (hs := [_]) hO' (zkr f0 f1 f2 f4 f6 f7 (m6.le hle) hC)).mono fun u' σ2 ⟨hu, _, τ2, h7, c9, hle2, d0⟩ => by
   subst hu
   obtain ⟨z0, z1, z2, t2, z4, t4, z6, t6, z7, t7, _, rfl, g0, g1, g2, g4, g6, g7⟩ := d0
   exact ⟨rfl, hQ e σ2 rs τ2 _ hrs c9 ((hL.trans hle).trans hle2) ⟨_, _, _, _, _, _, _, _, _, _, _, _, hv, rfl, fv.le hle2, g0, g1, g2, g4, g6, g7⟩⟩
  exact ⟨fun _ => key, fun _ => key⟩
 | error c =>
  replace hF : ((zdO (q0.scope.length : Int) c.2).bind fun q => some (Except.error (c.1, q))) = some rr := hF
  obtain ⟨q, hC, hF⟩ := zoq hF
  cases hF
  refine zcw (fun ch σ' => ∃ τ' vs', Obs τ' σ' vs' ∧ Hp.le τ6 τ' ∧ zjW g (.error c) ch τ' vs') rfl (fun ch e σ' hpn _ => ?_) ?_
  rotate_left
  ·refine (congrArg (fun z => wpn _ _ _ _ z _) (zW [(0, zol g), (1, zor A1 p1 c1), (2, zol b2)] _ ⟨rfl, rfl, rfl, trivial⟩)).mp ?_
   exact zj2 ih_check_checker_list ih_check_checker_stmt k o B D E G r1 m6 hB (fun ch σ' τ' vs' h1 h2 h3 => ⟨τ', vs', h1, h2, h3⟩) hO fun e σ' rs τ' vs' _ hO' hle hK => hK.elim
  ·obtain ⟨τ', vs', hO', hle, u0, u1, u2, y2, u4, y4, u6, y6, u7, y7, rfl, rfl, f0, f1, f2, f4, f6, f7⟩ := hpn
   refine (zeR.fr _ (hs := []) hO' (zkr f0 f1 f2 f4 f6 f7 (m6.le hle) hC)).mono fun u' σ2 ⟨hu, _, τ2, h7, c9, hle2, d0⟩ => ?_
   subst hu
   obtain ⟨z0, z1, z2, t2, z4, t4, z6, t6, z7, t7, _, rfl, g0, g1, g2, g4, g6, g7⟩ := d0
   exact .inr ⟨_, rfl, hP _ e σ2 τ2 _ c9 ((hL.trans hle).trans hle2) ⟨_, _, _, _, _, _, _, _, _, _, rfl, rfl, g0, g1, g2, g4, g6, g7⟩⟩
theorem zmk {gn : Nat} (ih_check_checker_list : zfX gn) (ih_check_checker_stmt : zgB gn) {τ : Hp} {q0 : zb} {h : Nat} {w8 w9 x0 : Value} {h5 : Ob} {x1 : Value} {x2 : Ob} {x3 : Value} {h6 : Ob} {x4 : Value} {i0 : Ob} {p1 : zf} {K1 K2 x5 : Value} (k : RdT zw τ w8 q0.prog.Structs) (g : RdT zt τ w9 q0.prog.Funcs) (g1 : za zq 59 τ x0 q0.tree.Bodies h5) (x6 : za zr 87 τ x1 q0.tree.Points x2) (g2 : za zo 82 τ x3 q0.vars h6) (c9 : za (Ty.int .i64) 3 τ x4 q0.scope i0) (W : RdT zZ τ K1 p1.Kids) (g3 : RdT zH τ K2 p1.Body) (b8 : RdT zH τ x5 p1.Else) {rr : Except (Value × zb) (zj × zb)} (hF : zfa ((zbP gn).1) ((zbP gn).2) q0 p1 = some rr) :
  zbu Try.prog 80 #[.pointer (some ⟨h, 0, none⟩), .agg #[.int .u8 p1.Kind.toNat, .int .i64 p1.Line, .string p1.Name, .string p1.Field, .string p1.Call, .int .u8 p1.Type_.Kind.toNat, .int .i64 p1.Type_.N, .string p1.Type_.Name, K1, K2, x5]] τ [zm h w8 w9 x0 q0.tree.Main x1 q0.fn x3 x4, h5, x2, h6, i0] (fun v τ' vs' => match (generalizing := false) rr with | .ok rr => ∃ (K3 K4 K5 p5 p6 p7 : Value) (p8 : Ob) (p9 : Value) (q2 : Ob) (q3 : Value) (q4 : Ob) (q5 : Value) (q6 : Ob), v = .agg #[.int .u8 rr.1.Kind.toNat, .int .i64 rr.1.Point, .int .i64 rr.1.Var, .int .i64 rr.1.Field, .int .i64 rr.1.Call, K3, K4, K5] ∧ vs' = [zm h p5 p6 p7 rr.2.tree.Main p9 rr.2.fn q3 q5, p8, q2, q4, q6] ∧ RdT zbk τ' K3 rr.1.Kids ∧ RdT zba τ' K4 rr.1.Body ∧ RdT zba τ' K5 rr.1.Else ∧ RdT zw τ' p5 rr.2.prog.Structs ∧ RdT zt τ' p6 rr.2.prog.Funcs ∧ za zq 59 τ' p7 rr.2.tree.Bodies p8 ∧ za zr 87 τ' p9 rr.2.tree.Points q2 ∧ za zo 82 τ' q3 rr.2.vars q4 ∧ za (Ty.int .i64) 3 τ' q5 rr.2.scope q6 | .error _ => False) (fun ch τ' vs' => match (generalizing := false) rr with | .ok _ => False | .error ee => ∃ (p5 p6 p7 : Value) (p8 : Ob) (p9 : Value) (q2 : Ob) (q3 : Value) (q4 : Ob) (q5 : Value) (q6 : Ob), ch = [{ v := ee.1, recovered := false }] ∧ vs' = [zm h p5 p6 p7 ee.2.tree.Main p9 ee.2.fn q3 q5, p8, q2, q4, q6] ∧ RdT zw τ' p5 ee.2.prog.Structs ∧ RdT zt τ' p6 ee.2.prog.Funcs ∧ za zq 59 τ' p7 ee.2.tree.Bodies p8 ∧ za zr 87 τ' p9 ee.2.tree.Points q2 ∧ za zo 82 τ' q3 ee.2.vars q4 ∧ za (Ty.int .i64) 3 τ' q5 ee.2.scope q6) := by
 obtain ⟨x7, x8, rfl, -⟩ := k.form
 obtain ⟨q9, r0, rfl, -⟩ := g.form
 obtain ⟨m0, m1, rfl, -⟩ := g1.form
 obtain ⟨x9, y0, rfl, -⟩ := x6.form
 obtain ⟨m2, m3, rfl, -⟩ := g2.form
 obtain ⟨j4, j5, rfl, -⟩ := c9.form
 obtain ⟨c7, c8, rfl, -⟩ := W.form
 obtain ⟨j2, j3, rfl, -⟩ := g3.form
 obtain ⟨g4, g5, rfl, -⟩ := b8.form
 refine zcz (args := [.pointer (some ⟨h, 0, none⟩), .agg #[.int .u8 p1.Kind.toNat, .int .i64 p1.Line, .string p1.Name, .string p1.Field, .string p1.Call, .int .u8 p1.Type_.Kind.toNat, .int .i64 p1.Type_.N, .string p1.Type_.Name, (.slice c7 p1.Kids.length c8), (.slice j2 p1.Body.length j3), (.slice g4 p1.Else.length g5)]]) hm Try.func80 s80 rfl fun w0 σ hP hO Q hQ => ?_
 unfold zfa at hF
 have hL := Hp.le.refl τ
 show wpn _ _ a80.body _ _ _
 unfold a80
 dsimp only
 refine zbJ (n := 11) hO rfl rfl fun b3 σ hO => ?_
 have hO := zop6 hO
 refine zbm hO fun b4 σ hO => ?_
 have hO := zop7 hO
 refine ze (zcQ (zg hO 9 [5, 0] [(7, zol b3), (8, .int .u8 (p1.Kind.toNat : Int)), (12, .pointer (some ⟨h, 4, none⟩)), (13, zor x9 q0.tree.Points y0), (15, .agg #[(.int .u8 (p1.Kind.toNat : Int)), (.int .i64 (q0.tree.Points.length : Int)), (.int .i64 (-1)), (.int .i64 0), (.int .i64 (-1)), (.slice none 0 0), (.slice none 0 0), (.slice none 0 0)])] [0, 3, 4] (And.intro (And.intro rfl rfl) (And.intro (And.intro rfl rfl) zob)) fun j => ?_))
 refine zbt (zbm hO fun b5 σ hO => ?_)
 have hO := zop8 hO
 refine ze (zbs ⟨(zA rfl (hO.val (i := 0) (off := 4) (agg := false) (n := 1) rfl rfl) rfl), (zA rfl (hO.val (i := 5) (off := 0) (agg := false) (n := 1) rfl rfl) rfl), trivial⟩ ?_)
 refine zu hO (i := 7) rfl (off := 0) rfl rfl rfl rfl (Nat.le_of_ble_eq_true rfl) rfl fun σ hO => ?_
 have hO := zop8 hO
 refine ze (zcQ (zg hO 16 [0, 0, 5, 0] [(16, zol h), (20, .pointer (some ⟨h, 4, none⟩)), (21, zor x9 q0.tree.Points y0), (24, .pointer (some ⟨h, 5, none⟩)), (25, zok q0.fn), (26, .pointer (some ⟨b3, 1, none⟩)), (27, zok p1.Line), (31, zor j4 q0.scope j5)] [0, 3, 4, 5] (And.intro (And.intro rfl rfl) (And.intro (And.intro rfl rfl) (And.intro (And.intro rfl rfl) (And.intro (And.intro rfl rfl) zof)))) fun j => ?_))
 refine zbt ?_
 obtain ⟨c6, h7, hF⟩ := zoq hF
 have hO := hO.sel [0, 1, 2, 3, 5, 6, 7, 4]
 refine zb1 (hs := [_, _, _, _, _, _, _]) hO (Ctr.lendO (zmO .i64) (c9.le hL) fun _ r => zmF r h7) rfl fun _ σ _ _ hO h8 h9 => ?_
 have hL := hL.trans h8
 obtain ⟨v10, o11, rfl, rfl, w12⟩ := h9
 obtain ⟨K6, K7, rfl, -⟩ := w12.form
 have hO := zop9 hO
 have hO := hO.sel [0, 1, 2, 3, 8, 4, 5, 6, 7]
 have hO := zop9 hO
 refine ze (zbs ⟨(zA rfl (hO.val (i := 5) (off := 1) (agg := false) (n := 1) rfl rfl) rfl), (zA rfl (hO.val (i := 0) (off := 5) (agg := false) (n := 1) rfl rfl) rfl), (zA rfl (hO.val (i := 0) (off := 4) (agg := false) (n := 1) rfl rfl) rfl), trivial⟩ ?_)
 refine zg hO 1 [] [(33, .agg #[(.int .i64 q0.fn), (.int .i64 p1.Line), (zor K6 c6 K7)])] [0, 3, 4, 5, 16, 20, 21] zob fun j => ?_
 refine zbt ?_
 obtain ⟨_, h16, K8, hO⟩ := w12.share hO (i := 8) rfl
 have hL := hL.trans h16
 have hO := zop9 hO
 refine z5 (T := zr) (l := ([(⟨q0.fn, p1.Line, c6⟩ : zE)] : List zE)) (cs := [.int .i64 q0.fn, .int .i64 p1.Line, zor K6 c6 K7]) hO rfl ⟨[.int .i64 q0.fn, .int .i64 p1.Line, zor K6 c6 K7], _, rfl, ⟨_, rfl, K8⟩, rfl⟩ rfl (by decide) fun _ σ o19 w20 hO => ?_
 obtain ⟨A17, c18, rfl, -⟩ := w20.form
 have hO := zop10 hO
 refine ze (zbs ⟨(zA rfl (hO.val (i := 0) (off := 4) (agg := false) (n := 1) rfl rfl) rfl), trivial⟩ ?_)
 obtain ⟨_, h22, r21, hO⟩ := w20.share hO (i := 9) rfl
 have hL := hL.trans h22
 have K8 := K8.le h22
 have hO := zop10 hO
 obtain ⟨_, b6t, hF⟩ := zoq hF
 refine zeY (T := zr) hO (x6.le hL) (i := 2) rfl rfl rfl r21 b6t (by decide) fun _ σ y1 q7 hO => ?_
 obtain ⟨y2, y3, rfl, -⟩ := q7.form
 have hO := zop10 hO
 refine zg hO 3 [] [(38, .pointer (some ⟨h, 4, none⟩))] [0, 3, 4, 5, 35] zn9 fun j => ?_
 refine zu hO (i := 0) rfl (off := 4) rfl rfl rfl rfl (Nat.le_of_ble_eq_true rfl) rfl fun σ hO => ?_
 have hO := zop10 hO
 refine ze (zn (zd hO [5] [(40, .int .u8 (p1.Kind.toNat : Int))] [0, 3, 4, 5] (And.intro (And.intro rfl rfl) zn8) fun j => ?_))
 refine zfQ (fun e' σ' => ∃ (r1 : Option Addr) (r2 : Nat) (j6 : List zbj) (r3 : Option Addr) (r4 : Nat) (j7 : List zB) (r5 : Option Addr) (r6 : Nat) (r7 : Ob) (j8 : List zI) (r8 : Int) (r9 : Option Addr) (t0 : Nat) (t1 : Ob) (j9 : List zE) (t2 : Int) (t3 : Option Addr) (t4 : Nat) (t5 : Ob) (k0 : List zG) (t6 : Option Addr) (t7 : Nat) (t8 : Ob) (k1 : List Int) (m4 : UInt8) (m5 m6 m7 m8 : Int) (m9 : Option Addr) (n0 : Nat) (i1 : List zl) (n1 : Option Addr) (n2 : Nat) (i2 : List zj) (n3 : Option Addr) (n4 : Nat) (i3 : List zj) (τ' : Hp), agr [(0, zol h), (4, zol b4), (5, zol b5)] e' ∧ Obs τ' σ' [zm h (zor r1 j6 r2) (zor r3 j7 r4) (zor r5 j8 r6) r8 (zor r9 j9 t0) t2 (zor t3 k0 t4) (zor t6 k1 t7), r7, t1, t5, t8, zb0 b4 0 0 0 0 0 (.slice none 0 0) (.slice none 0 0) (.slice none 0 0), zb0 b5 (m4.toNat : Int) m5 m6 m7 m8 (zor m9 i1 n0) (zor n1 i2 n2) (zor n3 i3 n4)] ∧ Hp.le τ τ' ∧ RdT zw τ' (zor r1 j6 r2) j6 ∧ RdT zt τ' (zor r3 j7 r4) j7 ∧ za zq 59 τ' (zor r5 j8 r6) j8 r7 ∧ za zr 87 τ' (zor r9 j9 t0) j9 t1 ∧ za zo 82 τ' (zor t3 k0 t4) k0 t5 ∧ za (Ty.int .i64) 3 τ' (zor t6 k1 t7) k1 t8 ∧ RdT zbk τ' (zor m9 i1 n0) i1 ∧ RdT zba τ' (zor n1 i2 n2) i2 ∧ RdT zba τ' (zor n3 i3 n4) i3 ∧ zcB j6 j7 j8 r8 j9 t2 k0 k1 m4 m5 m6 m7 m8 i1 i2 i3 = some rr) ?_ ?_
 ·refine zd hO [] [(46, .bool ((p1.Kind.toNat : Int) == 1))] [0, 3, 4, 5, 40] zn9 fun j => ?_
  refine zbz (zz hF rfl (fun hF => ?_) fun hF => ?_)
  ·refine zg hO 2 [5] [(48, zol h), (49, .agg #[(.int .u8 (p1.Kind.toNat : Int)), (.int .i64 p1.Line), (.string p1.Name), (.string p1.Field), (.string p1.Call), (.int .u8 (p1.Type_.Kind.toNat : Int)), (.int .i64 p1.Type_.N), (.string p1.Type_.Name), (zor c7 p1.Kids c8), (zor j2 p1.Body j3), (zor g4 p1.Else g5)])] [0, 4, 5] (And.intro (And.intro rfl rfl) zn8) fun j => ?_
   have hO := hO.sel [5, 6, 8, 9, 0, 1, 2, 3, 4, 7]
   rcases zP hF with ⟨b7b, K9, hF⟩ | ⟨o, L0, hF⟩
   ·refine zbo (hs := [_, _, _, _]) hO (zjt (q0 := (⟨(⟨q0.prog.Structs, q0.prog.Funcs⟩ : zs), (⟨q0.tree.Bodies, q0.tree.Main, (q0.tree.Points ++ ([(⟨q0.fn, p1.Line, c6⟩ : zE)] : List zE))⟩ : zx), q0.fn, q0.vars, q0.scope⟩ : zb)) (q1 := (⟨p1.Kind, (q0.tree.Points.length : Int), (-1), 0, (-1), [], [], []⟩ : zj)) (k.le hL) (g.le hL) (g1.le hL) q7 (g2.le hL) (c9.le hL) (RdT.nil zbk _) (RdT.nil zba _) (RdT.nil zba _) (W.le hL) (g3.le hL) (b8.le hL) K9) zn2 rfl fun _ σ _ _ hO L1 L2 => ?_
    have hL := hL.trans L1
    obtain ⟨b7c, b7d, b7f, b7g, b7h, b7k, b7m, b7n, b7p, b7q, b7r, b7t, b7v, rfl, rfl, y4, y5, y6, y7, y8, y9, L3, L4, L5⟩ := L2
    obtain ⟨b7w, b7x, rfl, -⟩ := y4.form
    obtain ⟨b8b, b8c, rfl, -⟩ := y5.form
    obtain ⟨b8d, b8f, rfl, -⟩ := y6.form
    obtain ⟨b8g, b8h, rfl, -⟩ := y7.form
    obtain ⟨b8k, b8m, rfl, -⟩ := y8.form
    obtain ⟨b8n, b8p, rfl, -⟩ := y9.form
    obtain ⟨b8q, b8r, rfl, -⟩ := L3.form
    obtain ⟨b8t, b8v, rfl, -⟩ := L4.form
    obtain ⟨b8w, b8x, rfl, -⟩ := L5.form
    have hO := zop10 hO
    cases hF
    have hO := hO.sel [4, 5, 6, 7, 8]
    exact hP _ _ _ _ hO hL ⟨_, _, _, _, _, _, _, _, _, _, rfl, rfl, y4, y5, y6, y7, y8, y9⟩
   refine zbn (hs := [_, _, _, _]) hO (zjt (q0 := (⟨(⟨q0.prog.Structs, q0.prog.Funcs⟩ : zs), (⟨q0.tree.Bodies, q0.tree.Main, (q0.tree.Points ++ ([(⟨q0.fn, p1.Line, c6⟩ : zE)] : List zE))⟩ : zx), q0.fn, q0.vars, q0.scope⟩ : zb)) (q1 := (⟨p1.Kind, (q0.tree.Points.length : Int), (-1), 0, (-1), [], [], []⟩ : zj)) (k.le hL) (g.le hL) (g1.le hL) q7 (g2.le hL) (c9.le hL) (RdT.nil zbk _) (RdT.nil zba _) (RdT.nil zba _) (W.le hL) (g3.le hL) (b8.le hL) L0) zn2 rfl fun _ σ _ _ hO L6 L7 => ?_
   have hL := hL.trans L6
   obtain ⟨b9b, b9c, b9d, L8, b9f, L9, b9g, M0, b9h, M1, b9k, b9m, b9n, rfl, rfl, A0, A1, A2, A3, A4, A5, A6, A7, A8⟩ := L7
   obtain ⟨M2, M3, rfl, -⟩ := A0.form
   obtain ⟨M4, M5, rfl, -⟩ := A1.form
   obtain ⟨M6, M7, rfl, -⟩ := A2.form
   obtain ⟨M8, M9, rfl, -⟩ := A3.form
   obtain ⟨N0, N1, rfl, -⟩ := A4.form
   obtain ⟨N2, N3, rfl, -⟩ := A5.form
   obtain ⟨N4, N5, rfl, -⟩ := A6.form
   obtain ⟨N6, N7, rfl, -⟩ := A7.form
   obtain ⟨N8, N9, rfl, -⟩ := A8.form
   have hO := zop10 hO
   refine ze (zh (zX (zi ?_)))
   have hO := hO.sel [4, 5, 6, 7, 8, 1, 9]
   exact ⟨M2, M3, o.1.prog.Structs, M4, M5, o.1.prog.Funcs, M6, M7, L8, o.1.tree.Bodies, o.1.tree.Main, M8, M9, L9, o.1.tree.Points, o.1.fn, N0, N1, M0, o.1.vars, N2, N3, M1, o.1.scope, o.2.Kind, o.2.Point, o.2.Var, o.2.Field, o.2.Call, N4, N5, o.2.Kids, N6, N7, o.2.Body, N8, N9, o.2.Else, _, zoj zn5, hO, hL, A0, A1, A2, A3, A4, A5, A6, A7, A8, hF⟩
  refine zn (zn (zd hO [] [(51, .bool ((p1.Kind.toNat : Int) == 2))] [0, 3, 4, 5, 40] zn9 fun j => ?_))
  refine zcL (fun e' σ' => ∃ (k2 : Option Addr) (k3 : Nat) (k4 : Ob) (X : List zI) (k5 : Option Addr) (k6 : Nat) (k7 : Ob) (Y : List zE) (k8 : Option Addr) (k9 : Nat) (l0 : Ob) (Z : List zG) (l1 : Option Addr) (l2 : Nat) (l3 : Ob) (b0 : List Int) (t9 : Bool) (τ' : Hp), agr [(0, zol h), (3, zol b3), (4, zol b4), (5, zol b5), (40, .int .u8 (p1.Kind.toNat : Int)), (51, .bool t9)] e' ∧ Obs τ' σ' [zm h (zor x7 q0.prog.Structs x8) (zor q9 q0.prog.Funcs r0) (zor k2 X k3) q0.tree.Main (zor k5 Y k6) q0.fn (zor k8 Z k9) (zor l1 b0 l2), k4, k7, l0, l3, zek b3 (p1.Kind.toNat : Int) p1.Line p1.Name p1.Field p1.Call (p1.Type_.Kind.toNat : Int) p1.Type_.N p1.Type_.Name (zor c7 p1.Kids c8) (zor j2 p1.Body j3) (zor g4 p1.Else g5), zb0 b4 0 0 0 0 0 (.slice none 0 0) (.slice none 0 0) (.slice none 0 0), zb0 b5 (p1.Kind.toNat : Int) (q0.tree.Points.length : Int) (-1) 0 (-1) (.slice none 0 0) (.slice none 0 0) (.slice none 0 0)] ∧ Hp.le τ τ' ∧ za zq 59 τ' (zor k2 X k3) X k4 ∧ za zr 87 τ' (zor k5 Y k6) Y k7 ∧ za zo 82 τ' (zor k8 Z k9) Z l0 ∧ za (Ty.int .i64) 3 τ' (zor l1 b0 l2) b0 l3 ∧ zdo (zbP gn).1 q0 p1 X Y Z b0 t9 = some rr) ?_ ?_
  ·refine zbz (zz hF rfl (fun hF => ?_) fun hF => ?_)
   ·refine zN (zh (zi ?_))
    have hO := hO.sel [0, 1, 2, 3, 4, 5, 6, 7]
    exact ⟨m0, m1, h5, q0.tree.Bodies, y2, y3, y1, (q0.tree.Points ++ ([(⟨q0.fn, p1.Line, c6⟩ : zE)] : List zE)), m2, m3, h6, q0.vars, j4, j5, i0, q0.scope, ((p1.Kind.toNat : Int) == 2), _, zoj zn8, hO, hL, (g1.le hL), q7, (g2.le hL), (c9.le hL), hF⟩
   refine zn (zd hO [] [(51, .bool ((p1.Kind.toNat : Int) == 3))] [0, 3, 4, 5, 40] zn9 fun j => ?_)
   refine zz hF rfl (fun hF => ?_) fun hF => ?_
   ·refine zN (zh (zi ?_))
    have hO := hO.sel [0, 1, 2, 3, 4, 5, 6, 7]
    exact ⟨m0, m1, h5, q0.tree.Bodies, y2, y3, y1, (q0.tree.Points ++ ([(⟨q0.fn, p1.Line, c6⟩ : zE)] : List zE)), m2, m3, h6, q0.vars, j4, j5, i0, q0.scope, ((p1.Kind.toNat : Int) == 3), _, zoj zn8, hO, hL, (g1.le hL), q7, (g2.le hL), (c9.le hL), hF⟩
   refine zn (zD hO [] [(0, zol h), (3, zol b3), (4, zol b4), (5, zol b5), (40, .int .u8 (p1.Kind.toNat : Int)), (51, .bool ((p1.Kind.toNat : Int) == 4))] zn9 fun j => ?_)
   refine zz hF rfl (fun hF => ?_) fun hF => ?_
   ·refine zN (zh (zi ?_))
    have hO := hO.sel [0, 1, 2, 3, 4, 5, 6, 7]
    exact ⟨m0, m1, h5, q0.tree.Bodies, y2, y3, y1, (q0.tree.Points ++ ([(⟨q0.fn, p1.Line, c6⟩ : zE)] : List zE)), m2, m3, h6, q0.vars, j4, j5, i0, q0.scope, ((p1.Kind.toNat : Int) == 4), _, zoj zn8, hO, hL, (g1.le hL), q7, (g2.le hL), (c9.le hL), hF⟩
   refine zd hO [] [(51, .bool ((p1.Kind.toNat : Int) == 9))] [0, 3, 4, 5, 40] zn9 fun j => ?_
   refine zh (zi ?_)
   have hO := hO.sel [0, 1, 2, 3, 4, 5, 6, 7]
   exact ⟨m0, m1, h5, q0.tree.Bodies, y2, y3, y1, (q0.tree.Points ++ ([(⟨q0.fn, p1.Line, c6⟩ : zE)] : List zE)), m2, m3, h6, q0.vars, j4, j5, i0, q0.scope, ((p1.Kind.toNat : Int) == 9), _, zoj zn8, hO, hL, (g1.le hL), q7, (g2.le hL), (c9.le hL), hF⟩
  rintro e σ ⟨k2, k3, k4, X, k5, k6, k7, Y, k8, k9, l0, Z, l1, l2, l3, b0, t9, _, hA, hO, hL, i4, i5, i6, i7, hF⟩
  rw [← zW _ _ hA]
  unfold zdo at hF
  refine zz hF rfl (fun hF => ?_) fun hF => ?_
  ·refine zg hO 2 [5] [(56, zol h), (57, .agg #[(.int .u8 (p1.Kind.toNat : Int)), (.int .i64 p1.Line), (.string p1.Name), (.string p1.Field), (.string p1.Call), (.int .u8 (p1.Type_.Kind.toNat : Int)), (.int .i64 p1.Type_.N), (.string p1.Type_.Name), (zor c7 p1.Kids c8), (zor j2 p1.Body j3), (zor g4 p1.Else g5)])] [0, 4, 5] (And.intro (And.intro rfl rfl) zn8) fun j => ?_
   have hO := hO.sel [5, 6, 0, 1, 2, 3, 4, 7]
   rcases zP hF with ⟨b9p, O0, hF⟩ | ⟨q, O1, hF⟩
   ·refine zbo (hs := [_, _]) hO (zjz (q0 := (⟨(⟨q0.prog.Structs, q0.prog.Funcs⟩ : zs), (⟨X, q0.tree.Main, Y⟩ : zx), q0.fn, Z, b0⟩ : zb)) (q1 := (⟨p1.Kind, (q0.tree.Points.length : Int), (-1), 0, (-1), [], [], []⟩ : zj)) (k.le hL) (g.le hL) i4 i5 i6 i7 (RdT.nil zbk _) (RdT.nil zba _) (RdT.nil zba _) (W.le hL) (g3.le hL) (b8.le hL) O0) zn2 rfl fun _ σ _ _ hO O2 O3 => ?_
    have hL := hL.trans O2
    obtain ⟨b9q, b9r, b9t, b9v, b9w, b9x, c0b, c0c, c0d, c0f, c0g, c0h, c0k, rfl, rfl, A9, B0, B1, B2, B3, B4, O4, O5, O6⟩ := O3
    obtain ⟨c0m, c0n, rfl, -⟩ := A9.form
    obtain ⟨c0p, c0q, rfl, -⟩ := B0.form
    obtain ⟨c0r, c0t, rfl, -⟩ := B1.form
    obtain ⟨c0v, c0w, rfl, -⟩ := B2.form
    obtain ⟨c0x, c1b, rfl, -⟩ := B3.form
    obtain ⟨c1c, c1d, rfl, -⟩ := B4.form
    obtain ⟨c1f, c1g, rfl, -⟩ := O4.form
    obtain ⟨c1h, c1k, rfl, -⟩ := O5.form
    obtain ⟨c1m, c1n, rfl, -⟩ := O6.form
    have hO := zop8 hO
    cases hF
    have hO := hO.sel [2, 3, 4, 5, 6]
    exact hP _ _ _ _ hO hL ⟨_, _, _, _, _, _, _, _, _, _, rfl, rfl, A9, B0, B1, B2, B3, B4⟩
   refine zbn (hs := [_, _]) hO (zjz (q0 := (⟨(⟨q0.prog.Structs, q0.prog.Funcs⟩ : zs), (⟨X, q0.tree.Main, Y⟩ : zx), q0.fn, Z, b0⟩ : zb)) (q1 := (⟨p1.Kind, (q0.tree.Points.length : Int), (-1), 0, (-1), [], [], []⟩ : zj)) (k.le hL) (g.le hL) i4 i5 i6 i7 (RdT.nil zbk _) (RdT.nil zba _) (RdT.nil zba _) (W.le hL) (g3.le hL) (b8.le hL) O1) zn2 rfl fun _ σ _ _ hO O7 O8 => ?_
   have hL := hL.trans O7
   obtain ⟨c1p, c1q, c1r, O9, c1t, P0, c1v, P1, c1w, P2, c1x, c2b, c2c, rfl, rfl, B5, B6, B7, B8, B9, C0, C1, C2, C3⟩ := O8
   obtain ⟨P3, P4, rfl, -⟩ := B5.form
   obtain ⟨P5, P6, rfl, -⟩ := B6.form
   obtain ⟨P7, P8, rfl, -⟩ := B7.form
   obtain ⟨P9, Q0, rfl, -⟩ := B8.form
   obtain ⟨Q1, Q2, rfl, -⟩ := B9.form
   obtain ⟨Q3, Q4, rfl, -⟩ := C0.form
   obtain ⟨Q5, Q6, rfl, -⟩ := C1.form
   obtain ⟨Q7, Q8, rfl, -⟩ := C2.form
   obtain ⟨Q9, R0, rfl, -⟩ := C3.form
   have hO := zop8 hO
   refine ze (zh (zX (zi ?_)))
   have hO := hO.sel [2, 3, 4, 5, 6, 1, 7]
   exact ⟨P3, P4, q.1.prog.Structs, P5, P6, q.1.prog.Funcs, P7, P8, O9, q.1.tree.Bodies, q.1.tree.Main, P9, Q0, P0, q.1.tree.Points, q.1.fn, Q1, Q2, P1, q.1.vars, Q3, Q4, P2, q.1.scope, q.2.Kind, q.2.Point, q.2.Var, q.2.Field, q.2.Call, Q5, Q6, q.2.Kids, Q7, Q8, q.2.Body, Q9, R0, q.2.Else, _, zoj zn5, hO, hL, B5, B6, B7, B8, B9, C0, C1, C2, C3, hF⟩
  refine zn (zd hO [] [(59, .bool ((p1.Kind.toNat : Int) == 5))] [0, 3, 4, 5, 40] zn9 fun j => ?_)
  refine zz hF rfl (fun hF => ?_) fun hF => ?_
  ·refine zg hO 2 [5] [(61, zol h), (62, .agg #[(.int .u8 (p1.Kind.toNat : Int)), (.int .i64 p1.Line), (.string p1.Name), (.string p1.Field), (.string p1.Call), (.int .u8 (p1.Type_.Kind.toNat : Int)), (.int .i64 p1.Type_.N), (.string p1.Type_.Name), (zor c7 p1.Kids c8), (zor j2 p1.Body j3), (zor g4 p1.Else g5)])] [0, 4, 5] (And.intro (And.intro rfl rfl) zn8) fun j => ?_
   have hO := hO.sel [5, 6, 0, 1, 2, 3, 4, 7]
   rcases zP hF with ⟨c2d, R6, hF⟩ | ⟨z, R7, hF⟩
   ·refine zbo (hs := [_, _]) hO (zji (q0 := (⟨(⟨q0.prog.Structs, q0.prog.Funcs⟩ : zs), (⟨X, q0.tree.Main, Y⟩ : zx), q0.fn, Z, b0⟩ : zb)) (q1 := (⟨p1.Kind, (q0.tree.Points.length : Int), (-1), 0, (-1), [], [], []⟩ : zj)) (k.le hL) (g.le hL) i4 i5 i6 i7 (RdT.nil zbk _) (RdT.nil zba _) (RdT.nil zba _) (W.le hL) (g3.le hL) (b8.le hL) R6) zn2 rfl fun _ σ _ _ hO R8 R9 => ?_
    have hL := hL.trans R8
    obtain ⟨c2f, c2g, c2h, c2k, c2m, c2n, c2p, c2q, c2r, c2t, c2v, c2w, c2x, rfl, rfl, C4, C5, C6, C7, C8, C9, S0, S1, S2⟩ := R9
    obtain ⟨c3b, c3c, rfl, -⟩ := C4.form
    obtain ⟨c3d, c3f, rfl, -⟩ := C5.form
    obtain ⟨c3g, c3h, rfl, -⟩ := C6.form
    obtain ⟨c3k, c3m, rfl, -⟩ := C7.form
    obtain ⟨c3n, c3p, rfl, -⟩ := C8.form
    obtain ⟨c3q, c3r, rfl, -⟩ := C9.form
    obtain ⟨c3t, c3v, rfl, -⟩ := S0.form
    obtain ⟨c3w, c3x, rfl, -⟩ := S1.form
    obtain ⟨c4b, c4c, rfl, -⟩ := S2.form
    have hO := zop8 hO
    cases hF
    have hO := hO.sel [2, 3, 4, 5, 6]
    exact hP _ _ _ _ hO hL ⟨_, _, _, _, _, _, _, _, _, _, rfl, rfl, C4, C5, C6, C7, C8, C9⟩
   refine zbn (hs := [_, _]) hO (zji (q0 := (⟨(⟨q0.prog.Structs, q0.prog.Funcs⟩ : zs), (⟨X, q0.tree.Main, Y⟩ : zx), q0.fn, Z, b0⟩ : zb)) (q1 := (⟨p1.Kind, (q0.tree.Points.length : Int), (-1), 0, (-1), [], [], []⟩ : zj)) (k.le hL) (g.le hL) i4 i5 i6 i7 (RdT.nil zbk _) (RdT.nil zba _) (RdT.nil zba _) (W.le hL) (g3.le hL) (b8.le hL) R7) zn2 rfl fun _ σ _ _ hO S3 S4 => ?_
   have hL := hL.trans S3
   obtain ⟨c4d, c4f, c4g, S5, c4h, S6, c4k, S7, c4m, S8, c4n, c4p, c4q, rfl, rfl, D0, D1, D2, D3, D4, D5, D6, D7, D8⟩ := S4
   obtain ⟨S9, T0, rfl, -⟩ := D0.form
   obtain ⟨T1, T2, rfl, -⟩ := D1.form
   obtain ⟨T3, T4, rfl, -⟩ := D2.form
   obtain ⟨T5, T6, rfl, -⟩ := D3.form
   obtain ⟨T7, T8, rfl, -⟩ := D4.form
   obtain ⟨T9, U0, rfl, -⟩ := D5.form
   obtain ⟨U1, U2, rfl, -⟩ := D6.form
   obtain ⟨U3, U4, rfl, -⟩ := D7.form
   obtain ⟨U5, U6, rfl, -⟩ := D8.form
   have hO := zop8 hO
   refine ze (zh (zX (zi ?_)))
   have hO := hO.sel [2, 3, 4, 5, 6, 1, 7]
   exact ⟨S9, T0, z.1.prog.Structs, T1, T2, z.1.prog.Funcs, T3, T4, S5, z.1.tree.Bodies, z.1.tree.Main, T5, T6, S6, z.1.tree.Points, z.1.fn, T7, T8, S7, z.1.vars, T9, U0, S8, z.1.scope, z.2.Kind, z.2.Point, z.2.Var, z.2.Field, z.2.Call, U1, U2, z.2.Kids, U3, U4, z.2.Body, U5, U6, z.2.Else, _, zoj zn5, hO, hL, D0, D1, D2, D3, D4, D5, D6, D7, D8, hF⟩
  refine zn (zn (zd hO [] [(64, .bool ((p1.Kind.toNat : Int) == 6))] [0, 3, 4, 5, 40] zn9 fun j => ?_))
  refine zcL (fun e' σ' => ∃ (u0 : Option Addr) (u1 : Nat) (u2 : Ob) (I : List zI) (u3 : Option Addr) (u4 : Nat) (u5 : Ob) (S : List zE) (u6 : Option Addr) (u7 : Nat) (u9 : Ob) (U : List zG) (v0 : Option Addr) (v1 : Nat) (v2 : Ob) (V : List Int) (v3 : Bool) (τ' : Hp), agr [(0, zol h), (3, zol b3), (4, zol b4), (5, zol b5), (40, .int .u8 (p1.Kind.toNat : Int)), (64, .bool v3)] e' ∧ Obs τ' σ' [zm h (zor x7 q0.prog.Structs x8) (zor q9 q0.prog.Funcs r0) (zor u0 I u1) q0.tree.Main (zor u3 S u4) q0.fn (zor u6 U u7) (zor v0 V v1), u2, u5, u9, v2, zek b3 (p1.Kind.toNat : Int) p1.Line p1.Name p1.Field p1.Call (p1.Type_.Kind.toNat : Int) p1.Type_.N p1.Type_.Name (zor c7 p1.Kids c8) (zor j2 p1.Body j3) (zor g4 p1.Else g5), zb0 b4 0 0 0 0 0 (.slice none 0 0) (.slice none 0 0) (.slice none 0 0), zb0 b5 (p1.Kind.toNat : Int) (q0.tree.Points.length : Int) (-1) 0 (-1) (.slice none 0 0) (.slice none 0 0) (.slice none 0 0)] ∧ Hp.le τ τ' ∧ za zq 59 τ' (zor u0 I u1) I u2 ∧ za zr 87 τ' (zor u3 S u4) S u5 ∧ za zo 82 τ' (zor u6 U u7) U u9 ∧ za (Ty.int .i64) 3 τ' (zor v0 V v1) V v2 ∧ zdY (zbP gn).1 q0 p1 I S U V v3 = some rr) ?_ ?_
  ·refine zbz (zz hF rfl (fun hF => ?_) fun hF => ?_)
   ·refine zN (zh (zi ?_))
    exact ⟨k2, k3, k4, X, k5, k6, k7, Y, k8, k9, l0, Z, l1, l2, l3, b0, ((p1.Kind.toNat : Int) == 6), _, zoj zn8, hO, hL, i4, i5, i6, i7, hF⟩
   refine zd hO [] [(64, .bool ((p1.Kind.toNat : Int) == 7))] [0, 3, 4, 5, 40] zn9 fun j => ?_
   refine zh (zi ?_)
   exact ⟨k2, k3, k4, X, k5, k6, k7, Y, k8, k9, l0, Z, l1, l2, l3, b0, ((p1.Kind.toNat : Int) == 7), _, zoj zn8, hO, hL, i4, i5, i6, i7, hF⟩
  rintro e σ ⟨u0, u1, u2, I, u3, u4, u5, S, u6, u7, u9, U, v0, v1, v2, V, v3, _, hA, hO, hL, B, D, E, G, hF⟩
  rw [← zW _ _ hA]
  unfold zdY at hF
  refine zz hF rfl (fun hF => ?_) fun hF => ?_
  ·refine zn (zg hO 3 [5] [(67, zol h), (69, zor c7 p1.Kids c8)] [0, 3, 4, 5] (And.intro (And.intro rfl rfl) zn9) fun j => ?_)
   refine z5 (T := Ty.u8) (l := ([(2 : UInt8)] : List UInt8)) (cs := [.int .u8 2]) hO rfl ⟨[.int .u8 2], _, rfl, rfl, rfl⟩ rfl (by decide) fun _ σ c4r D9 hO => ?_
   obtain ⟨c4t, c4v, rfl, -⟩ := D9.form
   have hO := zop9 hO
   obtain ⟨_, l4, i8, hO⟩ := D9.share hO (i := 8) rfl
   have hL := hL.trans l4
   have B := B.le l4
   have D := D.le l4
   have E := E.le l4
   have G := G.le l4
   have hO := zop9 hO
   have hO := hO.sel [5, 6, 7, 8, 0, 1, 2, 3, 4]
   rcases zP hF with ⟨c4w, U7, hF⟩ | ⟨E0, U8, hF⟩
   ·refine zbo (hs := [_, _, _, _]) hO (zbC (q0 := (⟨(⟨q0.prog.Structs, q0.prog.Funcs⟩ : zs), (⟨I, q0.tree.Main, S⟩ : zx), q0.fn, U, V⟩ : zb)) (k.le hL) (g.le hL) B D E G (W.le hL) i8 U7) zn2 rfl fun _ σ _ _ hO E1 U9 => ?_
    have hL := hL.trans E1
    have i8 := i8.le E1
    obtain ⟨c4x, c5b, c5c, c5d, c5f, c5g, c5h, c5k, c5m, c5n, rfl, rfl, E2, E3, E4, E5, E6, E7⟩ := U9
    obtain ⟨c5p, c5q, rfl, -⟩ := E2.form
    obtain ⟨c5r, c5t, rfl, -⟩ := E3.form
    obtain ⟨c5v, c5w, rfl, -⟩ := E4.form
    obtain ⟨c5x, c6b, rfl, -⟩ := E5.form
    obtain ⟨c6c, c6d, rfl, -⟩ := E6.form
    obtain ⟨c6f, c6g, rfl, -⟩ := E7.form
    have hO := zop9 hO
    cases hF
    have hO := hO.sel [4, 5, 6, 7, 8]
    exact hP _ _ _ _ hO hL ⟨_, _, _, _, _, _, _, _, _, _, rfl, rfl, E2, E3, E4, E5, E6, E7⟩
   refine zbn (hs := [_, _, _, _]) hO (zbC (q0 := (⟨(⟨q0.prog.Structs, q0.prog.Funcs⟩ : zs), (⟨I, q0.tree.Main, S⟩ : zx), q0.fn, U, V⟩ : zb)) (k.le hL) (g.le hL) B D E G (W.le hL) i8 U8) zn2 rfl fun _ σ _ _ hO E8 V0 => ?_
   have hL := hL.trans E8
   have i8 := i8.le E8
   obtain ⟨c6h, c6k, c6m, c6n, c6p, c6q, c6r, c6t, c6v, c6w, c6x, c7b, rfl, rfl, b1, v4, v5, v6, v7, v8, v9⟩ := V0
   obtain ⟨E9, F0, rfl, -⟩ := b1.form
   obtain ⟨c7c, c7d, rfl, -⟩ := v4.form
   obtain ⟨c7f, c7g, rfl, -⟩ := v5.form
   obtain ⟨c7h, c7k, rfl, -⟩ := v6.form
   obtain ⟨c7m, c7n, rfl, -⟩ := v7.form
   obtain ⟨c7p, c7q, rfl, -⟩ := v8.form
   obtain ⟨c7r, c7t, rfl, -⟩ := v9.form
   have hO := zop10 hO
   refine zg hO 1 [] [(72, .pointer (some ⟨b5, 5, none⟩))] [0, 3, 4, 5, 71] zn9 fun j => ?_
   refine zu hO (i := 2) rfl (off := 5) rfl rfl rfl rfl (Nat.le_of_ble_eq_true rfl) rfl fun σ hO => ?_
   have hO := zop10 hO
   refine ze (zn (zg hO 3 [0] [(73, zol h), (75, zor j2 p1.Body j3)] [0, 3, 4, 5] (And.intro (And.intro rfl rfl) zn9) fun j => ?_))
   rcases zP hF with ⟨c7v, V1, hF⟩ | ⟨b7, V2, hF⟩
   ·refine zbo (hs := [_, _, _, _, _]) hO (ih_check_checker_list v4 v5 v6 v7 v8 v9 (g3.le hL) V1) zn2 rfl fun _ σ _ _ hO F1 V3 => ?_
    have hL := hL.trans F1
    have b1 := b1.le F1
    obtain ⟨c7w, c7x, c8b, c8c, c8d, c8f, c8g, c8h, c8k, c8m, rfl, rfl, F2, F3, F4, F5, F6, F7⟩ := V3
    obtain ⟨c8n, c8p, rfl, -⟩ := F2.form
    obtain ⟨c8q, c8r, rfl, -⟩ := F3.form
    obtain ⟨c8t, c8v, rfl, -⟩ := F4.form
    obtain ⟨c8w, c8x, rfl, -⟩ := F5.form
    obtain ⟨c9b, c9c, rfl, -⟩ := F6.form
    obtain ⟨c9d, c9f, rfl, -⟩ := F7.form
    have hO := zop10 hO
    cases hF
    have hO := hO.sel [5, 6, 7, 8, 9]
    exact hP _ _ _ _ hO hL ⟨_, _, _, _, _, _, _, _, _, _, rfl, rfl, F2, F3, F4, F5, F6, F7⟩
   refine zbn (hs := [_, _, _, _, _]) hO (ih_check_checker_list v4 v5 v6 v7 v8 v9 (g3.le hL) V2) zn2 rfl fun _ σ _ _ hO F8 V4 => ?_
   have hL := hL.trans F8
   have b1 := b1.le F8
   obtain ⟨c9g, c9h, c9k, c9m, c9n, V5, c9p, V6, c9q, V7, c9r, V8, rfl, rfl, b2, d0, d5, d6, d7, d8, d9⟩ := V4
   obtain ⟨F9, G0, rfl, -⟩ := b2.form
   obtain ⟨V9, W0, rfl, -⟩ := d0.form
   obtain ⟨W1, W2, rfl, -⟩ := d5.form
   obtain ⟨W3, W4, rfl, -⟩ := d6.form
   obtain ⟨W5, W6, rfl, -⟩ := d7.form
   obtain ⟨W7, W8, rfl, -⟩ := d8.form
   obtain ⟨W9, X0, rfl, -⟩ := d9.form
   have hO := zop11 hO
   refine zg hO 1 [] [(77, .pointer (some ⟨b5, 6, none⟩))] [0, 3, 4, 5, 76] zn9 fun j => ?_
   refine zu hO (i := 2) rfl (off := 6) rfl rfl rfl rfl (Nat.le_of_ble_eq_true rfl) rfl fun σ hO => ?_
   have hO := zop11 hO
   refine ze (zn (zd hO [0] [(80, .bool ((p1.Kind.toNat : Int) == 6))] [0, 3, 4, 5] (And.intro (And.intro rfl rfl) zn8) fun j => ?_))
   refine zz hF rfl (fun hF => ?_) fun hF => ?_
   ·refine zg hO 3 [0] [(81, zol h), (83, zor g4 p1.Else g5)] [0, 4, 5] (And.intro (And.intro rfl rfl) zn8) fun j => ?_
    rcases zP hF with ⟨c9t, X1, hF⟩ | ⟨b9, X2, hF⟩
    ·refine zbo (hs := [_, _, _, _, _, _]) hO (ih_check_checker_list d0 d5 d6 d7 d8 d9 (b8.le hL) X1) zn2 rfl fun _ σ _ _ hO w2 X3 => ?_
     have hL := hL.trans w2
     have b1 := b1.le w2
     have b2 := b2.le w2
     obtain ⟨c9v, c9w, c9x, d0b, d0c, d0d, d0f, d0g, d0h, d0k, rfl, rfl, G1, G2, G3, G4, G5, G6⟩ := X3
     obtain ⟨d0m, d0n, rfl, -⟩ := G1.form
     obtain ⟨d0p, d0q, rfl, -⟩ := G2.form
     obtain ⟨d0r, d0t, rfl, -⟩ := G3.form
     obtain ⟨d0v, d0w, rfl, -⟩ := G4.form
     obtain ⟨d0x, d1b, rfl, -⟩ := G5.form
     obtain ⟨d1c, d1d, rfl, -⟩ := G6.form
     have hO := zop11 hO
     cases hF
     have hO := hO.sel [6, 7, 8, 9, 10]
     exact hP _ _ _ _ hO hL ⟨_, _, _, _, _, _, _, _, _, _, rfl, rfl, G1, G2, G3, G4, G5, G6⟩
    refine zbn (hs := [_, _, _, _, _, _]) hO (ih_check_checker_list d0 d5 d6 d7 d8 d9 (b8.le hL) X2) zn2 rfl fun _ σ _ _ hO w3 X4 => ?_
    have hL := hL.trans w3
    have b1 := b1.le w3
    have b2 := b2.le w3
    obtain ⟨d1f, d1g, d1h, d1k, d1m, X5, d1n, X6, d1p, X7, d1q, X8, rfl, rfl, i9, f0, f1, f2, f3, f4, f5⟩ := X4
    obtain ⟨X9, Y0, rfl, -⟩ := i9.form
    obtain ⟨Y1, Y2, rfl, -⟩ := f0.form
    obtain ⟨Y3, Y4, rfl, -⟩ := f1.form
    obtain ⟨Y5, Y6, rfl, -⟩ := f2.form
    obtain ⟨Y7, Y8, rfl, -⟩ := f3.form
    obtain ⟨Y9, Z0, rfl, -⟩ := f4.form
    obtain ⟨Z1, Z2, rfl, -⟩ := f5.form
    have hO := zop12 hO
    refine zg hO 1 [] [(85, .pointer (some ⟨b5, 7, none⟩))] [0, 4, 5, 84] zn8 fun j => ?_
    refine zu hO (i := 2) rfl (off := 7) rfl rfl rfl rfl (Nat.le_of_ble_eq_true rfl) rfl fun σ hO => ?_
    have hO := zop12 hO
    refine ze (zh (zX (zi ?_)))
    obtain ⟨_, c0, l5, hO⟩ := b1.share hO (i := 4) rfl
    have hL := hL.trans c0
    have b2 := b2.le c0
    have i9 := i9.le c0
    have f0 := f0.le c0
    have f1 := f1.le c0
    have f2 := f2.le c0
    have f3 := f3.le c0
    have f4 := f4.le c0
    have f5 := f5.le c0
    have hO := zop12 hO
    obtain ⟨_, c1, w4, hO⟩ := b2.share hO (i := 5) rfl
    have hL := hL.trans c1
    have l5 := l5.le c1
    have i9 := i9.le c1
    have f0 := f0.le c1
    have f1 := f1.le c1
    have f2 := f2.le c1
    have f3 := f3.le c1
    have f4 := f4.le c1
    have f5 := f5.le c1
    have hO := zop12 hO
    obtain ⟨_, c2, Z3, hO⟩ := i9.share hO (i := 6) rfl
    have hL := hL.trans c2
    have l5 := l5.le c2
    have w4 := w4.le c2
    have f0 := f0.le c2
    have f1 := f1.le c2
    have f2 := f2.le c2
    have f3 := f3.le c2
    have f4 := f4.le c2
    have f5 := f5.le c2
    have hO := zop12 hO
    have hO := hO.sel [7, 8, 9, 10, 11, 1, 2]
    exact ⟨Y1, Y2, b9.2.prog.Structs, Y3, Y4, b9.2.prog.Funcs, Y5, Y6, X5, b9.2.tree.Bodies, b9.2.tree.Main, Y7, Y8, X6, b9.2.tree.Points, b9.2.fn, Y9, Z0, X7, b9.2.vars, Z1, Z2, X8, b9.2.scope, p1.Kind, (q0.tree.Points.length : Int), (-1), 0, (-1), E9, F0, E0.1, F9, G0, b7.1, X9, Y0, b9.1, _, zoj zn5, hO, hL, f0, f1, f2, f3, f4, f5, l5, w4, Z3, hF⟩
   refine zN (zh (zX (zi ?_)))
   obtain ⟨_, f6, w5, hO⟩ := b1.share hO (i := 4) rfl
   have hL := hL.trans f6
   have b2 := b2.le f6
   have d0 := d0.le f6
   have d5 := d5.le f6
   have d6 := d6.le f6
   have d7 := d7.le f6
   have d8 := d8.le f6
   have d9 := d9.le f6
   have hO := zop11 hO
   obtain ⟨_, f7, Z4, hO⟩ := b2.share hO (i := 5) rfl
   have hL := hL.trans f7
   have w5 := w5.le f7
   have d0 := d0.le f7
   have d5 := d5.le f7
   have d6 := d6.le f7
   have d7 := d7.le f7
   have d8 := d8.le f7
   have d9 := d9.le f7
   have hO := zop11 hO
   have hO := hO.sel [6, 7, 8, 9, 10, 1, 2]
   exact ⟨V9, W0, b7.2.prog.Structs, W1, W2, b7.2.prog.Funcs, W3, W4, V5, b7.2.tree.Bodies, b7.2.tree.Main, W5, W6, V6, b7.2.tree.Points, b7.2.fn, W7, W8, V7, b7.2.vars, W9, X0, V8, b7.2.scope, p1.Kind, (q0.tree.Points.length : Int), (-1), 0, (-1), E9, F0, E0.1, F9, G0, b7.1, none, 0, [], _, zoj zn5, hO, hL, d0, d5, d6, d7, d8, d9, w5, Z4, RdT.nil _ _, hF⟩
  refine zn (zd hO [] [(86, .bool ((p1.Kind.toNat : Int) == 8))] [0, 3, 4, 5, 40] zn9 fun j => ?_)
  refine zz hF rfl (fun hF => ?_) fun hF => ?_
  ·refine zg hO 3 [5] [(88, zol h), (90, zor c7 p1.Kids c8)] [0, 4, 5] (And.intro (And.intro rfl rfl) zn8) fun j => ?_
   refine z5 (T := Ty.u8) (l := ([(1 : UInt8)] : List UInt8)) (cs := [.int .u8 1]) hO rfl ⟨[.int .u8 1], _, rfl, rfl, rfl⟩ rfl (by decide) fun _ σ d1r G7 hO => ?_
   obtain ⟨d1t, d1v, rfl, -⟩ := G7.form
   have hO := zop9 hO
   obtain ⟨_, l6, j0, hO⟩ := G7.share hO (i := 8) rfl
   have hL := hL.trans l6
   have B := B.le l6
   have D := D.le l6
   have E := E.le l6
   have G := G.le l6
   have hO := zop9 hO
   have hO := hO.sel [5, 6, 7, 8, 0, 1, 2, 3, 4]
   rcases zP hF with ⟨d1w, Z5, hF⟩ | ⟨c3, Z6, hF⟩
   ·refine zbo (hs := [_, _, _, _]) hO (zbC (q0 := (⟨(⟨q0.prog.Structs, q0.prog.Funcs⟩ : zs), (⟨I, q0.tree.Main, S⟩ : zx), q0.fn, U, V⟩ : zb)) (k.le hL) (g.le hL) B D E G (W.le hL) j0 Z5) zn2 rfl fun _ σ _ _ hO G8 Z7 => ?_
    have hL := hL.trans G8
    have j0 := j0.le G8
    obtain ⟨d1x, d2b, d2c, d2d, d2f, d2g, d2h, d2k, d2m, d2n, rfl, rfl, G9, H0, H1, H2, H3, H4⟩ := Z7
    obtain ⟨d2p, d2q, rfl, -⟩ := G9.form
    obtain ⟨d2r, d2t, rfl, -⟩ := H0.form
    obtain ⟨d2v, d2w, rfl, -⟩ := H1.form
    obtain ⟨d2x, d3b, rfl, -⟩ := H2.form
    obtain ⟨d3c, d3d, rfl, -⟩ := H3.form
    obtain ⟨d3f, d3g, rfl, -⟩ := H4.form
    have hO := zop9 hO
    cases hF
    have hO := hO.sel [4, 5, 6, 7, 8]
    exact hP _ _ _ _ hO hL ⟨_, _, _, _, _, _, _, _, _, _, rfl, rfl, G9, H0, H1, H2, H3, H4⟩
   refine zbn (hs := [_, _, _, _]) hO (zbC (q0 := (⟨(⟨q0.prog.Structs, q0.prog.Funcs⟩ : zs), (⟨I, q0.tree.Main, S⟩ : zx), q0.fn, U, V⟩ : zb)) (k.le hL) (g.le hL) B D E G (W.le hL) j0 Z6) zn2 rfl fun _ σ _ _ hO H5 Z8 => ?_
   have hL := hL.trans H5
   have j0 := j0.le H5
   obtain ⟨d3h, d3k, d3m, d3n, d3p, Z9, d3q, b0b, d3r, b0c, d3t, b0d, rfl, rfl, H6, n5, n6, n7, n8, n9, o0⟩ := Z8
   obtain ⟨b0f, b0g, rfl, -⟩ := H6.form
   obtain ⟨b0h, b0k, rfl, -⟩ := n5.form
   obtain ⟨b0m, b0n, rfl, -⟩ := n6.form
   obtain ⟨b0p, b0q, rfl, -⟩ := n7.form
   obtain ⟨b0r, b0t, rfl, -⟩ := n8.form
   obtain ⟨b0v, b0w, rfl, -⟩ := n9.form
   obtain ⟨b0x, b1b, rfl, -⟩ := o0.form
   have hO := zop10 hO
   refine zg hO 1 [] [(93, .pointer (some ⟨b5, 5, none⟩))] [0, 4, 5, 92] zn8 fun j => ?_
   refine zu hO (i := 2) rfl (off := 5) rfl rfl rfl rfl (Nat.le_of_ble_eq_true rfl) rfl fun σ hO => ?_
   have hO := zop10 hO
   refine ze (zh (zX (zi ?_)))
   obtain ⟨_, g6, b1c, hO⟩ := H6.share hO (i := 4) rfl
   have hL := hL.trans g6
   have n5 := n5.le g6
   have n6 := n6.le g6
   have n7 := n7.le g6
   have n8 := n8.le g6
   have n9 := n9.le g6
   have o0 := o0.le g6
   have hO := zop10 hO
   have hO := hO.sel [5, 6, 7, 8, 9, 1, 2]
   exact ⟨b0h, b0k, c3.2.prog.Structs, b0m, b0n, c3.2.prog.Funcs, b0p, b0q, Z9, c3.2.tree.Bodies, c3.2.tree.Main, b0r, b0t, b0b, c3.2.tree.Points, c3.2.fn, b0v, b0w, b0c, c3.2.vars, b0x, b1b, b0d, c3.2.scope, p1.Kind, (q0.tree.Points.length : Int), (-1), 0, (-1), b0f, b0g, c3.1, none, 0, [], none, 0, [], _, zoj zn5, hO, hL, n5, n6, n7, n8, n9, o0, b1c, RdT.nil _ _, RdT.nil _ _, hF⟩
  refine zn (zd hO [] [(94, .bool ((p1.Kind.toNat : Int) == 10))] [0, 3, 4, 5] zn8 fun j => ?_)
  refine zz hF rfl (fun hF => ?_) fun hF => ?_
  ·refine zn (zn (zcQ (zg hO 9 [0, 0] [(99, .pointer (some ⟨h, 1, none⟩)), (100, zor q9 q0.prog.Funcs r0), (103, .pointer (some ⟨h, 5, none⟩)), (104, zok q0.fn)] [0, 3, 4, 5] (And.intro (And.intro rfl rfl) (And.intro (And.intro rfl rfl) zob)) fun j => ?_)))
   obtain ⟨b6, b1d, hF⟩ := zoq hF
   refine zbG (T := zt) (g.le hL) hO.base rfl rfl b1d (by decide) fun a1672 _ b1f H7 => ?_
   obtain ⟨d3v, d3w, rfl, b1g, b1h⟩ := b1f
   obtain ⟨d3x, d4b, rfl, -⟩ := b1g.form
   obtain ⟨d4c, d4d, rfl, -⟩ := b1h.form
   refine zg hO 1 [] [(106, .pointer (some (a1672.add 3)))] [0, 3, 4, 5, 99, 100, 103, 104] zoc fun j => ?_
   refine zbh rfl ((H7.le hO.base).part (off := 3) (ds := [.int .u8 (b6.Result.Kind.toNat : Int), .int .i64 b6.Result.N, .string b6.Result.Name]) rfl rfl) ?_
   refine zbt (zbm hO fun d4f σ hO => ?_)
   have hO := zop9 hO
   refine ze (zbs ⟨(zA rfl ((H7.le hO.base).part (off := 3) (ds := [.int .u8 (b6.Result.Kind.toNat : Int), .int .i64 b6.Result.N, .string b6.Result.Name]) rfl rfl) rfl), (zA rfl (hO.val (i := 0) (off := 5) (agg := false) (n := 1) rfl rfl) rfl), (zA rfl (hO.val (i := 0) (off := 1) (agg := false) (n := 1) rfl rfl) rfl), trivial⟩ ?_)
   refine zu hO (i := 8) rfl (off := 0) rfl rfl rfl rfl (Nat.le_of_ble_eq_true rfl) rfl fun σ hO => ?_
   have hO := zop9 hO
   refine ze (zn (zd hO [8] [(110, .bool ((b6.Result.Kind.toNat : Int) != 0))] [0, 3, 4, 5, 6] (And.intro (And.intro rfl rfl) zn9) fun j => ?_))
   refine zz hF rfl (fun hF => ?_) fun hF => ?_
   ·refine zn (zg hO 5 [5, 8] [(111, zol h), (113, zor c7 p1.Kids c8), (115, .int .u8 (b6.Result.Kind.toNat : Int))] [0, 4, 5] (And.intro (And.intro rfl rfl) (And.intro (And.intro rfl rfl) zn9)) fun j => ?_)
    refine z5 (T := Ty.u8) (l := ([b6.Result.Kind] : List UInt8)) (cs := [.int .u8 (b6.Result.Kind.toNat : Int)]) hO rfl ⟨[.int .u8 (b6.Result.Kind.toNat : Int)], _, rfl, rfl, rfl⟩ rfl (by decide) fun _ σ d4g H8 hO => ?_
    obtain ⟨d4h, d4k, rfl, -⟩ := H8.form
    have hO := zop10 hO
    obtain ⟨_, l7, j1, hO⟩ := H8.share hO (i := 9) rfl
    have hL := hL.trans l7
    have B := B.le l7
    have D := D.le l7
    have E := E.le l7
    have G := G.le l7
    have hO := zop10 hO
    have hO := hO.sel [5, 6, 7, 8, 9, 0, 1, 2, 3, 4]
    rcases zP hF with ⟨d4m, b1k, hF⟩ | ⟨c4, b1m, hF⟩
    ·refine zbo (hs := [_, _, _, _, _]) hO (zbC (q0 := (⟨(⟨q0.prog.Structs, q0.prog.Funcs⟩ : zs), (⟨I, q0.tree.Main, S⟩ : zx), q0.fn, U, V⟩ : zb)) (k.le hL) (g.le hL) B D E G (W.le hL) j1 b1k) zn2 rfl fun _ σ _ _ hO H9 b1n => ?_
     have hL := hL.trans H9
     have j1 := j1.le H9
     obtain ⟨d4n, d4p, d4q, d4r, d4t, d4v, d4w, d4x, d5b, d5c, rfl, rfl, I0, I1, I2, I3, I4, I5⟩ := b1n
     obtain ⟨d5d, d5f, rfl, -⟩ := I0.form
     obtain ⟨d5g, d5h, rfl, -⟩ := I1.form
     obtain ⟨d5k, d5m, rfl, -⟩ := I2.form
     obtain ⟨d5n, d5p, rfl, -⟩ := I3.form
     obtain ⟨d5q, d5r, rfl, -⟩ := I4.form
     obtain ⟨d5t, d5v, rfl, -⟩ := I5.form
     have hO := zop10 hO
     cases hF
     have hO := hO.sel [5, 6, 7, 8, 9]
     exact hP _ _ _ _ hO hL ⟨_, _, _, _, _, _, _, _, _, _, rfl, rfl, I0, I1, I2, I3, I4, I5⟩
    refine zbn (hs := [_, _, _, _, _]) hO (zbC (q0 := (⟨(⟨q0.prog.Structs, q0.prog.Funcs⟩ : zs), (⟨I, q0.tree.Main, S⟩ : zx), q0.fn, U, V⟩ : zb)) (k.le hL) (g.le hL) B D E G (W.le hL) j1 b1m) zn2 rfl fun _ σ _ _ hO I6 b1p => ?_
    have hL := hL.trans I6
    have j1 := j1.le I6
    obtain ⟨d5w, d5x, d6b, d6c, d6d, b1q, d6f, b1r, d6g, b1t, d6h, b1v, rfl, rfl, I7, o1, o2, o3, o4, o5, o6⟩ := b1p
    obtain ⟨b1w, b1x, rfl, -⟩ := I7.form
    obtain ⟨b2b, b2c, rfl, -⟩ := o1.form
    obtain ⟨b2d, b2f, rfl, -⟩ := o2.form
    obtain ⟨b2g, b2h, rfl, -⟩ := o3.form
    obtain ⟨b2k, b2m, rfl, -⟩ := o4.form
    obtain ⟨b2n, b2p, rfl, -⟩ := o5.form
    obtain ⟨b2q, b2r, rfl, -⟩ := o6.form
    have hO := zop11 hO
    refine zg hO 1 [] [(118, .pointer (some ⟨b5, 5, none⟩))] [0, 4, 5, 117] zn8 fun j => ?_
    refine zu hO (i := 2) rfl (off := 5) rfl rfl rfl rfl (Nat.le_of_ble_eq_true rfl) rfl fun σ hO => ?_
    have hO := zop11 hO
    refine ze (zb9 (zbX (zi ?_)))
    obtain ⟨_, g7, b2t, hO⟩ := I7.share hO (i := 5) rfl
    have hL := hL.trans g7
    have o1 := o1.le g7
    have o2 := o2.le g7
    have o3 := o3.le g7
    have o4 := o4.le g7
    have o5 := o5.le g7
    have o6 := o6.le g7
    have hO := zop11 hO
    have hO := hO.sel [6, 7, 8, 9, 10, 1, 2]
    exact ⟨b2b, b2c, c4.2.prog.Structs, b2d, b2f, c4.2.prog.Funcs, b2g, b2h, b1q, c4.2.tree.Bodies, c4.2.tree.Main, b2k, b2m, b1r, c4.2.tree.Points, c4.2.fn, b2n, b2p, b1t, c4.2.vars, b2q, b2r, b1v, c4.2.scope, p1.Kind, (q0.tree.Points.length : Int), (-1), 0, (-1), b1w, b1x, c4.1, none, 0, [], none, 0, [], _, zoj zn5, hO, hL, o1, o2, o3, o4, o5, o6, b2t, RdT.nil _ _, RdT.nil _ _, hF⟩
   refine zN (zg hO 3 [5] [(119, zol h), (121, zor c7 p1.Kids c8)] [0, 4, 5] (And.intro (And.intro rfl rfl) zn8) fun j => ?_)
   have hO := hO.sel [5, 6, 7, 8, 0, 1, 2, 3, 4]
   rcases zP hF with ⟨d6k, b2v, hF⟩ | ⟨c5, b2w, hF⟩
   ·refine zbo (hs := [_, _, _, _]) hO (zbC (q0 := (⟨(⟨q0.prog.Structs, q0.prog.Funcs⟩ : zs), (⟨I, q0.tree.Main, S⟩ : zx), q0.fn, U, V⟩ : zb)) (k.le hL) (g.le hL) B D E G (W.le hL) (RdT.nil Ty.u8 _) b2v) zn2 rfl fun _ σ _ _ hO b2x b3b => ?_
    have hL := hL.trans b2x
    obtain ⟨d6m, d6n, d6p, d6q, d6r, d6t, d6v, d6w, d6x, d7b, rfl, rfl, I8, I9, J0, J1, J2, J3⟩ := b3b
    obtain ⟨d7c, d7d, rfl, -⟩ := I8.form
    obtain ⟨d7f, d7g, rfl, -⟩ := I9.form
    obtain ⟨d7h, d7k, rfl, -⟩ := J0.form
    obtain ⟨d7m, d7n, rfl, -⟩ := J1.form
    obtain ⟨d7p, d7q, rfl, -⟩ := J2.form
    obtain ⟨d7r, d7t, rfl, -⟩ := J3.form
    have hO := zop9 hO
    cases hF
    have hO := hO.sel [4, 5, 6, 7, 8]
    exact hP _ _ _ _ hO hL ⟨_, _, _, _, _, _, _, _, _, _, rfl, rfl, I8, I9, J0, J1, J2, J3⟩
   refine zbn (hs := [_, _, _, _]) hO (zbC (q0 := (⟨(⟨q0.prog.Structs, q0.prog.Funcs⟩ : zs), (⟨I, q0.tree.Main, S⟩ : zx), q0.fn, U, V⟩ : zb)) (k.le hL) (g.le hL) B D E G (W.le hL) (RdT.nil Ty.u8 _) b2w) zn2 rfl fun _ σ _ _ hO b3c b3d => ?_
   have hL := hL.trans b3c
   obtain ⟨d7v, d7w, d7x, d8b, d8c, b3f, d8d, b3g, d8f, b3h, d8g, b3k, rfl, rfl, J4, o7, o8, o9, p2, p3, p4⟩ := b3d
   obtain ⟨b3m, b3n, rfl, -⟩ := J4.form
   obtain ⟨b3p, b3q, rfl, -⟩ := o7.form
   obtain ⟨b3r, b3t, rfl, -⟩ := o8.form
   obtain ⟨b3v, b3w, rfl, -⟩ := o9.form
   obtain ⟨b3x, b4b, rfl, -⟩ := p2.form
   obtain ⟨b4c, b4d, rfl, -⟩ := p3.form
   obtain ⟨b4f, b4g, rfl, -⟩ := p4.form
   have hO := zop10 hO
   refine zg hO 1 [] [(123, .pointer (some ⟨b5, 5, none⟩))] [0, 4, 5, 122] zn8 fun j => ?_
   refine zu hO (i := 2) rfl (off := 5) rfl rfl rfl rfl (Nat.le_of_ble_eq_true rfl) rfl fun σ hO => ?_
   have hO := zop10 hO
   refine ze (zh (zX (zi ?_)))
   obtain ⟨_, g8, b4h, hO⟩ := J4.share hO (i := 4) rfl
   have hL := hL.trans g8
   have o7 := o7.le g8
   have o8 := o8.le g8
   have o9 := o9.le g8
   have p2 := p2.le g8
   have p3 := p3.le g8
   have p4 := p4.le g8
   have hO := zop10 hO
   have hO := hO.sel [5, 6, 7, 8, 9, 1, 2]
   exact ⟨b3p, b3q, c5.2.prog.Structs, b3r, b3t, c5.2.prog.Funcs, b3v, b3w, b3f, c5.2.tree.Bodies, c5.2.tree.Main, b3x, b4b, b3g, c5.2.tree.Points, c5.2.fn, b4c, b4d, b3h, c5.2.vars, b4f, b4g, b3k, c5.2.scope, p1.Kind, (q0.tree.Points.length : Int), (-1), 0, (-1), b3m, b3n, c5.1, none, 0, [], none, 0, [], _, zoj zn5, hO, hL, o7, o8, o9, p2, p3, p4, b4h, RdT.nil _ _, RdT.nil _ _, hF⟩
  refine zn (zg hO 3 [5] [(41, zol h), (43, zor c7 p1.Kids c8)] [0, 4, 5] (And.intro (And.intro rfl rfl) zn8) fun j => ?_)
  have hO := hO.sel [5, 6, 7, 0, 1, 2, 3, 4]
  rcases zP hF with ⟨d8h, b4k, hF⟩ | ⟨f8, b4m, hF⟩
  ·refine zbo (hs := [_, _, _]) hO (zbC (q0 := (⟨(⟨q0.prog.Structs, q0.prog.Funcs⟩ : zs), (⟨I, q0.tree.Main, S⟩ : zx), q0.fn, U, V⟩ : zb)) (k.le hL) (g.le hL) B D E G (W.le hL) (RdT.nil Ty.u8 _) b4k) zn2 rfl fun _ σ _ _ hO b4n b4p => ?_
   have hL := hL.trans b4n
   obtain ⟨d8k, d8m, d8n, d8p, d8q, d8r, d8t, d8v, d8w, d8x, rfl, rfl, J5, J6, J7, J8, J9, K0⟩ := b4p
   obtain ⟨d9b, d9c, rfl, -⟩ := J5.form
   obtain ⟨d9d, d9f, rfl, -⟩ := J6.form
   obtain ⟨d9g, d9h, rfl, -⟩ := J7.form
   obtain ⟨d9k, d9m, rfl, -⟩ := J8.form
   obtain ⟨d9n, d9p, rfl, -⟩ := J9.form
   obtain ⟨d9q, d9r, rfl, -⟩ := K0.form
   have hO := zop8 hO
   cases hF
   have hO := hO.sel [3, 4, 5, 6, 7]
   exact hP _ _ _ _ hO hL ⟨_, _, _, _, _, _, _, _, _, _, rfl, rfl, J5, J6, J7, J8, J9, K0⟩
  refine zbn (hs := [_, _, _]) hO (zbC (q0 := (⟨(⟨q0.prog.Structs, q0.prog.Funcs⟩ : zs), (⟨I, q0.tree.Main, S⟩ : zx), q0.fn, U, V⟩ : zb)) (k.le hL) (g.le hL) B D E G (W.le hL) (RdT.nil Ty.u8 _) b4m) zn2 rfl fun _ σ _ _ hO b4q b4r => ?_
  have hL := hL.trans b4q
  obtain ⟨d9t, d9v, d9w, d9x, f0b, b4t, f0c, b4v, f0d, b4w, f0f, b4x, rfl, rfl, l8, g9, h0, h1, h2, h3, h4⟩ := b4r
  obtain ⟨f0g, f0h, rfl, -⟩ := l8.form
  obtain ⟨b5b, b5c, rfl, -⟩ := g9.form
  obtain ⟨b5d, b5f, rfl, -⟩ := h0.form
  obtain ⟨b5g, b5h, rfl, -⟩ := h1.form
  obtain ⟨b5k, b5m, rfl, -⟩ := h2.form
  obtain ⟨b5n, b5p, rfl, -⟩ := h3.form
  obtain ⟨b5q, b5r, rfl, -⟩ := h4.form
  have hO := zop9 hO
  refine ze ?_
  rcases zP hF with ⟨f0k, b5t, hF⟩ | ⟨f0m, b5v, hF⟩
  ·refine zbM hO (zbg b5t) zn2 rfl fun _ σ _ _ hO f9 b5w => ?_
   have hL := hL.trans f9
   have l8 := l8.le f9
   have g9 := g9.le f9
   have h0 := h0.le f9
   have h1 := h1.le f9
   have h2 := h2.le f9
   have h3 := h3.le f9
   have h4 := h4.le f9
   obtain ⟨rfl, rfl⟩ := b5w
   have hO := zop9 hO
   cases hF
   have hO := hO.sel [4, 5, 6, 7, 8]
   exact hP _ _ _ _ hO hL ⟨_, _, _, _, _, _, _, _, _, _, rfl, rfl, g9, h0, h1, h2, h3, h4⟩
  refine zbO hO (zbg b5v) zn2 rfl fun _ σ _ _ hO g0 b5x => ?_
  have hL := hL.trans g0
  have l8 := l8.le g0
  have g9 := g9.le g0
  have h0 := h0.le g0
  have h1 := h1.le g0
  have h2 := h2.le g0
  have h3 := h3.le g0
  have h4 := h4.le g0
  obtain ⟨rfl, rfl⟩ := b5x
  have hO := zop9 hO
  refine ze (zh (zX (zi ?_)))
  have hO := hO.sel [4, 5, 6, 7, 8, 1, 2]
  exact ⟨b5b, b5c, f8.2.prog.Structs, b5d, b5f, f8.2.prog.Funcs, b5g, b5h, b4t, f8.2.tree.Bodies, f8.2.tree.Main, b5k, b5m, b4v, f8.2.tree.Points, f8.2.fn, b5n, b5p, b4w, f8.2.vars, b5q, b5r, b4x, f8.2.scope, p1.Kind, (q0.tree.Points.length : Int), (-1), 0, (-1), none, 0, [], none, 0, [], none, 0, [], _, zoj zn5, hO, hL, g9, h0, h1, h2, h3, h4, RdT.nil _ _, RdT.nil _ _, RdT.nil _ _, hF⟩
 rintro e σ ⟨r1, r2, j6, r3, r4, j7, r5, r6, r7, j8, r8, r9, t0, t1, j9, t2, t3, t4, t5, k0, t6, t7, t8, k1, m4, m5, m6, m7, m8, m9, n0, i1, n1, n2, i2, n3, n4, i3, _, hA, hO, hL, b6b, b6c, b6d, b6f, b6g, b6h, b6k, b6m, b6n, hF⟩
 rw [← zW _ _ hA]
 unfold zcB at hF
 refine zg hO 1 [6] [(124, .agg #[(.int .u8 (m4.toNat : Int)), (.int .i64 m5), (.int .i64 m6), (.int .i64 m7), (.int .i64 m8), (zor m9 i1 n0), (zor n1 i2 n2), (zor n3 i3 n4)])] [0, 4] (And.intro (And.intro rfl rfl) zn6) fun j => ?_
 refine zu hO (i := 5) rfl (off := 0) rfl rfl rfl rfl (Nat.le_of_ble_eq_true rfl) rfl fun σ hO => ?_
 have hO := zop7 hO
 refine ze (zbb ?_)
 cases hF
 have hV0 := hO.val (i := 5) rfl (off := 0) (agg := true) (n := 8) rfl
 have hO := hO.sel [0, 1, 2, 3, 4]
 refine (hQ _ _ _ _ _ (zbY rfl (hV0) rfl) hO hL ?_).1
 exact ⟨_, _, _, _, _, _, _, _, _, _, _, _, _, rfl, rfl, b6k, b6m, b6n, b6b, b6c, b6d, b6f, b6g, b6h⟩
theorem znw (n : Nat) : zfX n ∧ zgB n := by
 induction n with
 | zero =>
  refine ⟨?_, ?_⟩
  ·intro τ q0 X v z B D E G I S U V v1 p1 g h j k o q r1 rr hF; exact nomatch (show none = some rr from hF)
  ·intro τ q0 X v z B D E G I S U V p1 b1 b2 b0 g h j k o q Y Z W rr hF; exact nomatch (show none = some rr from hF)
 | succ n ih =>
  obtain ⟨i0, i1⟩ := ih
  refine ⟨?_, ?_⟩
  ·intro τ q0 X v z B D E G I S U V v1 p1 g h j k o q r1 rr hF; exact znC i0 i1 g h j k o q r1 hF
  ·intro τ q0 X v z B D E G I S U V p1 b1 b2 b0 g h j k o q Y Z W rr hF; exact zmk i0 i1 g h j k o q Y Z W hF
theorem ziJ : ∀ {τ : Hp} {q0 : zb} {G : Nat} {I S U : Value} {V : Ob} {W : Value} {X : Ob} {Y : Value} {Z : Ob} {b0 : Value} {b1 : Ob} {v1 : Value} {p1 : (List zf)} (b5 : RdT zw τ I q0.prog.Structs) (b6 : RdT zt τ S q0.prog.Funcs) (b7 : za zq 59 τ U q0.tree.Bodies V) (b8 : za zr 87 τ W q0.tree.Points X) (b9 : za zo 82 τ Y q0.vars Z) (c0 : za (Ty.int .i64) 3 τ b0 q0.scope b1) (r1 : RdT zH τ v1 p1) {rr : Except (Value × zb) ((List zj) × zb)} (hF : ze9 q0 p1 = some rr), zbu Try.prog 64 #[.pointer (some ⟨G, 0, none⟩), v1] τ [zm G I S U q0.tree.Main W q0.fn Y b0, V, X, Z, b1] (fun v τ' vs' => match (generalizing := false) rr with | .ok rr => ∃ (v0 : Value) (o0 : Ob) (g h j : Value) (k : Ob) (o : Value) (q : Ob) (z : Value) (B : Ob) (D : Value) (E : Ob), v = v0 ∧ vs' = [o0, zm G g h j rr.2.tree.Main o rr.2.fn z D, k, q, B, E] ∧ za zba 115 τ' v0 rr.1 o0 ∧ RdT zw τ' g rr.2.prog.Structs ∧ RdT zt τ' h rr.2.prog.Funcs ∧ za zq 59 τ' j rr.2.tree.Bodies k ∧ za zr 87 τ' o rr.2.tree.Points q ∧ za zo 82 τ' z rr.2.vars B ∧ za (Ty.int .i64) 3 τ' D rr.2.scope E | .error _ => False) (fun ch τ' vs' => match (generalizing := false) rr with | .ok _ => False | .error ee => ∃ (g h j : Value) (k : Ob) (o : Value) (q : Ob) (z : Value) (B : Ob) (D : Value) (E : Ob), ch = [{ v := ee.1, recovered := false }] ∧ vs' = [zm G g h j ee.2.tree.Main o ee.2.fn z D, k, q, B, E] ∧ RdT zw τ' g ee.2.prog.Structs ∧ RdT zt τ' h ee.2.prog.Funcs ∧ za zq 59 τ' j ee.2.tree.Bodies k ∧ za zr 87 τ' o ee.2.tree.Points q ∧ za zo 82 τ' z ee.2.vars B ∧ za (Ty.int .i64) 3 τ' D ee.2.scope E) := (znw big).1
def zjo (gn : Nat) : Prop := ∀ {τ : Hp} {v0 : Value} {p0 : (List zf)} (r0 : RdT zH τ v0 p0) {rr : Bool} (hF : (zeM gn) p0 = some rr), Ctr Try.prog 65 #[v0] τ [] (fun v τ' vs' => v = .bool rr ∧ vs' = [])
theorem zk8 {gn : Nat} (ih_check_returns : zjo gn) {τ : Hp} {v0 : Value} {p0 : (List zf)} (r0 : RdT zH τ v0 p0) {rr : Bool} (hF : zfd (zeM gn) p0 = some rr) :
  Ctr Try.prog 65 #[v0] τ [] (fun v τ' vs' => v = .bool rr ∧ vs' = []) := by
 obtain ⟨A0, c0, rfl, -⟩ := r0.form
 refine zbp (args := [.slice A0 p0.length c0]) hm Try.func65 s65 rfl fun w0 σ hO Q hQ => ?_
 unfold zfd at hF
 have hL := Hp.le.refl τ
 show wpn _ _ a65.body _ _ _
 unfold a65
 dsimp only
 refine zd hO [] [] [0] zn4 fun j => ?_
 refine zn (zd hO [] [(6, .bool ((p0.length : Int) == 0))] [0] zn5 fun j => ?_)
 refine zz hF rfl (fun hF => ?_) fun hF => ?_
 ·refine zn (zD hO [] [(2, .bool false)] zn4 fun j => ?_)
  refine zbH ?_
  cases hF
  exact hQ _ _ _ _ _ rfl hO hL ⟨rfl, rfl⟩
 refine zN (zM hO 4 [] [(7, zor A0 p0 c0), (10, zok (IntKind.i64.wrap ((p0.length : Int) - 1)))] zn5 fun j => ?_)
 obtain ⟨k, g4, hF⟩ := zoq hF
 refine zbG (T := zH) (r0.le hL) hO.base rfl rfl g4 (by decide) fun a5 _ k6 m7 => ?_
 obtain ⟨v8, c7, c8, rfl, q, o, h⟩ := zgb k6
 obtain ⟨X, Y, rfl, -⟩ := q.form
 obtain ⟨V, W, rfl, -⟩ := o.form
 obtain ⟨E, G, rfl, -⟩ := h.form
 refine zbh rfl ((m7.le hO.base).all rfl) ?_
 refine zbm hO fun b4 σ hO => ?_
 have hO := zop1 hO
 refine zu hO (i := 0) rfl (off := 0) rfl rfl rfl rfl (Nat.le_of_ble_eq_true rfl) rfl fun σ hO => ?_
 have hO := zop1 hO
 refine ze (zg hO 4 [0] [(16, .bool ((k.Kind.toNat : Int) == 10))] [3] (And.intro (And.intro rfl rfl) zn5) fun j => ?_)
 obtain ⟨Z, b5, hF⟩ := zoq hF
 refine zcW 6 (fun e' σ' => ∃ (τ' : Hp), agr [(30, .bool Z)] e' ∧ Obs τ' σ' [zek b4 (k.Kind.toNat : Int) k.Line k.Name k.Field k.Call (k.Type_.Kind.toNat : Int) k.Type_.N k.Type_.Name (zor X k.Kids Y) (zor V k.Body W) (zor E k.Else G)] ∧ Hp.le τ τ' ∧ RdT zZ τ' (zor X k.Kids Y) k.Kids ∧ RdT zH τ' (zor V k.Body W) k.Body ∧ RdT zH τ' (zor E k.Else G) k.Else) ?_ ?_
 ·have hF := b5
  rcases zb8 hF with ⟨g, hF⟩ | ⟨g, hF⟩
  ·refine zbI (zon g) ?_
   refine zbI rfl ?_
   refine zbI (zon g) ?_
   refine zbI rfl ?_
   refine zbI (zon g) ?_
   refine zbf (zom g) ?_
   refine ze ?_
   cases hF
   refine zh ?_
   exact ⟨rfl, _, zoj (trivial), hO, hL, q, o, h⟩
  refine zbA (zon g) ?_
  refine zg hO 4 [0] [(20, .bool ((k.Kind.toNat : Int) == 6))] [3, 16] (And.intro (And.intro rfl rfl) zn6) fun j => ?_
  rcases zb8 hF with ⟨z, hF⟩ | ⟨z, hF⟩
  ·refine zbA (zoo z) ?_
   refine zg hO 2 [0] [(22, zor V k.Body W)] [3, 16, 20] (And.intro (And.intro rfl rfl) zn7) fun j => ?_
   obtain ⟨b6, b7, hF⟩ := zoq hF
   refine z3 hO (ih_check_returns o b7) rfl fun _ σ _ _ hO I b8 => ?_
   have hL := hL.trans I
   have o := o.le I
   have q := q.le I
   have h := h.le I
   obtain ⟨rfl, rfl⟩ := b8
   have hO := zop1 hO
   refine zbA (zon g) ?_
   refine zbf (zom z) ?_
   refine zg hO 1 [] [(25, .bool b6)] [3, 16] zn6 fun j => ?_
   rcases zb8 hF with ⟨B, hF⟩ | ⟨B, hF⟩
   ·refine zbA (zoo B) ?_
    refine zg hO 2 [0] [(27, zor E k.Else G)] [16, 25] (And.intro (And.intro rfl rfl) zn6) fun j => ?_
    obtain ⟨c9, b9, hF⟩ := zoq hF
    refine z3 hO (ih_check_returns h b9) rfl fun _ σ _ _ hO S c1 => ?_
    have hL := hL.trans S
    have h := h.le S
    have q := q.le S
    have o := o.le S
    obtain ⟨rfl, rfl⟩ := c1
    have hO := zop1 hO
    refine zbA (zon g) ?_
    refine zbf (zom B) ?_
    refine zbf (zom g) ?_
    refine ze ?_
    cases hF
    refine zh ?_
    exact ⟨rfl, _, zoj (trivial), hO, hL, q, o, h⟩
   refine zbI (zoo B) ?_
   refine zbA (zon g) ?_
   refine zbf (zom B) ?_
   refine zbf (zom g) ?_
   refine ze ?_
   cases hF
   refine zh ?_
   exact ⟨rfl, _, zoj (trivial), hO, hL, q, o, h⟩
  refine zbI (zoo z) ?_
  refine zbA (zon g) ?_
  refine zbf (zom z) ?_
  refine zg hO 1 [] [(25, .bool false)] [3, 16] zn6 fun j => ?_
  rcases zb8 hF with ⟨D, hF⟩ | ⟨D, hF⟩
  ·refine zbA (zoo D) ?_
   refine zg hO 2 [0] [(27, zor E k.Else G)] [16, 25] (And.intro (And.intro rfl rfl) zn6) fun j => ?_
   obtain ⟨d0, c2, hF⟩ := zoq hF
   refine z3 hO (ih_check_returns h c2) rfl fun _ σ _ _ hO U c3 => ?_
   have hL := hL.trans U
   have h := h.le U
   have q := q.le U
   have o := o.le U
   obtain ⟨rfl, rfl⟩ := c3
   have hO := zop1 hO
   refine zbA (zon g) ?_
   refine zbf (zom D) ?_
   refine zbf (zom g) ?_
   refine ze ?_
   cases hF
   refine zh ?_
   exact ⟨rfl, _, zoj (trivial), hO, hL, q, o, h⟩
  refine zbI (zoo D) ?_
  refine zbA (zon g) ?_
  refine zbf (zom D) ?_
  refine zbf (zom g) ?_
  refine ze ?_
  cases hF
  refine zh ?_
  exact ⟨rfl, _, zoj (trivial), hO, hL, q, o, h⟩
 rintro e σ ⟨_, hA, hO, hL, q, o, h⟩
 rw [← zW _ _ hA]
 refine zD hO [] [(2, .bool Z)] zn4 fun j => ?_
 refine zbb ?_
 cases hF
 have hO := hO.sel []
 exact hQ _ _ _ _ _ rfl hO hL ⟨rfl, rfl⟩
theorem zlb (n : Nat) : zjo n := by
 induction n with
 | zero =>
  intro τ h p0 g rr hF; exact nomatch (show none = some rr from hF)
 | succ n ih =>
  intro τ h p0 g rr hF; exact zk8 ih g hF
theorem zk7 : ∀ {τ : Hp} {g : Value} {p0 : (List zf)} (h : RdT zH τ g p0) {rr : Bool} (hF : zgT p0 = some rr), Ctr Try.prog 65 #[g] τ [] (fun v τ' vs' => v = .bool rr ∧ vs' = []) := (zlb big)
theorem zjx {τ : Hp} {q0 : zb} {G : Nat} {g h k : Value} {o : Ob} {q : Value} {z : Ob} {B D : Value} {E : Ob} {p1 : ByteArray} (S : RdT zw τ g q0.prog.Structs) (I : RdT zt τ h q0.prog.Funcs) (U : za zq 59 τ k q0.tree.Bodies o) (V : za zr 87 τ q q0.tree.Points z) (W : RdT zo τ B q0.vars) (X : za (Ty.int .i64) 3 τ D q0.scope E) {rr : Int} (hF : zex q0 p1 = some rr) :
  Ctr Try.prog 53 #[.pointer (some ⟨G, 0, none⟩), .string p1] τ [zm G g h k q0.tree.Main q q0.fn B D, o, z, E] (fun v τ' vs' => v = .int .i64 rr ∧ vs' = [zm G g h k q0.tree.Main q q0.fn B D, o, z, E]) := by
 obtain ⟨b2, b4, rfl, -⟩ := S.form
 obtain ⟨Y, Z, rfl, -⟩ := I.form
 obtain ⟨b5, b6, rfl, -⟩ := U.form
 obtain ⟨b7, b8, rfl, -⟩ := V.form
 obtain ⟨b9, c0, rfl, -⟩ := W.form
 obtain ⟨c1, c2, rfl, -⟩ := X.form
 refine zbp (args := [.pointer (some ⟨G, 0, none⟩), .string p1]) hm Try.func53 s53 rfl fun w0 σ hO Q hQ => ?_
 unfold zex at hF
 have hL := Hp.le.refl τ
 show wpn _ _ a53.body _ _ _
 unfold a53
 dsimp only
 refine zbJ (n := 1) hO rfl rfl fun b3 σ hO => ?_
 have hO := zop5 hO
 refine zd hO [] [] [0, 3] zn5 fun j => ?_
 refine zg hO 6 [0] [(9, zor Y q0.prog.Funcs Z), (10, .func (.func 67) #[] #[(.pointer (some ⟨b3, 0, none⟩))])] [0] (And.intro (And.intro rfl rfl) zn6) fun j => ?_
 obtain ⟨_, h5, m4, hO⟩ := hO.shareV (i := 4) rfl
 have hL := hL.trans h5
 have hO := zop5 hO
 obtain ⟨c6, h7, hF⟩ := zoq hF
 refine z3 hO (zjy (I.le hL) m4 h7) rfl fun _ σ _ _ hO h8 h9 => ?_
 have hL := hL.trans h8
 have m4 := m4.le h8
 obtain ⟨rfl, rfl⟩ := h9
 have hO := zop5 hO
 refine zd hO [] [(4, zok c6)] [0] zn5 fun j => ?_
 refine zbb ?_
 cases hF
 have hO := hO.sel [0, 1, 2, 3]
 exact hQ _ _ _ _ _ rfl hO hL ⟨rfl, rfl⟩
theorem zjj {τ : Hp} {q0 : zb} {I : Nat} {m6 m8 m9 : Value} {i9 : Ob} {n0 : Value} {j0 : Ob} {n1 n2 : Value} {n3 : Ob} {p1 : Int} (c0 : RdT zw τ m6 q0.prog.Structs) (b9 : RdT zt τ m8 q0.prog.Funcs) (j1 : za zq 59 τ m9 q0.tree.Bodies i9) (j2 : za zr 87 τ n0 q0.tree.Points j0) (k9 : RdT zo τ n1 q0.vars) (l0 : za (Ty.int .i64) 3 τ n2 q0.scope n3) {rr : Except (Value × zb) (zb)} (hF : zdw q0 p1 = some rr) :
  zbu Try.prog 52 #[.pointer (some ⟨I, 0, none⟩), .int .i64 p1] τ [zm I m6 m8 m9 q0.tree.Main n0 q0.fn n1 n2, i9, j0, n3] (fun v τ' vs' => match (generalizing := false) rr with | .ok rr => ∃ (j5 j6 j7 : Value) (j8 : Ob) (j9 : Value) (k0 : Ob) (k1 k2 : Value) (k3 : Ob), v = .tuple #[] ∧ vs' = [zm I j5 j6 j7 rr.tree.Main j9 rr.fn k1 k2, j8, k0, k3] ∧ RdT zw τ' j5 rr.prog.Structs ∧ RdT zt τ' j6 rr.prog.Funcs ∧ za zq 59 τ' j7 rr.tree.Bodies j8 ∧ za zr 87 τ' j9 rr.tree.Points k0 ∧ RdT zo τ' k1 rr.vars ∧ za (Ty.int .i64) 3 τ' k2 rr.scope k3 | .error _ => False) (fun ch τ' vs' => match (generalizing := false) rr with | .ok _ => False | .error ee => ∃ (j5 j6 j7 : Value) (j8 : Ob) (j9 : Value) (k0 : Ob) (k1 k2 : Value) (k3 : Ob), ch = [{ v := ee.1, recovered := false }] ∧ vs' = [zm I j5 j6 j7 ee.2.tree.Main j9 ee.2.fn k1 k2, j8, k0, k3] ∧ RdT zw τ' j5 ee.2.prog.Structs ∧ RdT zt τ' j6 ee.2.prog.Funcs ∧ za zq 59 τ' j7 ee.2.tree.Bodies j8 ∧ za zr 87 τ' j9 ee.2.tree.Points k0 ∧ RdT zo τ' k1 ee.2.vars ∧ za (Ty.int .i64) 3 τ' k2 ee.2.scope k3) := by
 obtain ⟨j3, j4, rfl, -⟩ := c0.form
 obtain ⟨h9, i0, rfl, -⟩ := b9.form
 obtain ⟨n4, n5, rfl, -⟩ := j1.form
 obtain ⟨n6, n7, rfl, -⟩ := j2.form
 obtain ⟨A3, A4, rfl, -⟩ := k9.form
 obtain ⟨A5, A6, rfl, -⟩ := l0.form
 refine zcz (args := [.pointer (some ⟨I, 0, none⟩), .int .i64 p1]) hm Try.func52 s52 rfl fun w0 σ hP hO Q hQ => ?_
 unfold zdw at hF
 have hL := Hp.le.refl τ
 show wpn _ _ a52.body _ _ _
 unfold a52
 dsimp only
 refine zg hO 6 [0] [(15, zor h9 q0.prog.Funcs i0), (16, zok p1)] [0, 1] (And.intro (And.intro rfl rfl) zn7) fun j => ?_
 obtain ⟨o, g4, hF⟩ := zoq hF
 refine zbG (T := zt) (b9.le hL) hO.base rfl rfl g4 (by decide) fun a5 _ k6 m7 => ?_
 obtain ⟨v8, F8, rfl, r9, c3⟩ := k6
 obtain ⟨b7, b8, rfl, -⟩ := r9.form
 obtain ⟨f5, f6, rfl, -⟩ := c3.form
 refine zbh rfl ((m7.le hO.base).all rfl) ?_
 refine zbm hO fun c2 σ hO => ?_
 have hO := zop5 hO
 refine zu hO (i := 4) rfl (off := 0) rfl rfl rfl rfl (Nat.le_of_ble_eq_true rfl) rfl fun σ hO => ?_
 have hO := zop5 hO
 refine ze (zg hO 3 [4] [(19, zol I), (21, .string o.Name)] [0, 1, 4] (And.intro (And.intro rfl rfl) zn8) fun j => ?_)
 obtain ⟨y1, y2, hF⟩ := zoq hF
 have hO := hO.sel [4, 0, 1, 2, 3]
 refine zb1 (hs := [_]) hO (zjx (c0.le hL) (b9.le hL) (j1.le hL) (j2.le hL) (k9.le hL) (l0.le hL) y2) rfl fun _ σ _ _ hO n8 y4 => ?_
 have hL := hL.trans n8
 have r9 := r9.le n8
 have c3 := c3.le n8
 obtain ⟨rfl, rfl⟩ := y4
 have hO := zop5 hO
 have hO := hO.sel [1, 2, 3, 4, 0]
 have hO := zop5 hO
 refine zg hO 2 [] [(24, .bool (y1 == p1))] [0, 1, 4] zn7 fun j => ?_
 rcases zP hF with ⟨F9, y5, hF⟩ | ⟨G0, y6, hF⟩
 ·refine zbM hO (zbg y5) zn2 rfl fun _ σ _ _ hO n9 y7 => ?_
  have hL := hL.trans n9
  have r9 := r9.le n9
  have c3 := c3.le n9
  obtain ⟨rfl, rfl⟩ := y7
  have hO := zop5 hO
  cases hF
  have hO := hO.sel [0, 1, 2, 3]
  exact hP _ _ _ _ hO hL ⟨_, _, _, _, _, _, _, _, _, rfl, rfl, (c0.le hL), (b9.le hL), (j1.le hL), (j2.le hL), (k9.le hL), (l0.le hL)⟩
 refine zbO hO (zbg y6) zn2 rfl fun _ σ _ _ hO o0 y8 => ?_
 have hL := hL.trans o0
 have r9 := r9.le o0
 have c3 := c3.le o0
 obtain ⟨rfl, rfl⟩ := y8
 have hO := zop5 hO
 refine ze (zg hO 6 [] [(27, zol I), (28, zol I), (29, zok p1), (31, .pointer (some ⟨I, 5, none⟩))] [0, 4] zn9 fun j => ?_)
 refine zu hO (i := 0) rfl (off := 5) rfl rfl rfl rfl (Nat.le_of_ble_eq_true rfl) rfl fun σ hO => ?_
 have hO := zop5 hO
 refine zg hO 2 [] [(33, .pointer (some ⟨I, 6, none⟩))] [0, 4, 28] zn7 fun j => ?_
 refine zu hO (i := 0) rfl (off := 6) rfl rfl rfl rfl (Nat.le_of_ble_eq_true rfl) rfl fun σ hO => ?_
 have hO := zop5 hO
 refine zg hO 2 [] [(35, .pointer (some ⟨I, 7, none⟩))] [0, 4] zn6 fun j => ?_
 refine zu hO (i := 0) rfl (off := 7) rfl rfl rfl rfl (Nat.le_of_ble_eq_true rfl) rfl fun σ hO => ?_
 have hO := zop5 hO
 refine ze (zd hO [] [(5, .slice none 0 0)] [0, 4] zn6 fun j => ?_)
 refine zg hO 5 [4] [(40, .bool (decide ((o.Params.length : Int) ≤ 6)))] [0, 4, 5] (And.intro (And.intro rfl rfl) zn7) fun j => ?_
 have hO := hO.sel [0, 1, 2, 4]
 have hO := zop4 hO
 obtain ⟨o1, y9, hF⟩ := zoq hF
 refine zcW 4 (fun e' σ' => ∃ (τ' : Hp), agr [(50, .bool o1), (0, zol I), (4, zol c2), (5, .slice none 0 0)] e' ∧ Obs τ' σ' [zm I (zor j3 q0.prog.Structs j4) (zor h9 q0.prog.Funcs i0) (zor n4 q0.tree.Bodies n5) q0.tree.Main (zor n6 q0.tree.Points n7) p1 (.slice none 0 0) (.slice none 0 0), i9, j0, zcc c2 o.Name o.Line (zor b7 o.Params b8) (o.Result.Kind.toNat : Int) o.Result.N o.Result.Name (zor f5 o.Body f6)] ∧ Hp.le τ τ' ∧ RdT zcJ τ' (zor b7 o.Params b8) o.Params ∧ RdT zH τ' (zor f5 o.Body f6) o.Body) ?_ ?_
 ·have hF := y9
  rcases zb8 hF with ⟨d0, hF⟩ | ⟨d0, hF⟩
  ·refine zbA (zoo d0) ?_
   refine zM hO 5 [3] [(0, zol I), (4, zol c2), (5, .slice none 0 0), (40, .bool (decide ((o.Params.length : Int) ≤ 6))), (45, .bool ((o.Result.Kind.toNat : Int) == 0))] (And.intro (And.intro rfl rfl) zn8) fun j => ?_
   rcases zb8 hF with ⟨k4, hF⟩ | ⟨k4, hF⟩
   ·refine zbI (zon k4) ?_
    refine zbA (zoo d0) ?_
    refine zbf (zom k4) ?_
    refine zbf (zom d0) ?_
    refine ze ?_
    cases hF
    refine zh ?_
    exact ⟨rfl, _, zoj zn6, hO, hL, r9, c3⟩
   refine zbA (zon k4) ?_
   refine zg hO 2 [3] [(47, .agg #[(.int .u8 (o.Result.Kind.toNat : Int)), (.int .i64 o.Result.N), (.string o.Result.Name)])] [0, 4, 5, 40, 45] (And.intro (And.intro rfl rfl) zn9) fun j => ?_
   obtain ⟨G1, A0, hF⟩ := zoq hF
   refine z3 hO (zfs A0) rfl fun _ σ _ _ hO o2 A1 => ?_
   have hL := hL.trans o2
   have r9 := r9.le o2
   have c3 := c3.le o2
   obtain ⟨rfl, rfl⟩ := A1
   have hO := zop4 hO
   refine zbA (zoo d0) ?_
   refine zbf (zom k4) ?_
   refine zbf (zom d0) ?_
   refine ze ?_
   cases hF
   refine zh ?_
   exact ⟨rfl, _, zoj zn6, hO, hL, r9, c3⟩
  refine zbI (zoo d0) ?_
  refine zbI rfl ?_
  refine zbI (zoo d0) ?_
  refine zbf (zom d0) ?_
  refine ze ?_
  cases hF
  refine zh ?_
  exact ⟨rfl, _, zoj zn6, hO, hL, r9, c3⟩
 rintro e σ ⟨_, hA, hO, hL, r9, c3⟩
 rw [← zW _ _ hA]
 refine zD hO [] [(0, zol I), (4, zol c2), (5, .slice none 0 0), (6, .bool o1)] zn7 fun j => ?_
 refine zn (zd hO [3] [(52, zor b7 o.Params b8), (53, zok (o.Params.length : Int)), (54, zok 0)] [0, 4, 5, 6] (And.intro (And.intro rfl rfl) zoa) fun j => ?_)
 refine zbr ?_
 have hO := hO.no
 have hO := zop5 hO
 have hO := hO.no
 have hO := zop6 hO
 have hO := hO.no
 have hO := zop7 hO
 have hO := hO.sel [0, 1, 2, 4, 5, 3, 6]
 refine zcg (fun (n : Nat) e' σ' => ∃ (f7 : Option Addr) (f8 : Nat) (f9 : Ob) (b4 : List zI) (g0 : Option Addr) (g1 : Nat) (g2 : Ob) (b5 : List zE) (g3 : Option Addr) (g5 : Nat) (h1 : Ob) (b2 : List zG) (g6 : Option Addr) (g7 : Nat) (h2 : Ob) (b3 : List Int) (l1 : Option Addr) (l2 : Nat) (l9 : Ob) (b1 : List ByteArray) (d5 : Bool) (U : Int) (τ' : Hp), agr [(0, zol I), (4, zol c2), (5, zor l1 b1 l2), (6, .bool d5), (52, zor b7 o.Params b8), (53, zok (o.Params.length : Int)), (54, zok U)] e' ∧ Obs τ' σ' [zm I (zor j3 q0.prog.Structs j4) (zor h9 q0.prog.Funcs i0) (zor f7 b4 f8) q0.tree.Main (zor g0 b5 g1) p1 (zor g3 b2 g5) (zor g6 b3 g7), f9, g2, h1, h2, zcc c2 o.Name o.Line (zor b7 o.Params b8) (o.Result.Kind.toNat : Int) o.Result.N o.Result.Name (zor f5 o.Body f6), l9] ∧ Hp.le τ τ' ∧ za zq 59 τ' (zor f7 b4 f8) b4 f9 ∧ za zr 87 τ' (zor g0 b5 g1) b5 g2 ∧ za zo 82 τ' (zor g3 b2 g5) b2 h1 ∧ za (Ty.int .i64) 3 τ' (zor g6 b3 g7) b3 h2 ∧ RdT zcJ τ' (zor b7 o.Params b8) o.Params ∧ RdT zH τ' (zor f5 o.Body f6) o.Body ∧ za Ty.str 9 τ' (zor l1 b1 l2) b1 l9 ∧ RdT zcJ τ' (zor b7 o.Params b8) o.Params ∧ zeV q0 p1 o n b4 b5 b2 b3 b1 d5 U = some rr) big ⟨n4, n5, i9, q0.tree.Bodies, n6, n7, j0, q0.tree.Points, none, 0, none, [], none, 0, none, [], none, 0, none, [], o1, 0, _, zoj zn9, hO, hL, (j1.le hL), (j2.le hL), za.nil _ _ _, za.nil _ _ _, r9, c3, za.nil _ _ _, r9, hF⟩ ?_
 clear hF hO hL
 rintro l3 e σ ⟨f7, f8, f9, b4, g0, g1, g2, b5, g3, g5, h1, b2, g6, g7, h2, b3, l1, l2, l9, b1, d5, U, _, hA, hO, hL, z, B, E, D, k, g, r1, V, hF⟩
 rw [← zW _ _ hA]
 cases l3 with
 | zero => exact nomatch (show none = some rr from hF)
 | succ l3 =>
 replace hF : ze2 (zeV q0 p1 o l3) q0 p1 o b4 b5 b2 b3 b1 d5 U = some rr := hF
 unfold ze2 at hF
 refine zd hO [] [(55, .bool (decide (U < (o.Params.length : Int))))] [0, 4, 5, 6, 52, 53, 54] zob fun j => ?_
 refine zz hF rfl (fun hF => ?_) fun hF => ?_
 ·refine zN (zbr (zg hO 1 [] [(56, zok U)] [0, 4, 5, 6, 52, 53, 54] zob fun j => ?_))
  obtain ⟨q, r2, hF⟩ := zoq hF
  refine zbG (T := zcJ) V hO.base rfl rfl r2 (by decide) fun a455 _ r3 r4 => ?_
  obtain rfl : _ = ([.string q.Name, .int .u8 q.Type_.Kind.toNat, .int .i64 q.Type_.N, .string q.Type_.Name] : List Value) := r3
  refine zbh rfl ((r4.le hO.base).all rfl) ?_
  refine zbm hO fun h3 σ hO => ?_
  have hO := zop8 hO
  refine zg hO 1 [] [(7, zok U)] [0, 4, 5, 6, 8, 52, 53, 54, 58] zod fun j => ?_
  refine zu hO (i := 7) rfl (off := 0) rfl rfl rfl rfl (Nat.le_of_ble_eq_true rfl) rfl fun σ hO => ?_
  have hO := zop8 hO
  refine ze (zg hO 3 [7] [(59, zor l1 b1 l2), (61, .string q.Name)] [0, 4, 6, 7, 8, 52, 53, 54] (And.intro (And.intro rfl rfl) zod) fun j => ?_)
  obtain ⟨_, q7, hF⟩ := zoq hF
  refine zdt (T := Ty.str) (y := q.Name) hO r1 (i := 6) rfl rfl (fun _ => rfl) rfl rfl rfl q7 (by decide) fun u _ σ k5 S hO => ?_
  obtain ⟨c4, c5, rfl, -⟩ := S.form
  have hO := zop8 hO
  refine zd hO [] [(5, zor c4 (b1 ++ [q.Name]) c5)] [0, 4, 6, 7, 8, 52, 53, 54] zoc fun j => ?_
  refine zg hO 3 [7] [(64, zol I), (66, .agg #[(.int .u8 (q.Type_.Kind.toNat : Int)), (.int .i64 q.Type_.N), (.string q.Type_.Name)])] [0, 4, 5, 6, 7, 8, 52, 53, 54] (And.intro (And.intro rfl rfl) zoe) fun j => ?_
  obtain ⟨o3, r5, hF⟩ := zoq hF
  have hO := hO.sel [5, 6, 7, 0, 1, 2, 3, 4]
  refine zb1 (hs := [_, _, _]) hO (zgZ (q0 := (⟨(⟨q0.prog.Structs, q0.prog.Funcs⟩ : zs), (⟨b4, q0.tree.Main, b5⟩ : zx), p1, b2, b3⟩ : zb)) (c0.le hL) (b9.le hL) z B E D r5) rfl fun _ σ _ _ hO d6 r6 => ?_
  have hL := hL.trans d6
  have S := S.le d6
  have V := V.le d6
  have k := k.le d6
  have g := g.le d6
  have z := z.le d6
  have B := B.le d6
  have E := E.le d6
  have D := D.le d6
  obtain ⟨rfl, rfl⟩ := r6
  have hO := zop8 hO
  have hO := hO.sel [3, 4, 5, 6, 7, 0, 1, 2]
  have hO := zop8 hO
  refine zg hO 1 [] [(68, .bool o3)] [0, 4, 5, 6, 7, 8, 52, 53, 54] zod fun j => ?_
  obtain ⟨r7, r8, hF⟩ := zoq hF
  refine zcW 2 (fun e' σ' => ∃ (τ' : Hp), agr [(72, .bool r7), (0, zol I), (4, zol c2), (5, zor c4 (b1 ++ [q.Name]) c5), (6, .bool d5), (7, zok U), (8, zol h3), (52, zor b7 o.Params b8), (53, zok (o.Params.length : Int)), (54, zok U)] e' ∧ Obs τ' σ' [zm I (zor j3 q0.prog.Structs j4) (zor h9 q0.prog.Funcs i0) (zor f7 b4 f8) q0.tree.Main (zor g0 b5 g1) p1 (zor g3 b2 g5) (zor g6 b3 g7), f9, g2, h1, h2, zcc c2 o.Name o.Line (zor b7 o.Params b8) (o.Result.Kind.toNat : Int) o.Result.N o.Result.Name (zor f5 o.Body f6), k5, ziM h3 q.Name (q.Type_.Kind.toNat : Int) q.Type_.N q.Type_.Name] ∧ Hp.le τ τ' ∧ za Ty.str 9 τ' (zor c4 (b1 ++ [q.Name]) c5) (b1 ++ [q.Name]) k5 ∧ RdT zcJ τ' (zor b7 o.Params b8) o.Params ∧ za zq 59 τ' (zor f7 b4 f8) b4 f9 ∧ za zr 87 τ' (zor g0 b5 g1) b5 g2 ∧ za zo 82 τ' (zor g3 b2 g5) b2 h1 ∧ za (Ty.int .i64) 3 τ' (zor g6 b3 g7) b3 h2 ∧ RdT zcJ τ' (zor b7 o.Params b8) o.Params ∧ RdT zH τ' (zor f5 o.Body f6) o.Body) ?_ ?_
  ·have hF := r8
   rcases zb8 hF with ⟨i1, hF⟩ | ⟨i1, hF⟩
   ·refine zbA (zoo i1) ?_
    refine zg hO 1 [] [(69, zor c4 (b1 ++ [q.Name]) c5)] [0, 4, 5, 6, 7, 8, 52, 53, 54, 68] zoe fun j => ?_
    obtain ⟨t0, t1, hF⟩ := zoq hF
    have hO := hO.sel [0, 1, 2, 3, 4, 5, 7, 6]
    refine zb1 (hs := [_, _, _, _, _, _, _]) hO (Ctr.lendG S (fun _ _ _ _ h => h) fun _ G2 A2 => zjG A2 t1) rfl fun _ σ _ _ hO d7 t2 => ?_
    have hL := hL.trans d7
    have S := S.le d7
    have V := V.le d7
    have z := z.le d7
    have B := B.le d7
    have E := E.le d7
    have D := D.le d7
    have k := k.le d7
    have g := g.le d7
    obtain ⟨_, rfl, rfl, rfl⟩ := t2
    have hO := zop8 hO
    have hO := hO.sel [0, 1, 2, 3, 4, 5, 7, 6]
    have hO := zop8 hO
    refine zM hO 1 [] [(0, zol I), (4, zol c2), (5, zor c4 (b1 ++ [q.Name]) c5), (6, .bool d5), (7, zok U), (8, zol h3), (52, zor b7 o.Params b8), (53, zok (o.Params.length : Int)), (54, zok U), (68, .bool o3), (71, .bool (!t0))] zoe fun j => ?_
    refine zbf (zom i1) ?_
    refine ze ?_
    cases hF
    refine zh ?_
    exact ⟨rfl, _, zoj zoc, hO, hL, S, V, z, B, E, D, k, g⟩
   refine zbI (zoo i1) ?_
   refine zbf (zom i1) ?_
   refine ze ?_
   cases hF
   refine zh ?_
   exact ⟨rfl, _, zoj zoc, hO, hL, S, V, z, B, E, D, k, g⟩
  rintro e σ ⟨_, hA, hO, hL, S, V, z, B, E, D, k, g⟩
  rw [← zW _ _ hA]
  rcases zP hF with ⟨B0, t3, hF⟩ | ⟨B1, t4, hF⟩
  ·refine zbM hO (zbg t3) zn2 rfl fun _ σ _ _ hO d8 t5 => ?_
   have hL := hL.trans d8
   have S := S.le d8
   have V := V.le d8
   have z := z.le d8
   have B := B.le d8
   have E := E.le d8
   have D := D.le d8
   have k := k.le d8
   have g := g.le d8
   obtain ⟨rfl, rfl⟩ := t5
   have hO := zop8 hO
   obtain ⟨_, g8, t6, hO⟩ := E.share hO (i := 3) rfl
   have hL := hL.trans g8
   have S := S.le g8
   have V := V.le g8
   have z := z.le g8
   have B := B.le g8
   have D := D.le g8
   have k := k.le g8
   have g := g.le g8
   have hO := zop8 hO
   cases hF
   have hO := hO.sel [0, 1, 2, 4]
   exact hP _ _ _ _ hO hL ⟨_, _, _, _, _, _, _, _, _, rfl, rfl, (c0.le hL), (b9.le hL), z, B, t6, D⟩
  refine zbO hO (zbg t4) zn2 rfl fun _ σ _ _ hO d9 t7 => ?_
  have hL := hL.trans d9
  have S := S.le d9
  have V := V.le d9
  have z := z.le d9
  have B := B.le d9
  have E := E.le d9
  have D := D.le d9
  have k := k.le d9
  have g := g.le d9
  obtain ⟨rfl, rfl⟩ := t7
  have hO := zop8 hO
  refine ze (zg hO 2 [] [(75, .bool d5)] [0, 4, 5, 7, 8, 52, 53, 54] zoc fun j => ?_)
  obtain ⟨m0, t8, hF⟩ := zoq hF
  refine zcW 2 (fun e' σ' => ∃ (τ' : Hp), agr [(79, .bool m0), (0, zol I), (4, zol c2), (5, zor c4 (b1 ++ [q.Name]) c5), (7, zok U), (8, zol h3), (52, zor b7 o.Params b8), (53, zok (o.Params.length : Int)), (54, zok U)] e' ∧ Obs τ' σ' [zm I (zor j3 q0.prog.Structs j4) (zor h9 q0.prog.Funcs i0) (zor f7 b4 f8) q0.tree.Main (zor g0 b5 g1) p1 (zor g3 b2 g5) (zor g6 b3 g7), f9, g2, h1, h2, zcc c2 o.Name o.Line (zor b7 o.Params b8) (o.Result.Kind.toNat : Int) o.Result.N o.Result.Name (zor f5 o.Body f6), k5, ziM h3 q.Name (q.Type_.Kind.toNat : Int) q.Type_.N q.Type_.Name] ∧ Hp.le τ τ' ∧ za Ty.str 9 τ' (zor c4 (b1 ++ [q.Name]) c5) (b1 ++ [q.Name]) k5 ∧ RdT zcJ τ' (zor b7 o.Params b8) o.Params ∧ za zq 59 τ' (zor f7 b4 f8) b4 f9 ∧ za zr 87 τ' (zor g0 b5 g1) b5 g2 ∧ za zo 82 τ' (zor g3 b2 g5) b2 h1 ∧ za (Ty.int .i64) 3 τ' (zor g6 b3 g7) b3 h2 ∧ RdT zcJ τ' (zor b7 o.Params b8) o.Params ∧ RdT zH τ' (zor f5 o.Body f6) o.Body) ?_ ?_
  ·have hF := t8
   rcases zb8 hF with ⟨i2, hF⟩ | ⟨i2, hF⟩
   ·refine zbA (zoo i2) ?_
    refine zM hO 2 [7] [(0, zol I), (4, zol c2), (5, zor c4 (b1 ++ [q.Name]) c5), (7, zok U), (8, zol h3), (52, zor b7 o.Params b8), (53, zok (o.Params.length : Int)), (54, zok U), (75, .bool d5), (77, .agg #[(.int .u8 (q.Type_.Kind.toNat : Int)), (.int .i64 q.Type_.N), (.string q.Type_.Name)])] (And.intro (And.intro rfl rfl) zod) fun j => ?_
    obtain ⟨B2, t9, hF⟩ := zoq hF
    refine z3 hO (zfs t9) rfl fun _ σ _ _ hO f0 u0 => ?_
    have hL := hL.trans f0
    have S := S.le f0
    have V := V.le f0
    have z := z.le f0
    have B := B.le f0
    have E := E.le f0
    have D := D.le f0
    have k := k.le f0
    have g := g.le f0
    obtain ⟨rfl, rfl⟩ := u0
    have hO := zop8 hO
    refine zbf (zom i2) ?_
    refine ze ?_
    cases hF
    refine zh ?_
    exact ⟨rfl, _, zoj zob, hO, hL, S, V, z, B, E, D, k, g⟩
   refine zbI (zoo i2) ?_
   refine zbf (zom i2) ?_
   refine ze ?_
   cases hF
   refine zh ?_
   exact ⟨rfl, _, zoj zob, hO, hL, S, V, z, B, E, D, k, g⟩
  rintro e σ ⟨_, hA, hO, hL, S, V, z, B, E, D, k, g⟩
  rw [← zW _ _ hA]
  refine zD hO [] [(0, zol I), (4, zol c2), (5, zor c4 (b1 ++ [q.Name]) c5), (6, .bool m0), (7, zok U), (8, zol h3), (52, zor b7 o.Params b8), (53, zok (o.Params.length : Int)), (54, zok U)] zoc fun j => ?_
  refine zcQ (zg hO 10 [0, 7, 7] [(80, zol I), (83, .pointer (some ⟨I, 6, none⟩)), (84, zor g3 b2 g5), (89, .agg #[(.string q.Name), (.int .u8 (q.Type_.Kind.toNat : Int)), (.int .i64 q.Type_.N), (.string q.Type_.Name), (.int .i64 1), (.slice none 0 0)])] [0, 4, 5, 6, 7, 52, 53, 54] (And.intro (And.intro rfl rfl) (And.intro (And.intro rfl rfl) (And.intro (And.intro rfl rfl) zof))) fun j => ?_)
  refine zbt (z5 (T := zo) (l := ([(⟨q.Name, (⟨q.Type_.Kind, q.Type_.N, q.Type_.Name⟩ : zk), 1, []⟩ : zG)] : List zG)) (cs := [.string q.Name, .int .u8 (q.Type_.Kind.toNat : Int), .int .i64 q.Type_.N, .string q.Type_.Name, .int .i64 1, .slice none 0 0]) hO rfl ⟨[.string q.Name, .int .u8 (q.Type_.Kind.toNat : Int), .int .i64 q.Type_.N, .string q.Type_.Name, .int .i64 1, .slice none 0 0], _, rfl, ⟨_, rfl, RdT.nil _ _⟩, rfl⟩ rfl (by decide) fun _ σ B3 o4 hO => ?_)
  obtain ⟨B4, B5, rfl, -⟩ := o4.form
  have hO := zop9 hO
  refine ze (zbs ⟨(zA rfl (hO.val (i := 0) (off := 6) (agg := false) (n := 1) rfl rfl) rfl), trivial⟩ ?_)
  obtain ⟨_, f1, u1, hO⟩ := o4.share hO (i := 8) rfl
  have hL := hL.trans f1
  have S := S.le f1
  have V := V.le f1
  have E := E.le f1
  have z := z.le f1
  have B := B.le f1
  have D := D.le f1
  have k := k.le f1
  have g := g.le f1
  have hO := zop9 hO
  obtain ⟨_, q8, hF⟩ := zoq hF
  refine zeY (T := zo) hO E (i := 3) rfl rfl rfl u1 q8 (by decide) fun _ σ u2 o5 hO => ?_
  obtain ⟨u3, u4, rfl, -⟩ := o5.form
  have hO := zop9 hO
  refine zg hO 2 [] [(93, .pointer (some ⟨I, 6, none⟩))] [0, 4, 5, 6, 7, 52, 53, 54, 91] zod fun j => ?_
  refine zu hO (i := 0) rfl (off := 6) rfl rfl rfl rfl (Nat.le_of_ble_eq_true rfl) rfl fun σ hO => ?_
  have hO := zop9 hO
  refine ze (zbi (zg hO 6 [0] [(94, zol I), (98, zor g6 b3 g7), (99, zok U)] [0, 4, 5, 6, 52, 53, 54] (And.intro (And.intro rfl rfl) zod) fun j => ?_))
  obtain ⟨_, q9, hF⟩ := zoq hF
  refine zdt (T := (Ty.int .i64)) (y := U) hO D (i := 4) rfl rfl (fun _ => rfl) rfl rfl rfl q9 (by decide) fun u _ σ u5 o6 hO => ?_
  obtain ⟨u6, u7, rfl, -⟩ := o6.form
  have hO := zop9 hO
  refine zg hO 2 [] [(103, .pointer (some ⟨I, 7, none⟩))] [0, 4, 5, 6, 52, 53, 54, 101] zoc fun j => ?_
  refine zu hO (i := 0) rfl (off := 7) rfl rfl rfl rfl (Nat.le_of_ble_eq_true rfl) rfl fun σ hO => ?_
  have hO := zop9 hO
  refine ze (zh (zX (zi (zbi (zd hO [] [(54, zok (IntKind.i64.wrap (U + 1)))] [0, 4, 5, 6, 52, 53] zoa fun j => ?_)))))
  refine zh (zi ?_)
  have hO := hO.sel [0, 1, 2, 3, 4, 5, 6]
  exact ⟨l3, Nat.lt_succ_self _, f7, f8, f9, b4, g0, g1, g2, b5, u3, u4, u2, (b2 ++ ([(⟨q.Name, (⟨q.Type_.Kind, q.Type_.N, q.Type_.Name⟩ : zk), 1, []⟩ : zG)] : List zG)), u6, u7, u5, (b3 ++ [U]), c4, c5, k5, (b1 ++ [q.Name]), m0, (IntKind.i64.wrap (U + 1)), _, zoj zn9, hO, hL, z, B, o5, o6, k, g, S, V, hF⟩
 refine zb9 (zbR (zbX (zi (zg hO 3 [5] [(105, zol I), (107, .agg #[(.int .u8 (o.Result.Kind.toNat : Int)), (.int .i64 o.Result.N), (.string o.Result.Name)])] [0, 4, 6] (And.intro (And.intro rfl rfl) zn8) fun j => ?_))))
 obtain ⟨B6, u9, hF⟩ := zoq hF
 have hO := hO.sel [5, 6, 0, 1, 2, 3, 4]
 refine zb1 (hs := [_, _]) hO (zgZ (q0 := (⟨(⟨q0.prog.Structs, q0.prog.Funcs⟩ : zs), (⟨b4, q0.tree.Main, b5⟩ : zx), p1, b2, b3⟩ : zb)) (c0.le hL) (b9.le hL) z B E D u9) rfl fun _ σ _ _ hO h4 v0 => ?_
 have hL := hL.trans h4
 have k := k.le h4
 have g := g.le h4
 have z := z.le h4
 have B := B.le h4
 have E := E.le h4
 have D := D.le h4
 obtain ⟨rfl, rfl⟩ := v0
 have hO := zop7 hO
 have hO := hO.sel [2, 3, 4, 5, 6, 0, 1]
 have hO := zop7 hO
 rcases zP hF with ⟨B7, v1, hF⟩ | ⟨B8, v2, hF⟩
 ·refine zbM hO (zbg v1) zn2 rfl fun _ σ _ _ hO h5 v3 => ?_
  have hL := hL.trans h5
  have z := z.le h5
  have B := B.le h5
  have E := E.le h5
  have D := D.le h5
  have k := k.le h5
  have g := g.le h5
  obtain ⟨rfl, rfl⟩ := v3
  have hO := zop7 hO
  obtain ⟨_, i4, v4, hO⟩ := E.share hO (i := 3) rfl
  have hL := hL.trans i4
  have z := z.le i4
  have B := B.le i4
  have D := D.le i4
  have k := k.le i4
  have g := g.le i4
  have hO := zop7 hO
  cases hF
  have hO := hO.sel [0, 1, 2, 4]
  exact hP _ _ _ _ hO hL ⟨_, _, _, _, _, _, _, _, _, rfl, rfl, (c0.le hL), (b9.le hL), z, B, v4, D⟩
 refine zbO hO (zbg v2) zn2 rfl fun _ σ _ _ hO h6 v5 => ?_
 have hL := hL.trans h6
 have z := z.le h6
 have B := B.le h6
 have E := E.le h6
 have D := D.le h6
 have k := k.le h6
 have g := g.le h6
 obtain ⟨rfl, rfl⟩ := v5
 have hO := zop7 hO
 refine ze (zg hO 1 [] [(110, .bool d5)] [0, 4] zn6 fun j => ?_)
 rcases zP hF with ⟨B9, v6, hF⟩ | ⟨C0, v7, hF⟩
 ·refine zbM hO (zbg v6) zn2 rfl fun _ σ _ _ hO h7 v9 => ?_
  have hL := hL.trans h7
  have z := z.le h7
  have B := B.le h7
  have E := E.le h7
  have D := D.le h7
  have k := k.le h7
  have g := g.le h7
  obtain ⟨rfl, rfl⟩ := v9
  have hO := zop7 hO
  obtain ⟨_, i5, w2, hO⟩ := E.share hO (i := 3) rfl
  have hL := hL.trans i5
  have z := z.le i5
  have B := B.le i5
  have D := D.le i5
  have k := k.le i5
  have g := g.le i5
  have hO := zop7 hO
  cases hF
  have hO := hO.sel [0, 1, 2, 4]
  exact hP _ _ _ _ hO hL ⟨_, _, _, _, _, _, _, _, _, rfl, rfl, (c0.le hL), (b9.le hL), z, B, w2, D⟩
 refine zbO hO (zbg v7) zn2 rfl fun _ σ _ _ hO h8 w3 => ?_
 have hL := hL.trans h8
 have z := z.le h8
 have B := B.le h8
 have E := E.le h8
 have D := D.le h8
 have k := k.le h8
 have g := g.le h8
 obtain ⟨rfl, rfl⟩ := w3
 have hO := zop7 hO
 refine ze (zg hO 3 [5] [(112, zol I), (114, zor f5 o.Body f6)] [0, 4] (And.intro (And.intro rfl rfl) zn7) fun j => ?_)
 have hO := hO.sel [5, 6, 0, 1, 2, 3, 4]
 rcases zP hF with ⟨C1, w4, hF⟩ | ⟨G, w5, hF⟩
 ·refine zbo (hs := [_, _]) hO (ziJ (q0 := (⟨(⟨q0.prog.Structs, q0.prog.Funcs⟩ : zs), (⟨b4, q0.tree.Main, b5⟩ : zx), p1, b2, b3⟩ : zb)) (c0.le hL) (b9.le hL) z B E D g w4) zn2 rfl fun _ σ _ _ hO m1 w6 => ?_
  have hL := hL.trans m1
  have g := g.le m1
  have k := k.le m1
  obtain ⟨C2, C3, C4, C5, C6, C7, C8, C9, D0, D1, rfl, rfl, l4, l5, l6, l7, o7, l8⟩ := w6
  obtain ⟨D2, D3, rfl, -⟩ := l4.form
  obtain ⟨D4, D5, rfl, -⟩ := l5.form
  obtain ⟨D6, D7, rfl, -⟩ := l6.form
  obtain ⟨D8, D9, rfl, -⟩ := l7.form
  obtain ⟨E0, E1, rfl, -⟩ := o7.form
  obtain ⟨E2, E3, rfl, -⟩ := l8.form
  have hO := zop7 hO
  obtain ⟨_, g9, w7, hO⟩ := o7.share hO (i := 5) rfl
  have hL := hL.trans g9
  have g := g.le g9
  have k := k.le g9
  have l4 := l4.le g9
  have l5 := l5.le g9
  have l6 := l6.le g9
  have l7 := l7.le g9
  have l8 := l8.le g9
  have hO := zop7 hO
  cases hF
  have hO := hO.sel [2, 3, 4, 6]
  exact hP _ _ _ _ hO hL ⟨_, _, _, _, _, _, _, _, _, rfl, rfl, l4, l5, l6, l7, w7, l8⟩
 refine zbn (hs := [_, _]) hO (ziJ (q0 := (⟨(⟨q0.prog.Structs, q0.prog.Funcs⟩ : zs), (⟨b4, q0.tree.Main, b5⟩ : zx), p1, b2, b3⟩ : zb)) (c0.le hL) (b9.le hL) z B E D g w5) zn2 rfl fun _ σ _ _ hO m2 w8 => ?_
 have hL := hL.trans m2
 have g := g.le m2
 have k := k.le m2
 obtain ⟨E4, o8, E5, E6, E7, o9, E8, p2, E9, p3, F0, p4, rfl, rfl, b6, W, X, Y, Z, c1, b0⟩ := w8
 obtain ⟨i6, i7, rfl, -⟩ := b6.form
 obtain ⟨p5, p6, rfl, -⟩ := W.form
 obtain ⟨p7, p8, rfl, -⟩ := X.form
 obtain ⟨m3, m4, rfl, -⟩ := Y.form
 obtain ⟨p9, q2, rfl, -⟩ := Z.form
 obtain ⟨k7, k8, rfl, -⟩ := c1.form
 obtain ⟨q3, q4, rfl, -⟩ := b0.form
 have hO := zop8 hO
 refine zd hO [] [(9, zor i6 G.1 i7)] [0, 4] zn6 fun j => ?_
 refine zd hO [0] [(10, .bool ((o.Result.Kind.toNat : Int) != 0))] [0, 4, 9] (And.intro (And.intro rfl rfl) zn7) fun j => ?_
 refine zg hO 3 [] [(122, .bool (!((o.Result.Kind.toNat : Int) != 0)))] [0, 4, 9, 10] zn8 fun j => ?_
 have hO := hO.sel [0, 2, 3, 4, 5, 6, 7]
 have hO := zop7 hO
 obtain ⟨w9, x0, hF⟩ := zoq hF
 refine zcW 2 (fun e' σ' => ∃ (τ' : Hp), agr [(126, .bool w9), (0, zol I), (4, zol c2), (9, zor i6 G.1 i7), (10, .bool ((o.Result.Kind.toNat : Int) != 0))] e' ∧ Obs τ' σ' [zcc c2 o.Name o.Line (zor b7 o.Params b8) (o.Result.Kind.toNat : Int) o.Result.N o.Result.Name (zor f5 o.Body f6), o8, zm I (zor p5 G.2.prog.Structs p6) (zor p7 G.2.prog.Funcs p8) (zor m3 G.2.tree.Bodies m4) G.2.tree.Main (zor p9 G.2.tree.Points q2) G.2.fn (zor k7 G.2.vars k8) (zor q3 G.2.scope q4), o9, p2, p3, p4] ∧ Hp.le τ τ' ∧ za zba 115 τ' (zor i6 G.1 i7) G.1 o8 ∧ RdT zcJ τ' (zor b7 o.Params b8) o.Params ∧ RdT zH τ' (zor f5 o.Body f6) o.Body ∧ RdT zw τ' (zor p5 G.2.prog.Structs p6) G.2.prog.Structs ∧ RdT zt τ' (zor p7 G.2.prog.Funcs p8) G.2.prog.Funcs ∧ za zq 59 τ' (zor m3 G.2.tree.Bodies m4) G.2.tree.Bodies o9 ∧ za zr 87 τ' (zor p9 G.2.tree.Points q2) G.2.tree.Points p2 ∧ za zo 82 τ' (zor k7 G.2.vars k8) G.2.vars p3 ∧ za (Ty.int .i64) 3 τ' (zor q3 G.2.scope q4) G.2.scope p4) ?_ ?_
 ·have hF := x0
  rcases zb8 hF with ⟨i3, hF⟩ | ⟨i3, hF⟩
  ·refine zbI (zon i3) ?_
   refine zbf (zom i3) ?_
   refine ze ?_
   cases hF
   refine zh ?_
   exact ⟨rfl, _, zoj zn7, hO, hL, b6, k, g, W, X, Y, Z, c1, b0⟩
  refine zbA (zon i3) ?_
  refine zg hO 2 [0] [(124, zor f5 o.Body f6)] [0, 4, 9, 10, 122] (And.intro (And.intro rfl rfl) zn9) fun j => ?_
  obtain ⟨F1, x1, hF⟩ := zoq hF
  refine z3 hO (zk7 g x1) rfl fun _ σ _ _ hO c6 x2 => ?_
  have hL := hL.trans c6
  have b6 := b6.le c6
  have g := g.le c6
  have k := k.le c6
  have W := W.le c6
  have X := X.le c6
  have Y := Y.le c6
  have Z := Z.le c6
  have c1 := c1.le c6
  have b0 := b0.le c6
  obtain ⟨rfl, rfl⟩ := x2
  have hO := zop7 hO
  refine zbf (zom i3) ?_
  refine ze ?_
  cases hF
  refine zh ?_
  exact ⟨rfl, _, zoj zn7, hO, hL, b6, k, g, W, X, Y, Z, c1, b0⟩
 rintro e σ ⟨_, hA, hO, hL, b6, k, g, W, X, Y, Z, c1, b0⟩
 rw [← zW _ _ hA]
 rcases zP hF with ⟨F2, x3, hF⟩ | ⟨F3, x4, hF⟩
 ·refine zbM hO (zbg x3) zn2 rfl fun _ σ _ _ hO c7 x5 => ?_
  have hL := hL.trans c7
  have b6 := b6.le c7
  have k := k.le c7
  have g := g.le c7
  have W := W.le c7
  have X := X.le c7
  have Y := Y.le c7
  have Z := Z.le c7
  have c1 := c1.le c7
  have b0 := b0.le c7
  obtain ⟨rfl, rfl⟩ := x5
  have hO := zop7 hO
  obtain ⟨_, f2, x6, hO⟩ := c1.share hO (i := 5) rfl
  have hL := hL.trans f2
  have b6 := b6.le f2
  have k := k.le f2
  have g := g.le f2
  have W := W.le f2
  have X := X.le f2
  have Y := Y.le f2
  have Z := Z.le f2
  have b0 := b0.le f2
  have hO := zop7 hO
  cases hF
  have hO := hO.sel [2, 3, 4, 6]
  exact hP _ _ _ _ hO hL ⟨_, _, _, _, _, _, _, _, _, rfl, rfl, W, X, Y, Z, x6, b0⟩
 refine zbO hO (zbg x4) zn2 rfl fun _ σ _ _ hO c8 x7 => ?_
 have hL := hL.trans c8
 have b6 := b6.le c8
 have k := k.le c8
 have g := g.le c8
 have W := W.le c8
 have X := X.le c8
 have Y := Y.le c8
 have Z := Z.le c8
 have c1 := c1.le c8
 have b0 := b0.le c8
 obtain ⟨rfl, rfl⟩ := x7
 have hO := zop7 hO
 refine ze (zgE (zg hO 18 [2, 0, 0, 2] [(128, zol I), (132, .pointer (some ⟨I, 2, none⟩)), (133, zor m3 G.2.tree.Bodies m4), (145, .agg #[(.string o.Name), (.int .i64 (o.Params.length : Int)), (.bool ((o.Result.Kind.toNat : Int) != 0)), (zor k7 G.2.vars k8), (zor i6 G.1 i7)])] [0] (And.intro (And.intro rfl rfl) (And.intro (And.intro rfl rfl) (And.intro (And.intro rfl rfl) (And.intro (And.intro rfl rfl) zn8)))) fun j => ?_))
 refine zbt ?_
 obtain ⟨_, f3, i8, hO⟩ := c1.share hO (i := 5) rfl
 have hL := hL.trans f3
 have Y := Y.le f3
 have b6 := b6.le f3
 have k := k.le f3
 have g := g.le f3
 have W := W.le f3
 have X := X.le f3
 have Z := Z.le f3
 have b0 := b0.le f3
 have hO := zop7 hO
 obtain ⟨_, f4, m5, hO⟩ := b6.share hO (i := 1) rfl
 have hL := hL.trans f4
 have Y := Y.le f4
 have i8 := i8.le f4
 have k := k.le f4
 have g := g.le f4
 have W := W.le f4
 have X := X.le f4
 have Z := Z.le f4
 have b0 := b0.le f4
 have hO := zop7 hO
 refine z5 (T := zq) (l := ([(⟨o.Name, (o.Params.length : Int), ((o.Result.Kind.toNat : Int) != 0), G.2.vars, G.1⟩ : zI)] : List zI)) (cs := [.string o.Name, .int .i64 (o.Params.length : Int), .bool ((o.Result.Kind.toNat : Int) != 0), zor k7 G.2.vars k8, zor i6 G.1 i7]) hO rfl ⟨[.string o.Name, .int .i64 (o.Params.length : Int), .bool ((o.Result.Kind.toNat : Int) != 0), zor k7 G.2.vars k8, zor i6 G.1 i7], _, rfl, ⟨_, _, rfl, i8, m5⟩, rfl⟩ rfl (by decide) fun _ σ F4 q5 hO => ?_
 obtain ⟨F5, F6, rfl, -⟩ := q5.form
 have hO := zop8 hO
 refine ze (zbs ⟨(zA rfl (hO.val (i := 2) (off := 2) (agg := false) (n := 1) rfl rfl) rfl), trivial⟩ ?_)
 obtain ⟨_, c9, x8, hO⟩ := q5.share hO (i := 7) rfl
 have hL := hL.trans c9
 have Y := Y.le c9
 have i8 := i8.le c9
 have m5 := m5.le c9
 have k := k.le c9
 have g := g.le c9
 have W := W.le c9
 have X := X.le c9
 have Z := Z.le c9
 have b0 := b0.le c9
 have hO := zop8 hO
 obtain ⟨_, r0, hF⟩ := zoq hF
 refine zeY (T := zq) hO Y (i := 3) rfl rfl rfl x8 r0 (by decide) fun _ σ F7 q6 hO => ?_
 obtain ⟨x9, y0, rfl, -⟩ := q6.form
 have hO := zop8 hO
 refine zM hO 3 [] [(0, zol I), (147, .slice x9 (G.2.tree.Bodies ++ ([(⟨o.Name, (o.Params.length : Int), ((o.Result.Kind.toNat : Int) != 0), G.2.vars, G.1⟩ : zI)] : List zI)).length y0), (150, .pointer (some ⟨I, 2, none⟩))] zn6 fun j => ?_
 refine zu hO (i := 2) rfl (off := 2) rfl rfl rfl rfl (Nat.le_of_ble_eq_true rfl) rfl fun σ hO => ?_
 have hO := zop8 hO
 refine ze (zh ?_)
 cases hF
 have hO := hO.sel [2, 3, 4, 6]
 refine (hQ _ _ _ _ _ rfl hO hL ?_).2
 exact ⟨_, _, _, _, _, _, _, _, _, rfl, rfl, W, X, q6, Z, i8, b0⟩
theorem zjM {τ : Hp} {q0 : zb} {z : Nat} {B D E : Value} {k : Ob} {G : Value} {o : Ob} {I S : Value} {q : Ob} {p1 : Int} (X : RdT zw τ B q0.prog.Structs) (b5 : RdT zt τ D q0.prog.Funcs) (b6 : za zq 59 τ E q0.tree.Bodies k) (b7 : za zr 87 τ G q0.tree.Points o) (b8 : RdT zo τ I q0.vars) (b9 : za (Ty.int .i64) 3 τ S q0.scope q) {rr : Except (Value) (Unit)} (hF : zdv q0 p1 = some rr) :
  zbu Try.prog 51 #[.pointer (some ⟨z, 0, none⟩), .int .i64 p1] τ [zm z B D E q0.tree.Main G q0.fn I S, k, o, q] (fun v τ' vs' => match (generalizing := false) rr with | .ok rr => v = .tuple #[] ∧ vs' = [zm z B D E q0.tree.Main G q0.fn I S, k, o, q] | .error _ => False) (fun ch τ' vs' => match (generalizing := false) rr with | .ok _ => False | .error ee => ch = [{ v := ee, recovered := false }] ∧ vs' = [zm z B D E q0.tree.Main G q0.fn I S, k, o, q]) := by
 obtain ⟨Y, Z, rfl, -⟩ := X.form
 obtain ⟨c0, c1, rfl, -⟩ := b5.form
 obtain ⟨c2, c3, rfl, -⟩ := b6.form
 obtain ⟨c4, c5, rfl, -⟩ := b7.form
 obtain ⟨c6, c7, rfl, -⟩ := b8.form
 obtain ⟨c8, c9, rfl, -⟩ := b9.form
 refine zcz (args := [.pointer (some ⟨z, 0, none⟩), .int .i64 p1]) hm Try.func51 s51 rfl fun w0 σ hP hO Q hQ => ?_
 unfold zdv at hF
 have hL := Hp.le.refl τ
 show wpn _ _ a51.body _ _ _
 unfold a51
 dsimp only
 refine zg hO 6 [0] [(10, zor Y q0.prog.Structs Z), (11, zok p1)] [0, 1] (And.intro (And.intro rfl rfl) zn7) fun j => ?_
 obtain ⟨y3, g4, hF⟩ := zoq hF
 refine zbG (T := zw) (X.le hL) hO.base rfl rfl g4 (by decide) fun a5 _ k6 m7 => ?_
 obtain ⟨v8, rfl, h⟩ := k6
 obtain ⟨d0, d5, rfl, -⟩ := h.form
 refine zbh rfl ((m7.le hO.base).all rfl) ?_
 refine zbm hO fun W σ hO => ?_
 have hO := zop5 hO
 refine zu hO (i := 4) rfl (off := 0) rfl rfl rfl rfl (Nat.le_of_ble_eq_true rfl) rfl fun σ hO => ?_
 have hO := zop5 hO
 refine ze (zg hO 6 [0] [(18, zor Y q0.prog.Structs Z), (19, .func (.func 60) #[] #[(.pointer (some ⟨W, 0, none⟩))])] [0, 1, 4] (And.intro (And.intro rfl rfl) zn8) fun j => ?_)
 obtain ⟨_, d6, g, hO⟩ := hO.shareV (i := 4) rfl
 have hL := hL.trans d6
 have h := h.le d6
 have hO := zop5 hO
 obtain ⟨d7, d8, hF⟩ := zoq hF
 refine z3 hO (zmu (X.le hL) h g d8) rfl fun _ σ _ _ hO b1 d9 => ?_
 have hL := hL.trans b1
 have g := g.le b1
 have h := h.le b1
 obtain ⟨rfl, rfl⟩ := d9
 have hO := zop5 hO
 refine zd hO [] [(5, zok d7)] [0, 1, 4] zn7 fun j => ?_
 refine zg hO 4 [] [(24, .bool (d7 == p1))] [0, 4] zn6 fun j => ?_
 have hO := hO.sel [0, 1, 2, 3]
 have hO := zop4 hO
 obtain ⟨f0, f1, hF⟩ := zoq hF
 refine zcW 2 (fun e' σ' => ∃ (τ' : Hp), agr [(29, .bool f0), (0, zol z), (4, .pointer (some (⟨W, 0, none⟩ : Addr)))] e' ∧ Obs τ' σ' [zm z (zor Y q0.prog.Structs Z) (zor c0 q0.prog.Funcs c1) (zor c2 q0.tree.Bodies c3) q0.tree.Main (zor c4 q0.tree.Points c5) q0.fn (zor c6 q0.vars c7) (zor c8 q0.scope c9), k, o, q] ∧ Hp.le τ τ' ∧ At τ' (⟨W, 0, none⟩ : Addr) [.string y3.Name, zor d0 y3.Fields d5] ∧ RdT Ty.str τ' (zor d0 y3.Fields d5) y3.Fields) ?_ ?_
 ·have hF := f1
  rcases zb8 hF with ⟨U, hF⟩ | ⟨U, hF⟩
  ·refine zbA (zoo U) ?_
   refine zg hO 1 [] [(25, .pointer (some ((⟨W, 0, none⟩ : Addr).add 1)))] [0, 4, 24] zn7 fun j => ?_
   refine zbh rfl ((g.le hO.base).one 1 rfl) ?_
   obtain ⟨f2, f3, hF⟩ := zoq hF
   refine z3 hO (zjG h f3) rfl fun _ σ _ _ hO b2 f4 => ?_
   have hL := hL.trans b2
   have g := g.le b2
   have h := h.le b2
   obtain ⟨rfl, rfl⟩ := f4
   have hO := zop4 hO
   refine zg hO 1 [] [(28, .bool (!f2))] [0, 4, 24] zn7 fun j => ?_
   refine zbf (zom U) ?_
   refine ze ?_
   cases hF
   refine zh ?_
   exact ⟨rfl, _, zoj zn5, hO, hL, g, h⟩
  refine zbI (zoo U) ?_
  refine zbf (zom U) ?_
  refine ze ?_
  cases hF
  refine zh ?_
  exact ⟨rfl, _, zoj zn5, hO, hL, g, h⟩
 rintro e σ ⟨_, hA, hO, hL, g, h⟩
 rw [← zW _ _ hA]
 rcases zP hF with ⟨h1, f5, hF⟩ | ⟨h2, f6, hF⟩
 ·refine zbM hO (zbg f5) zn2 rfl fun _ σ _ _ hO b3 f7 => ?_
  have hL := hL.trans b3
  have g := g.le b3
  have h := h.le b3
  obtain ⟨rfl, rfl⟩ := f7
  have hO := zop4 hO
  cases hF
  exact hP _ _ _ _ hO hL ⟨rfl, rfl⟩
 refine zbO hO (zbg f6) zn2 rfl fun _ σ _ _ hO b4 f8 => ?_
 have hL := hL.trans b4
 have g := g.le b4
 have h := h.le b4
 obtain ⟨rfl, rfl⟩ := f8
 have hO := zop4 hO
 refine ze (zbi (zg hO 1 [] [(31, .pointer (some ((⟨W, 0, none⟩ : Addr).add 1)))] [0, 4] zn6 fun j => ?_))
 refine zbh rfl ((g.le hO.base).one 1 rfl) ?_
 refine zg hO 3 [] [(35, .bool (decide ((y3.Fields.length : Int) ≥ 1)))] [0, 4] zn6 fun j => ?_
 obtain ⟨f9, g0, hF⟩ := zoq hF
 refine zgy 2 [(40, .bool f9), (0, zol z)] (fun Q hQ => ?_) fun j => ?_
 ·have hF := g0
  rcases zb8 hF with ⟨V, hF⟩ | ⟨V, hF⟩
  ·refine zbA (zoo V) ?_
   refine zg hO 1 [] [(36, .pointer (some ((⟨W, 0, none⟩ : Addr).add 1)))] [0, 35] zn6 fun j => ?_
   refine zbh rfl ((g.le hO.base).one 1 rfl) ?_
   refine zg hO 2 [] [(39, .bool (decide ((y3.Fields.length : Int) ≤ 8)))] [0, 35] zn6 fun j => ?_
   refine zbf (zom V) ?_
   refine ze ?_
   cases hF
   refine zh ?_
   exact hQ _ zn5
  refine zbI (zoo V) ?_
  refine zbf (zom V) ?_
  refine ze ?_
  cases hF
  refine zh ?_
  exact hQ _ zn5
 rcases zP hF with ⟨h3, g1, hF⟩ | ⟨h4, g2, hF⟩
 ·refine zbM hO (zbg g1) zn2 rfl fun _ σ _ _ hO g3 g5 => ?_
  have hL := hL.trans g3
  obtain ⟨rfl, rfl⟩ := g5
  have hO := zop4 hO
  cases hF
  exact hP _ _ _ _ hO hL ⟨rfl, rfl⟩
 refine zbO hO (zbg g2) zn2 rfl fun _ σ _ _ hO g6 g7 => ?_
 have hL := hL.trans g6
 obtain ⟨rfl, rfl⟩ := g7
 have hO := zop4 hO
 refine ze (zh ?_)
 cases hF
 refine (hQ _ _ _ _ _ rfl hO hL ?_).2
 exact ⟨rfl, rfl⟩
end Go.Proofs.Ytakcaekikfcbpaa
