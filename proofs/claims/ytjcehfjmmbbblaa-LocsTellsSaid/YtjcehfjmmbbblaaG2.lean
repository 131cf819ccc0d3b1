import Derived.Test.YtjcehfjmmbbblaaG1
namespace Go.Proofs.Ytjcehfjmmbbblaa
open Go.Ab Go.RowKit
set_option linter.unusedVariables false
set_option linter.unusedSimpArgs false
set_option maxRecDepth 10000
set_option maxHeartbeats 1000000
theorem zjO {τ : Hp} {W : Value} {p0 : (List za)} (r0 : RdT zk τ W p0) {rr : (List za)} (hF : ze9 p0 = some rr) :
  Ctr Try.prog 11 #[W] τ [] (fun v τ' vs' => ∃ (W : Value) (o0 : Ob), v = W ∧ vs' = [o0] ∧ zv zG τ' W rr o0) := by
 obtain ⟨U, V, rfl, -⟩ := r0.form
 refine zN (args := [.slice U p0.length V]) hm Try.func11 s11 rfl fun w0 σ hO Q hQ => ?_
 unfold ze9 at hF
 have hL := Hp.le.refl τ
 show wpn _ _ a11.body _ _ _
 unfold a11
 dsimp only
 refine zc hO [] [] [0] zkc fun j => ?_
 refine zc hO [] [(3, .slice none 0 0)] [0] zkd fun j => ?_
 refine zh (zc hO [] [(4, zks 0)] [0, 3] zke fun j => ?_)
 refine zx ?_
 have hO := hO.no
 have hO := zkx1 hO
 refine z2 (fun (n : Nat) e' σ' => ∃ (B : Option Addr) (D : Nat) (X : Ob) (h : List za) (c : Int) (τ' : Hp), agr [(0, zkz U p0 V), (3, zkz B h D), (4, zks c)] e' ∧ Obs τ' σ' [X] ∧ Hp.le τ τ' ∧ zv zG τ' (zkz B h D) h X ∧ zdk p0 n h c = some rr) big ⟨none, 0, [], [], 0, _, zkr zkd, hO, hL, zv.nil _ _, hF⟩ ?_
 clear hF hO hL
 rintro J e σ ⟨B, D, X, h, c, _, hA, hO, hL, R, hF⟩
 rw [← zD _ _ hA]
 cases J with
 | zero => exact nomatch (show none = some rr from hF)
 | succ J =>
 replace hF : zdm (zdk p0 J) p0 h c = some rr := hF
 unfold zdm at hF
 refine zh (zc hO [] [(8, .bool (decide (c < (p0.length : Int))))] [0, 3, 4] zkf fun j => ?_)
 refine zp hF rfl (fun hF => ?_) fun hF => ?_
 ·refine zo (zx (zcL (zb hO 3 [] [(11, zkz B h D), (12, zkz U p0 V), (13, zks c)] [0, 4] zkg fun j => ?_)))
  obtain ⟨b, Y, hF⟩ := zky hF
  refine zF (T := zk) (r0.le hL) hO.base rfl rfl Y (by decide) fun a97 _ c8 S => ?_
  obtain ⟨c9, rfl, E⟩ := c8
  obtain ⟨d0, d5, rfl, -⟩ := E.form
  refine zb hO 1 [] [(15, .pointer (some a97))] [0, 4, 11] zkf fun j => ?_
  refine zs rfl (S.le hO.base).fst ?_
  refine zb hO 2 [] [(17, zkz U p0 V), (18, zks c)] [0, 4, 11, 15, 16] zki fun j => ?_
  obtain ⟨b9, Z, hF⟩ := zky hF
  obtain rfl : b = b9 := Option.some.inj (Y.symm.trans Z)
  refine zF (T := zk) (r0.le hL) hO.base rfl rfl Z (by decide) fun a106 _ c1 w => ?_
  obtain ⟨d6, rfl, G⟩ := c1
  obtain ⟨d7, d8, rfl, -⟩ := G.form
  refine zb hO 1 [] [(20, .pointer (some (a106.add 1)))] [0, 4, 11, 15, 16] zkh fun j => ?_
  refine zs rfl ((w.le hO.base).one 1 rfl) ?_
  refine zb hO 2 [] [(22, zkz U p0 V), (23, zks c)] [0, 4, 11, 15, 16, 20, 21] zkk fun j => ?_
  obtain ⟨c2, b0, hF⟩ := zky hF
  obtain rfl : b = c2 := Option.some.inj (Y.symm.trans b0)
  refine zF (T := zk) (r0.le hL) hO.base rfl rfl b0 (by decide) fun a115 _ c3 I => ?_
  obtain ⟨d9, rfl, z⟩ := c3
  obtain ⟨f0, f1, rfl, -⟩ := z.form
  refine zb hO 1 [] [(25, .pointer (some (a115.add 2)))] [0, 4, 11, 15, 16, 20, 21] zkj fun j => ?_
  refine zs rfl ((I.le hO.base).one 2 rfl) ?_
  refine z8 ?_
  obtain ⟨q, c4, hF⟩ := zky hF
  refine zu hO (ze4 z c4) rfl fun _ σ _ _ hO g c5 => ?_
  have hL := hL.trans g
  have R := R.le g
  have S := S.le g
  have E := E.le g
  have w := w.le g
  have G := G.le g
  have I := I.le g
  have z := z.le g
  obtain ⟨f2, f3, rfl, rfl, b1⟩ := c5
  obtain ⟨b2, b3, rfl, -⟩ := b1.form
  have hO := zkx2 hO
  refine ze (z7 ⟨(zT rfl ((w.le hO.base).one 1 rfl) rfl), (zT rfl (S.le hO.base).fst rfl), trivial⟩ ?_)
  refine zb hO 1 [] [(28, .agg #[(.int .i64 b.From), (.int .i64 b.To), (zkz b2 q b3)])] [0, 4, 11] zkf fun j => ?_
  obtain ⟨_, b8, hF⟩ := zky hF
  refine zgd (N := zG) (y := (⟨b.From, b.To, q⟩ : za)) (bv := (⟨b.From, b.To, (.slice b2 q.length b3)⟩ : zbw)) hO R (i := 0) (j := 1) rfl rfl (by decide) rfl (fun _ => rfl) rfl ⟨rfl, rfl⟩ (zbR b1) rfl b8 (by decide) fun u _ σ c6 b4 hO => ?_
  obtain ⟨b5, b6, rfl, -⟩ := b4.form
  have hO := zkx2 hO
  refine zi hO [] [(0, zkz U p0 V), (3, zkz b5 (h ++ [(⟨b.From, b.To, q⟩ : za)]) b6), (4, zks c)] zke fun j => ?_
  refine zf (zM (zg (zy (zc hO [] [(4, zks (IntKind.i64.wrap (c + 1)))] [0, 3] zke fun j => ?_))))
  refine zf (zg ?_)
  have hO := hO.sel [0]
  exact ⟨J, Nat.lt_succ_self _, b5, b6, c6, (h ++ [(⟨b.From, b.To, q⟩ : za)]), (IntKind.i64.wrap (c + 1)), _, zkr zkd, hO, hL, b4, hF⟩
 refine z0 (z3 (z1 (zg (zi hO [] [(2, zkz B h D)] zkc fun j => ?_))))
 refine zJ ?_
 cases hF
 exact hQ _ _ _ _ _ rfl hO hL ⟨_, _, rfl, rfl, R⟩
theorem zgq {τ : Hp} {p0 : za} {b : Value} (c : RdT zw τ b p0.At) {rr : za} (hF : zdV p0 = some rr) :
  Ctr Try.prog 43 #[.agg #[.int .i64 p0.From, .int .i64 p0.To, b]] τ [] (fun v τ' vs' => ∃ (b : Value) (g : Ob), v = .agg #[.int .i64 rr.From, .int .i64 rr.To, b] ∧ vs' = [g] ∧ zj zw 44 τ' b rr.At g) := by
 obtain ⟨h, q, rfl, -⟩ := c.form
 refine zN (args := [.agg #[.int .i64 p0.From, .int .i64 p0.To, (.slice h p0.At.length q)]]) hm Try.func43 s43 rfl fun w0 σ hO Q hQ => ?_
 unfold zdV at hF
 have hL := Hp.le.refl τ
 show wpn _ _ a43.body _ _ _
 unfold a43
 dsimp only
 refine zb7 (n := 3) hO rfl rfl fun D σ hO => ?_
 have hO := zkx1 hO
 refine z6 hO fun U σ hO => ?_
 have hO := zkx2 hO
 refine ze (zb hO 2 [0] [(4, zkz h p0.At q)] [1, 2] (And.intro (And.intro rfl rfl) zke) fun j => ?_)
 obtain ⟨E, G, hF⟩ := zky hF
 refine zu hO (zfX (c.le hL) G) rfl fun _ σ _ _ hO I J => ?_
 have hL := hL.trans I
 obtain ⟨V, S, rfl, rfl, w⟩ := J
 obtain ⟨R, z, rfl, -⟩ := w.form
 have hO := zkx3 hO
 refine zb hO 1 [] [(6, .pointer (some ⟨D, 2, none⟩))] [1, 2, 5] zkf fun j => ?_
 refine zU hO (i := 0) rfl (off := 2) rfl rfl rfl rfl (Nat.le_of_ble_eq_true rfl) rfl fun σ hO => ?_
 have hO := zkx3 hO
 refine ze (zb hO 1 [0] [(7, .agg #[(.int .i64 p0.From), (.int .i64 p0.To), (zkz R E z)])] [2] (And.intro (And.intro rfl rfl) zkd) fun j => ?_)
 refine zU hO (i := 1) rfl (off := 0) rfl rfl rfl rfl (Nat.le_of_ble_eq_true rfl) rfl fun σ hO => ?_
 have hO := zkx3 hO
 refine ze (zJ ?_)
 cases hF
 have B := hO.val (i := 1) rfl (off := 0) (agg := true) (n := 3) rfl
 have hO := hO.sel [2]
 exact hQ _ _ _ _ _ (zds rfl (B) rfl) hO hL ⟨_, _, rfl, rfl, w⟩
theorem ziv {w0 : Base} {l : Nat} {rec : Loop} (hl : w0.hid l = some (.loop rec)) (f0 : w0.heap.size ≤ l) {τ : Hp} {c7 : (List za)} {G : Nat} {vm0_0_0 : Value} {om0_0_0 : Ob} {c : (List za)} {d7 : Value} {f1 : Addr} {I : Int} {b1 : Addr} {B : Int} {b2 : Addr} {σ : Hp} (hy : ∀ {τ : Hp} {p0 : za} {f2 : Value} {c : (List za)} {vq : Value} {oq : Ob}, ∀ {rr : Bool × (List za)}, zd9 p0 c = some rr → RdT zw τ f2 p0.At → zv zG τ vq c oq → YC Try.prog l rec #[.agg #[.int .i64 p0.From, .int .i64 p0.To, f2]] τ [[(G, ⟨[vq], 23, 1, true⟩)], oq] (fun v τ' vs' => ∃ (u : Value) (y : Ob), v = .bool rr.1 ∧ vs' = [[(G, ⟨[u], 23, 1, true⟩)], y] ∧ zv zG τ' u rr.2 y)) (wm0_0_0 : zv zG τ vm0_0_0 c7 om0_0_0) (d8 : RdT zk τ d7 c) (i0 : At τ f1 [d7]) (i1 : At τ b1 [.int .i64 I]) (f7 : At τ b2 [.int .i64 B]) {rr : (List za)} (hF : zer c7 c I B = some rr) (hO : Obs τ σ [[(G, ⟨[vm0_0_0], 23, 1, true⟩)], om0_0_0]) :
  ACalls Try.prog w0 58 #[.func (.yield l) #[] #[], .pointer (some f1), .pointer (some b1), .pointer (some b2)] σ (fun v σ' => ∃ τ' vs', Obs τ' σ' vs' ∧ Hp.le τ τ' ∧ ((fun v τ' vs' => ∃ (f3 : Value) (f4 : Ob), v = .tuple #[] ∧ vs' = [[(G, ⟨[f3], 23, 1, true⟩)], f4] ∧ zv zG τ' f3 rr f4)) v τ' vs') zbg := by
 obtain ⟨Am0_0_0, cm0_0_0, rfl, -⟩ := wm0_0_0.form
 obtain ⟨Z, b0, rfl, -⟩ := d8.form
 refine zhe (args := [.func (.yield l) #[] #[], .pointer (some f1), .pointer (some b1), .pointer (some b2)]) hm Try.func58 s58 rfl fun Q i2 => ?_
 have hQ := fun e σ' rs τ' vs' h1 h2 h3 h4 => i2 e σ' rs h1 ⟨τ', vs', h2, h3, h4⟩
 unfold zer at hF
 have hL := Hp.le.refl τ
 show wpn _ _ a58.body _ _ _
 unfold a58
 dsimp only
 refine zs rfl ((i0.le hL).le hO.base).fst ?_
 refine zc hO [] [(10, zks (c.length : Int)), (11, zks 0)] [0, 2, 3, 9] zkh fun j => ?_
 refine zcp (zx (z2 (fun (n : Nat) e' σ' => ∃ (b4 : Option Addr) (b5 : Nat) (b6 : Ob) (S : List za) (g : Int) (τ' : Hp), agr [(0, .func (.yield l) #[] #[]), (2, .pointer (some b1)), (3, .pointer (some b2)), (9, zkz Z c b0), (10, zks (c.length : Int)), (11, zks g)] e' ∧ Obs τ' σ' [[(G, ⟨[zkz b4 S b5], 23, 1, true⟩)], b6] ∧ Hp.le τ τ' ∧ zv zG τ' (zkz b4 S b5) S b6 ∧ zcz c I B n S g = some rr) big ⟨Am0_0_0, cm0_0_0, om0_0_0, c7, 0, _, zkr zkg, hO, hL, (wm0_0_0.le hL), hF⟩ ?_))
 clear hF hO hL
 rintro D e σ ⟨b4, b5, b6, S, g, _, hA, hO, hL, d9, hF⟩
 rw [← zD _ _ hA]
 cases D with
 | zero => exact nomatch (show none = some rr from hF)
 | succ D =>
 replace hF : zff (zcz c I B D) c I B S g = some rr := hF
 unfold zff at hF
 refine zc hO [] [(12, .bool (decide (g < (c.length : Int))))] [0, 2, 3, 9, 10, 11] zki fun j => ?_
 refine zp hF rfl (fun hF => ?_) fun hF => ?_
 ·refine zo (zx ?_)
  obtain ⟨b, f8, hF⟩ := zky hF
  refine zF (T := zk) (d8.le hL) hO.base rfl rfl f8 (by decide) fun a137 _ f9 g0 => ?_
  obtain ⟨i7, rfl, J⟩ := f9
  obtain ⟨w, z, rfl, -⟩ := J.form
  refine zs rfl ((g0.le hO.base).all rfl) ?_
  refine z6 hO fun c8 σ hO => ?_
  have hO := zkx3 hO
  refine zU hO (i := 2) rfl (off := 0) rfl rfl rfl rfl (Nat.le_of_ble_eq_true rfl) rfl fun σ hO => ?_
  have hO := zkx3 hO
  refine ze (zh (zc hO [2, 2] [(19, .bool (decide (b.From ≥ b.To)))] [0, 2, 3, 6, 9, 10, 11] (And.intro (And.intro rfl rfl) (And.intro (And.intro rfl rfl) zkj)) fun j => ?_))
  refine zp hF rfl (fun hF => ?_) fun hF => ?_
  ·refine z0 (z1 (zg (zy (zc hO [] [(11, zks (IntKind.i64.wrap (g + 1)))] [0, 2, 3, 9, 10] zkh fun j => ?_))))
   refine zf (zg ?_)
   have hO := hO.sel [0, 1]
   exact ⟨D, Nat.lt_succ_self _, b4, b5, b6, S, (IntKind.i64.wrap (g + 1)), _, zkr zkg, hO, hL, d9, hF⟩
  refine zo (zeU (zc hO [2] [(20, .agg #[(.int .i64 b.From), (.int .i64 b.To), (zkz w b.At z)])] [0, 2, 3, 6, 9, 10, 11] (And.intro (And.intro rfl rfl) zkj) fun j => ?_))
  refine zeU (zc hO [2] [(21, .agg #[(.int .i64 b.From), (.int .i64 b.To), (zkz w b.At z)])] [0, 2, 3, 6, 9, 10, 11, 20] (And.intro (And.intro rfl rfl) zkk) fun j => ?_)
  refine zfW (fun e' σ' => ∃ (b7 : Option Addr) (b8 : Nat) (b9 : Ob) (X : List za) (c0 b3 : Nat) (τ' : Hp), agr [(0, .func (.yield l) #[] #[]), (2, .pointer (some b1)), (3, .pointer (some b2)), (6, zkt c8), (7, zkt c0), (8, zkt b3), (9, zkz Z c b0), (10, zks (c.length : Int)), (11, zks g)] e' ∧ Obs τ' σ' [[(G, ⟨[zkz b7 X b8], 23, 1, true⟩)], b9, zbT c8 b.From b.To (zkz w b.At z), zbT c0 b.From b.To (zkz w b.At z), zbT b3 b.From b.To (zkz w b.At z)] ∧ Hp.le τ τ' ∧ zv zG τ' (zkz b7 X b8) X b9 ∧ RdT zw τ' (zkz w b.At z) b.At ∧ RdT zw τ' (zkz w b.At z) b.At ∧ RdT zw τ' (zkz w b.At z) b.At ∧ zfm (zcz c I B D) I B g b X = some rr) ?_ ?_
  ·refine zhB (zhx ?_ ?_)
   ·refine zbp (z8 (z6 hO fun c9 σ hO => ?_))
    have hO := zkx4 hO
    refine ze (z7 ⟨(zT rfl (hO.val (i := 2) (off := 0) (agg := true) (n := 3) rfl rfl) rfl), (zT rfl (hO.val (i := 2) (off := 0) (agg := true) (n := 3) rfl rfl) rfl), trivial⟩ ?_)
    refine ze (zbp (z8 (z6 hO fun d0 σ hO => ?_)))
    have hO := zkx5 hO
    refine ze (z7 ⟨(zT rfl (hO.val (i := 2) (off := 0) (agg := true) (n := 3) rfl rfl) rfl), (zT rfl (hO.val (i := 2) (off := 0) (agg := true) (n := 3) rfl rfl) rfl), trivial⟩ ?_)
    refine ze (zbp (z8 (zU hO (i := 3) rfl (off := 0) rfl rfl rfl rfl (Nat.le_of_ble_eq_true rfl) rfl fun σ hO => ?_)))
    have hO := zkx5 hO
    refine ze (z7 ⟨(zT rfl (hO.val (i := 2) (off := 0) (agg := true) (n := 3) rfl rfl) rfl), trivial⟩ ?_)
    refine ze (zbp (zU hO (i := 4) rfl (off := 0) rfl rfl rfl rfl (Nat.le_of_ble_eq_true rfl) rfl fun σ hO => ?_))
    have hO := zkx5 hO
    refine ze (zeZ (zf (zg ?_)))
    exact ⟨b4, b5, b6, S, c9, d0, _, zkr zkj, hO, hL, d9, J, J, J, hF⟩
   refine zbp (z8 (z6 hO fun d0 σ hO => ?_))
   have hO := zkx4 hO
   refine ze (z7 ⟨(zT rfl (hO.val (i := 2) (off := 0) (agg := true) (n := 3) rfl rfl) rfl), (zT rfl (hO.val (i := 2) (off := 0) (agg := true) (n := 3) rfl rfl) rfl), trivial⟩ ?_)
   refine ze (zbp (z8 (z6 hO fun c9 σ hO => ?_)))
   have hO := zkx5 hO
   refine ze (z7 ⟨(zT rfl (hO.val (i := 2) (off := 0) (agg := true) (n := 3) rfl rfl) rfl), (zT rfl (hO.val (i := 2) (off := 0) (agg := true) (n := 3) rfl rfl) rfl), trivial⟩ ?_)
   refine ze (zbp (z8 (zU hO (i := 4) rfl (off := 0) rfl rfl rfl rfl (Nat.le_of_ble_eq_true rfl) rfl fun σ hO => ?_)))
   have hO := zkx5 hO
   refine ze (z7 ⟨(zT rfl (hO.val (i := 2) (off := 0) (agg := true) (n := 3) rfl rfl) rfl), trivial⟩ ?_)
   refine ze (zbp (zU hO (i := 3) rfl (off := 0) rfl rfl rfl rfl (Nat.le_of_ble_eq_true rfl) rfl fun σ hO => ?_))
   have hO := zkx5 hO
   refine ze (zeZ (zf (zg ?_)))
   have hO := hO.sel [0, 1, 2, 4, 3]
   exact ⟨b4, b5, b6, S, c9, d0, _, zkr zkj, hO, hL, d9, J, J, J, hF⟩
  rintro e σ ⟨b7, b8, b9, X, c0, b3, _, hA, hO, hL, c1, Y, R, E, hF⟩
  rw [← zD _ _ hA]
  unfold zfm at hF
  refine zbn (zb hO 2 [2] [(23, zks b.To)] [0, 2, 3, 6, 7, 8, 9, 10, 11] (And.intro (And.intro rfl rfl) zkl) fun j => ?_)
  refine zs rfl ((i1.le hL).le hO.base).fst ?_
  refine zb hO 3 [2] [(25, zks (zW b.To I)), (26, zkt c8), (27, zks b.From)] [0, 2, 3, 7, 8, 9, 10, 11] (And.intro (And.intro rfl rfl) zkm) fun j => ?_
  refine zs rfl ((f7.le hL).le hO.base).fst ?_
  refine zb hO 2 [] [(29, zks (zS b.From B)), (30, .pointer (some ⟨c0, 1, none⟩))] [0, 2, 3, 7, 8, 9, 10, 11, 25, 26, 27, 28] zkp fun j => ?_
  refine z8 (zU hO (i := 3) rfl (off := 1) rfl rfl rfl rfl (Nat.le_of_ble_eq_true rfl) rfl fun σ hO => ?_)
  have hO := zkx5 hO
  refine ze (z7 ⟨(zT rfl ((f7.le hL).le hO.base).fst rfl), (zT rfl (hO.val (i := 2) (off := 0) (agg := false) (n := 1) rfl rfl) rfl), trivial⟩ ?_)
  refine zb hO 1 [] [(31, zkt b3)] [0, 2, 3, 7, 8, 9, 10, 11, 29] zkl fun j => ?_
  refine zU hO (i := 4) rfl (off := 0) rfl rfl rfl rfl (Nat.le_of_ble_eq_true rfl) rfl fun σ hO => ?_
  have hO := zkx5 hO
  refine ze (zb hO 6 [3, 3] [(37, .bool (decide (b.From < (zW b.To I))))] [0, 2, 3, 7, 8, 9, 10, 11] (And.intro (And.intro rfl rfl) (And.intro (And.intro rfl rfl) zkk)) fun j => ?_)
  rcases zY hF with ⟨U, hF⟩ | ⟨U, hF⟩
  ·refine zP (zkw U) ?_
   refine zb hO 2 [3] [(38, .func (.yield l) #[] #[]), (39, .agg #[(.int .i64 b.From), (.int .i64 (zW b.To I)), (zkz w b.At z)])] [0, 2, 3, 8, 9, 10, 11, 37] (And.intro (And.intro rfl rfl) zkl) fun j => ?_
   obtain ⟨c2, g1, hF⟩ := zky hF
   have hO := hO.sel [2, 3, 4, 0, 1]
   refine zc2 (hs := [_, _, _]) rfl hl f0 hO (hy g1 R c1) rfl fun _ σ _ _ hO c3 g2 => ?_
   have hL := hL.trans c3
   have R := R.le c3
   have Y := Y.le c3
   have E := E.le c3
   obtain ⟨i8, g3, rfl, rfl, c4⟩ := g2
   obtain ⟨g4, g5, rfl, -⟩ := c4.form
   have hO := zkx5 hO
   refine zb hO 1 [] [(41, .bool (!c2.1))] [0, 2, 3, 8, 9, 10, 11, 37] zkk fun j => ?_
   refine zq (zku U) ?_
   refine zb hO 1 [] [(43, .bool (!c2.1))] [0, 2, 3, 8, 9, 10, 11] zkj fun j => ?_
   rcases zY hF with ⟨h, hF⟩ | ⟨h, hF⟩
   ·refine zQ (zkv h) ?_
    refine zQ rfl ?_
    refine zQ (zkv h) ?_
    refine zq (zku h) ?_
    refine ze (zba (zbO rfl ?_))
    refine zB (zE (zr (zr (zE (zr ?_)))))
    cases hF
    have hO := hO.sel [3, 4]
    exact (hQ _ _ _ _ _ rfl hO hL ⟨_, _, rfl, rfl, c4⟩).1
   refine zP (zkv h) ?_
   refine zZ hO 6 [2, 2] [(0, .func (.yield l) #[] #[]), (2, .pointer (some b1)), (3, .pointer (some b2)), (8, zkt b3), (9, zkz Z c b0), (10, zks (c.length : Int)), (11, zks g), (43, .bool (!c2.1)), (49, .bool (decide ((zS b.From B) < b.To)))] (And.intro (And.intro rfl rfl) (And.intro (And.intro rfl rfl) zkk)) fun j => ?_
   rcases zY hF with ⟨V, hF⟩ | ⟨V, hF⟩
   ·refine zP (zkw V) ?_
    refine zb hO 2 [2] [(50, .func (.yield l) #[] #[]), (51, .agg #[(.int .i64 (zS b.From B)), (.int .i64 b.To), (zkz w b.At z)])] [0, 2, 3, 9, 10, 11, 43, 49] (And.intro (And.intro rfl rfl) zkl) fun j => ?_
    obtain ⟨f5, g6, hF⟩ := zky hF
    refine zc2 (hs := [_, _, _]) rfl hl f0 hO (hy g6 E c4) rfl fun _ σ _ _ hO c5 g7 => ?_
    have hL := hL.trans c5
    have E := E.le c5
    have Y := Y.le c5
    have R := R.le c5
    obtain ⟨i9, g8, rfl, rfl, d5⟩ := g7
    obtain ⟨g9, h0, rfl, -⟩ := d5.form
    have hO := zkx5 hO
    refine zb hO 1 [] [(53, .bool (!f5.1))] [0, 2, 3, 9, 10, 11, 43, 49] zkk fun j => ?_
    refine zP (zkv h) ?_
    refine zq (zku V) ?_
    refine zq (zku h) ?_
    refine ze (zba (zp hF rfl (fun hF => ?_) fun hF => ?_))
    ·refine zB (zE (zr (zr (zE (zr ?_)))))
     cases hF
     have hO := hO.sel [3, 4]
     exact (hQ _ _ _ _ _ rfl hO hL ⟨_, _, rfl, rfl, d5⟩).1
    refine zo (zf (zM (zg (zy (zc hO [] [(11, zks (IntKind.i64.wrap (g + 1)))] [0, 2, 3, 9, 10] zkh fun j => ?_)))))
    refine zf (zg ?_)
    have hO := hO.sel [3, 4]
    exact ⟨D, Nat.lt_succ_self _, g9, h0, g8, f5.2, (IntKind.i64.wrap (g + 1)), _, zkr zkg, hO, hL, d5, hF⟩
   refine zQ (zkw V) ?_
   refine zP (zkv h) ?_
   refine zq (zku V) ?_
   refine zq (zku h) ?_
   refine ze (zba (zbM rfl ?_))
   refine zo (zf (zM (zg (zy (zc hO [] [(11, zks (IntKind.i64.wrap (g + 1)))] [0, 2, 3, 9, 10] zkh fun j => ?_)))))
   refine zf (zg ?_)
   have hO := hO.sel [3, 4]
   exact ⟨D, Nat.lt_succ_self _, g4, g5, g3, c2.2, (IntKind.i64.wrap (g + 1)), _, zkr zkg, hO, hL, c4, hF⟩
  refine zQ (zkw U) ?_
  refine zq (zku U) ?_
  refine zb hO 1 [] [(43, .bool false)] [0, 2, 3, 8, 9, 10, 11] zkj fun j => ?_
  rcases zY hF with ⟨q, hF⟩ | ⟨q, hF⟩
  ·refine zQ (zkv q) ?_
   refine zQ rfl ?_
   refine zQ (zkv q) ?_
   refine zq (zku q) ?_
   refine ze (zba (zbO rfl ?_))
   refine zB (zE (zr (zr (zE (zr ?_)))))
   cases hF
   have hO := hO.sel [0, 1]
   exact (hQ _ _ _ _ _ rfl hO hL ⟨_, _, rfl, rfl, c1⟩).1
  refine zP (zkv q) ?_
  refine zb hO 6 [4, 4] [(49, .bool (decide ((zS b.From B) < b.To)))] [0, 2, 3, 8, 9, 10, 11, 43] (And.intro (And.intro rfl rfl) (And.intro (And.intro rfl rfl) zkk)) fun j => ?_
  rcases zY hF with ⟨W, hF⟩ | ⟨W, hF⟩
  ·refine zP (zkw W) ?_
   refine zb hO 2 [4] [(50, .func (.yield l) #[] #[]), (51, .agg #[(.int .i64 (zS b.From B)), (.int .i64 b.To), (zkz w b.At z)])] [0, 2, 3, 9, 10, 11, 43, 49] (And.intro (And.intro rfl rfl) zkl) fun j => ?_
   obtain ⟨f6, h5, hF⟩ := zky hF
   have hO := hO.sel [2, 3, 4, 0, 1]
   refine zc2 (hs := [_, _, _]) rfl hl f0 hO (hy h5 E c1) rfl fun _ σ _ _ hO c6 h6 => ?_
   have hL := hL.trans c6
   have E := E.le c6
   have Y := Y.le c6
   have R := R.le c6
   obtain ⟨j0, h7, rfl, rfl, d6⟩ := h6
   obtain ⟨h8, h9, rfl, -⟩ := d6.form
   have hO := zkx5 hO
   refine zZ hO 1 [] [(0, .func (.yield l) #[] #[]), (2, .pointer (some b1)), (3, .pointer (some b2)), (9, zkz Z c b0), (10, zks (c.length : Int)), (11, zks g), (43, .bool false), (49, .bool (decide ((zS b.From B) < b.To))), (53, .bool (!f6.1))] zkk fun j => ?_
   refine zP (zkv q) ?_
   refine zq (zku W) ?_
   refine zq (zku q) ?_
   refine ze (zba (zp hF rfl (fun hF => ?_) fun hF => ?_))
   ·refine zB (zE (zr (zr (zE (zr ?_)))))
    cases hF
    have hO := hO.sel [3, 4]
    exact (hQ _ _ _ _ _ rfl hO hL ⟨_, _, rfl, rfl, d6⟩).1
   refine zo (zf (zM (zg (zy (zc hO [] [(11, zks (IntKind.i64.wrap (g + 1)))] [0, 2, 3, 9, 10] zkh fun j => ?_)))))
   refine zf (zg ?_)
   have hO := hO.sel [3, 4]
   exact ⟨D, Nat.lt_succ_self _, h8, h9, h7, f6.2, (IntKind.i64.wrap (g + 1)), _, zkr zkg, hO, hL, d6, hF⟩
  refine zQ (zkw W) ?_
  refine zP (zkv q) ?_
  refine zq (zku W) ?_
  refine zq (zku q) ?_
  refine ze (zba (zbM rfl ?_))
  refine zo (zf (zM (zg (zy (zc hO [] [(11, zks (IntKind.i64.wrap (g + 1)))] [0, 2, 3, 9, 10] zkh fun j => ?_)))))
  refine zf (zg ?_)
  have hO := hO.sel [0, 1]
  exact ⟨D, Nat.lt_succ_self _, b7, b8, b9, X, (IntKind.i64.wrap (g + 1)), _, zkr zkg, hO, hL, c1, hF⟩
 refine z0 (z3 (z1 (zg (zf ?_))))
 cases hF
 exact (hQ _ _ _ _ _ rfl hO hL ⟨_, _, rfl, rfl, d9⟩).2
theorem zjM {τ : Hp} {X : Value} {p0 : (List za)} {G I : Int} (r0 : RdT zk τ X p0) {rr : (List za)} (hF : zdF p0 G I = some rr) :
  Ctr Try.prog 23 #[X, .int .i64 G, .int .i64 I] τ [] (fun v τ' vs' => ∃ (X : Value) (o0 : Ob), v = X ∧ vs' = [o0] ∧ zv zG τ' X rr o0) := by
 obtain ⟨w, z, rfl, -⟩ := r0.form
 refine zht (args := [.slice w p0.length z, .int .i64 G, .int .i64 I]) hm Try.func23 s23 rfl fun w0 σ hO Q hQ => ?_
 unfold zdF at hF
 have hL := Hp.le.refl τ
 show zbt _ _ a23.body _ _ _
 unfold a23
 dsimp only
 refine zcq (zy (zi hO [] [(0, zkz w p0 z), (1, zks G), (2, zks I)] zke fun j => ?_))
 refine zf (zg (zcq (zy (z6 hO fun B σ hO => ?_))))
 have hO := zkx1 hO
 refine ze (zf (zg (zcq ?_)))
 unfold zfV
 refine zi hO [] [(0, zkz w p0 z), (1, zks G), (2, zks I), (7, zkt B), (13, .bool (decide (G ≥ I)))] zkg fun j => ?_
 refine zba ?_
 rcases zY hF with ⟨Y, hF⟩ | ⟨Y, hF⟩
 ·refine zbO (zku Y) ?_
  refine zh (zh (zi hO [] [(7, zkt B), (14, zkz w p0 z), (15, zks (p0.length : Int)), (16, zks 0)] zkf fun j => ?_))
  refine zx ?_
  have hO := hO.no
  have hO := zkx2 hO
  refine z2 (fun (n : Nat) e' σ' => ∃ (D : Option Addr) (E : Nat) (Z : Ob) (c : List za) (g : Int) (τ' : Hp), agr [(7, zkt B), (14, zkz w p0 z), (15, zks (p0.length : Int)), (16, zks g)] e' ∧ Obs τ' σ' [[(B, ⟨[zkz D c E], 23, 1, true⟩)], Z] ∧ Hp.le τ τ' ∧ zv zG τ' (zkz D c E) c Z ∧ RdT zk τ' (zkz w p0 z) p0 ∧ zc0 p0 n c g = some rr) big ⟨none, 0, [], [], 0, _, zkr zke, hO, hL, zv.nil _ _, r0, hF⟩ ?_
  clear hF hO hL
  rintro R e σ ⟨D, E, Z, c, g, _, hA, hO, hL, S, U, hF⟩
  rw [← zD _ _ hA]
  cases R with
  | zero => exact nomatch (show none = some rr from hF)
  | succ R =>
   replace hF : zeP (zc0 p0 R) p0 c g = some rr := hF
   unfold zeP at hF
   refine zi hO [] [(7, zkt B), (14, zkz w p0 z), (15, zks (p0.length : Int)), (16, zks g), (17, .bool (decide (g < (p0.length : Int))))] zkg fun j => ?_
   rcases zY hF with ⟨J, hF⟩ | ⟨J, hF⟩
   ·refine zbO (zku J) ?_
    refine zo (zx ?_)
    obtain ⟨b0, d9, hF⟩ := zky hF
    refine zF (T := zk) U hO.base rfl rfl d9 (by decide) fun a77 _ f0 f1 => ?_
    obtain ⟨g7, rfl, V⟩ := f0
    obtain ⟨f2, f3, rfl, -⟩ := V.form
    refine zs rfl ((f1.le hO.base).all rfl) ?_
    refine z6 hO fun g8 σ hO => ?_
    have hO := zkx3 hO
    refine zU hO (i := 2) rfl (off := 0) rfl rfl rfl rfl (Nat.le_of_ble_eq_true rfl) rfl fun σ hO => ?_
    have hO := zkx3 hO
    refine ze (zcL (zZ hO 2 [0, 2] [(7, zkt B), (14, zkz w p0 z), (15, zks (p0.length : Int)), (16, zks g), (20, zkz D c E), (21, .agg #[(.int .i64 b0.From), (.int .i64 b0.To), (zkz f2 b0.At f3)])] (And.intro (And.intro rfl rfl) (And.intro (And.intro rfl rfl) zkh)) fun j => ?_))
    refine z8 ?_
    obtain ⟨b, f4, hF⟩ := zky hF
    refine zu hO (zgq V f4) rfl fun _ σ _ _ hO W f5 => ?_
    have hL := hL.trans W
    have U := U.le W
    have S := S.le W
    have V := V.le W
    obtain ⟨g9, h0, rfl, rfl, c1⟩ := f5
    obtain ⟨b1, b3, rfl, -⟩ := c1.form
    have hO := zkx4 hO
    refine ze (z7 ⟨(zT rfl (hO.val (i := 0) (off := 0) (agg := false) (n := 1) rfl rfl) rfl), trivial⟩ ?_)
    refine z8 (zbJ (T := zG.T) (l := [⟨b.From, b.To, .slice b1 b.At.length b3⟩]) (cs := [.int .i64 b.From, .int .i64 b.To, .slice b1 b.At.length b3]) hO rfl ⟨[.int .i64 b.From, .int .i64 b.To, .slice b1 b.At.length b3], _, rfl, ⟨rfl, rfl⟩, rfl⟩ rfl (by decide) fun _ σ h1 b5 hO => ?_)
    have hO := zkx5 hO
    have hO := hO.glue (i := 4) (j := 3) rfl rfl (by decide)
    have c2 : zv zG _ _ ([(⟨b.From, b.To, b.At⟩ : za)] : List za) _ := zv.one b5 (zbR c1)
    obtain ⟨h2, h3, rfl, -⟩ := c2.form
    have hO := zkx5 hO
    refine ze (z7 ⟨(zT rfl (hO.val (i := 0) (off := 0) (agg := false) (n := 1) rfl rfl) rfl), trivial⟩ ?_)
    obtain ⟨_, hr, hF⟩ := zky hF
    refine zhI (N := zG) (fun _ _ _ _ h => h) hO S (i := 1) rfl c2 (j := 4) rfl (by decide) rfl rfl hr (by decide) fun _ σ c8 b6 hO => ?_
    obtain ⟨f6, c9, rfl, -⟩ := b6.form
    have hO := zkx5 hO
    refine zU hO (i := 0) rfl (off := 0) rfl rfl rfl rfl (Nat.le_of_ble_eq_true rfl) rfl fun σ hO => ?_
    have hO := zkx5 hO
    refine ze (zf (zM (zg (zy (zi hO [] [(7, zkt B), (14, zkz w p0 z), (15, zks (p0.length : Int)), (16, zks (IntKind.i64.wrap (g + 1)))] zkf fun j => ?_)))))
    refine zf (zg ?_)
    have hO := hO.sel [0, 1] (by decide)
    exact ⟨R, Nat.lt_succ_self _, f6, c9, c8, (c ++ ([(⟨b.From, b.To, b.At⟩ : za)] : List za)), (IntKind.i64.wrap (g + 1)), _, zkr zke, hO, hL, b6, U, hF⟩
   ·refine zbM (zku J) ?_
    refine z0 (z3 (z1 (zg (zh (zi hO [0] [(6, zkz D c E)] (And.intro (And.intro rfl rfl) zkc) fun j => ?_)))))
    refine zB ?_
    injection hF with hF
    subst hF
    have hO := hO.sel [1] (by decide)
    exact hQ _ _ _ _ _ rfl hO hL ⟨_, _, rfl, rfl, S⟩
 ·refine zbM (zku Y) ?_
  refine zo (zf (zg (zhF (zcq (zy (zZ hO 3 [] [(7, zkt B), (27, zkz w p0 z), (28, zks G), (29, zks I)] zkf fun j => ?_))))))
  refine zu hO (zhA r0) rfl fun _ σ _ _ hO h6 h7 => ?_
  have hL := hL.trans h6
  obtain ⟨v8, a8, a9, a10, rfl, rfl, r8, m8, m9, f7⟩ := h7
  have hO := zkx1 hO
  have hO := hO.no
  have hO := zkx2 hO
  refine ze (zf (zg (zhf (zg6 ?_))))
  refine ⟨58, #[.pointer (some a8), .pointer (some a9), .pointer (some a10)], _, rfl, by kernel_rfl, fun w1 l rec hl f8 hY => ziv hl f8 (fun {τ p0 g5 f9 vq oq} rr hF b7 wq => ?_) (zv.nil _ _) r8 m8 m9 f7 hF hO, fun v σ' hK => ?_⟩
  ·clear hO
   refine hY _ _ _ _ fun ρ hO w1 => ?_
   obtain ⟨d5, d6, rfl, -⟩ := b7.form
   obtain ⟨Aq, cq, rfl, -⟩ := wq.form
   unfold zd9 at hF
   have hL := Hp.le.refl τ
   unfold zfO
   refine zy (z6 hO fun b2 σ hO => ?_)
   have hO := zkx3 hO
   refine zU hO (i := 2) rfl (off := 0) rfl rfl rfl rfl (Nat.le_of_ble_eq_true rfl) rfl fun σ hO => ?_
   have hO := zkx3 hO
   refine ze (zf ?_)
   refine ⟨rfl, fun w2 => ?_⟩
   unfold zfv
   refine zcp (zx (zcL (zZ hO 2 [0, 2] [(7, zkt B), (32, zkz Aq f9 cq), (33, .agg #[(.int .i64 p0.From), (.int .i64 p0.To), (zkz d5 p0.At d6)])] (And.intro (And.intro rfl rfl) (And.intro (And.intro rfl rfl) zke)) fun j => ?_)))
   refine z8 ?_
   obtain ⟨q, h4, hF⟩ := zky hF
   refine zu hO (zgq b7 h4) rfl fun _ σ _ _ hO h5 h6 => ?_
   have hL := hL.trans h5
   have wq := wq.le h5
   obtain ⟨v7, o7, rfl, rfl, r8⟩ := h6
   obtain ⟨A9, b8, rfl, -⟩ := r8.form
   have hO := zkx4 hO
   refine ze (z7 ⟨(zT rfl (hO.val (i := 0) (off := 0) (agg := false) (n := 1) rfl rfl) rfl), trivial⟩ ?_)
   refine z8 (zbJ (T := zG.T) (l := [⟨q.From, q.To, .slice A9 q.At.length b8⟩]) (cs := [.int .i64 q.From, .int .i64 q.To, .slice A9 q.At.length b8]) hO rfl ⟨[.int .i64 q.From, .int .i64 q.To, .slice A9 q.At.length b8], _, rfl, ⟨rfl, rfl⟩, rfl⟩ rfl (by decide) fun _ σ h8 b5 hO => ?_)
   have hO := zkx5 hO
   have hO := hO.glue (i := 4) (j := 3) rfl rfl (by decide)
   have c4 : zv zG _ _ ([(⟨q.From, q.To, q.At⟩ : za)] : List za) _ := zv.one b5 (zbR r8)
   obtain ⟨h9, i0, rfl, -⟩ := c4.form
   have hO := zkx5 hO
   refine ze (z7 ⟨(zT rfl (hO.val (i := 0) (off := 0) (agg := false) (n := 1) rfl rfl) rfl), trivial⟩ ?_)
   obtain ⟨_, hr, hF⟩ := zky hF
   refine zhI (N := zG) (fun _ _ _ _ h => h) hO wq (i := 1) rfl c4 (j := 4) rfl (by decide) rfl rfl hr (by decide) fun _ σ i1 c5 hO => ?_
   obtain ⟨i2, i3, rfl, -⟩ := c5.form
   have hO := zkx5 hO
   refine zU hO (i := 0) rfl (off := 0) rfl rfl rfl rfl (Nat.le_of_ble_eq_true rfl) rfl fun σ hO => ?_
   have hO := zkx5 hO
   refine ze (zf (zM (zg (zf ?_))))
   injection hF with hF
   subst hF
   have hO := hO.sel [0, 1] (by decide)
   exact ⟨rfl, _, _, hO, hL, _, _, rfl, rfl, c5⟩
  ·obtain ⟨_, _, hO, g1, u, y, rfl, rfl, c6⟩ := hK
   have hL := hL.trans g1
   refine zM (zg ?_)
   intro w1
   obtain ⟨Au, cu, rfl, -⟩ := c6.form
   refine zi hO [0] [(6, zkz Au rr cu)] (And.intro (And.intro rfl rfl) zkc) fun j => ?_
   refine zJ ?_
   have hO := hO.sel [1] (by decide)
   exact hQ _ _ _ _ _ rfl hO hL ⟨_, _, rfl, rfl, c6⟩
theorem zjT {τ : Hp} {v0 : Value} {p0 : (List za)} (r0 : RdT zk τ v0 p0) {rr : (List za)} (hF : zdx p0 = some rr) :
  Ctr Try.prog 24 #[v0] τ [] (fun v τ' vs' => ∃ (v0 : Value) (o0 : Ob), v = v0 ∧ vs' = [o0] ∧ zv zG τ' v0 rr o0) := by
 obtain ⟨A0, c0, rfl, -⟩ := r0.form
 refine zN (args := [.slice A0 p0.length c0]) hm Try.func24 s24 rfl fun w0 σ hO Q hQ => ?_
 unfold zdx at hF
 have hL := Hp.le.refl τ
 show wpn _ _ a24.body _ _ _
 unfold a24
 dsimp only
 refine zc hO [] [] [0] zkc fun j => ?_
 refine zc hO [] [(3, .slice none 0 0)] [0] zkd fun j => ?_
 refine zh (zc hO [] [(7, zkz A0 p0 c0), (8, zks (p0.length : Int)), (9, zks 0)] [3] zkf fun j => ?_)
 refine zx ?_
 have hO := hO.no
 have hO := zkx1 hO
 refine z2 (fun (n : Nat) e' σ' => ∃ (V : Nat) (w : Option Addr) (z : Nat) (S : Ob) (b : List za) (D : Int) (τ' : Hp), agr [(3, .slice w V z), (7, zkz A0 p0 c0), (8, zks (p0.length : Int)), (9, zks D)] e' ∧ Obs τ' σ' [S] ∧ Hp.le τ τ' ∧ V = b.length ∧ zv zG τ' (.slice w V z) b S ∧ zdg p0 n b D = some rr) big ⟨0, none, 0, [], [], 0, _, zkr zke, hO, hL, rfl, zv.nil _ _, hF⟩ ?_
 clear hF hO hL
 rintro U e σ ⟨V, w, z, S, b, D, _, hA, hO, hL, d5, B, hF⟩
 rw [← zD _ _ hA]
 cases U with
 | zero => exact nomatch (show none = some rr from hF)
 | succ U =>
 replace hF : zew (zdg p0 U) p0 b D = some rr := hF
 unfold zew at hF
 subst d5
 refine zc hO [] [(10, .bool (decide (D < (p0.length : Int))))] [3, 7, 8, 9] zkg fun j => ?_
 refine zp hF rfl (fun hF => ?_) fun hF => ?_
 ·refine zo (zx ?_)
  obtain ⟨c, d7, hF⟩ := zky hF
  refine zF (T := zk) (r0.le hL) hO.base rfl rfl d7 (by decide) fun a233 _ d8 d9 => ?_
  obtain ⟨i1, rfl, E⟩ := d8
  obtain ⟨W, X, rfl, -⟩ := E.form
  refine zs rfl ((d9.le hO.base).all rfl) ?_
  refine z6 hO fun b2 σ hO => ?_
  have hO := zkx2 hO
  refine zU hO (i := 1) rfl (off := 0) rfl rfl rfl rfl (Nat.le_of_ble_eq_true rfl) rfl fun σ hO => ?_
  have hO := zkx2 hO
  refine ze (zh (zc hO [] [(6, zks (IntKind.i64.wrap ((b.length : Int) - 1)))] [3, 5, 7, 8, 9] zkh fun j => ?_))
  refine zh (zbn (zb hO 3 [] [(18, .bool (decide ((IntKind.i64.wrap ((b.length : Int) - 1)) ≥ 0)))] [3, 5, 6, 7, 8, 9] zki fun j => ?_))
  obtain ⟨b8, f0, hF⟩ := zky hF
  refine zb4 2 [(27, .bool b8), (3, zkz w b z), (5, zkt b2), (6, zks (IntKind.i64.wrap ((b.length : Int) - 1))), (7, zkz A0 p0 c0), (8, zks (p0.length : Int)), (9, zks D)] (fun Q hQ => ?_) fun j => ?_
  ·have hF := f0
   rcases zY hF with ⟨G, hF⟩ | ⟨G, hF⟩
   ·refine zP (zkw G) ?_
    refine zb hO 2 [] [(19, zkz w b z), (20, zks (IntKind.i64.wrap ((b.length : Int) - 1)))] [3, 5, 6, 7, 8, 9, 18] zkk fun j => ?_
    obtain ⟨f1, f2, hF⟩ := zky hF
    refine zF (T := zk) (B.rd hO (i := 0) rfl) (Hp.le.refl _) rfl rfl f2 (by decide) fun a246 _ f3 f4 => ?_
    obtain ⟨i2, rfl, f5⟩ := f3
    obtain ⟨i3, i4, rfl, -⟩ := f5.form
    refine zb hO 1 [] [(22, .pointer (some (a246.add 1)))] [3, 5, 6, 7, 8, 9, 18] zkj fun j => ?_
    refine zs rfl (f4.one 1 rfl) ?_
    refine zb hO 3 [1] [(26, .bool (f1.To == c.From))] [3, 5, 6, 7, 8, 9, 18] (And.intro (And.intro rfl rfl) zkj) fun j => ?_
    refine zq (zku G) ?_
    refine ze ?_
    cases hF
    refine zf ?_
    exact hQ _ zki
   refine zQ (zkw G) ?_
   refine zq (zku G) ?_
   refine ze ?_
   cases hF
   refine zf ?_
   exact hQ _ zki
  refine zb hO 1 [] [(28, .bool b8)] [3, 5, 6, 7, 8, 9] zki fun j => ?_
  obtain ⟨f6, f7, hF⟩ := zky hF
  refine zbr 2 (fun e' σ' => ∃ (τ' : Hp), agr [(37, .bool f6), (3, zkz w b z), (5, zkt b2), (6, zks (IntKind.i64.wrap ((b.length : Int) - 1))), (7, zkz A0 p0 c0), (8, zks (p0.length : Int)), (9, zks D)] e' ∧ Obs τ' σ' [S, zbT b2 c.From c.To (zkz W c.At X)] ∧ Hp.le τ τ' ∧ zv zG τ' (zkz w b z) b S ∧ RdT zw τ' (zkz W c.At X) c.At) ?_ ?_
  ·have hF := f7
   rcases zY hF with ⟨I, hF⟩ | ⟨I, hF⟩
   ·refine zP (zkw I) ?_
    refine zb hO 2 [] [(29, zkz w b z), (30, zks (IntKind.i64.wrap ((b.length : Int) - 1)))] [3, 5, 6, 7, 8, 9, 28] zkk fun j => ?_
    obtain ⟨J, f8, hF⟩ := zky hF
    obtain ⟨i5, i6, i7, i8, i9, Y, b9, f9, c1, g0, hO⟩ := B.open_ hO (i := 0) rfl f8
    obtain ⟨j0, rfl, Z⟩ := f9
    obtain ⟨c2, c3, rfl, -⟩ := Z.form
    have hO := zkx4 hO
    refine zbe (T := zG.T) hO Y (i := 0) rfl rfl rfl b9 (by decide) fun a272 _ g1 j1 g2 => ?_
    obtain ⟨rfl, -⟩ : _ = ([.int .i64 J.From, .int .i64 J.To, .slice c2 J.At.length c3] : List Value) ∧ _ := g1
    refine zb hO 1 [] [(32, .pointer (some (a272.add 2)))] [3, 5, 6, 7, 8, 9, 28] zkj fun j => ?_
    refine zs rfl ((zj.atN hO Y (i := 0) rfl g2 b9 (fun _ h => And.left h) (cs := [.int .i64 J.From, .int .i64 J.To, .slice c2 J.At.length c3])).one 2 rfl) ?_
    refine zb hO 2 [1] [(35, zkz W c.At X)] [3, 5, 6, 7, 8, 9, 28, 33] (And.intro (And.intro rfl rfl) zkk) fun j => ?_
    obtain ⟨j2, g3, hF⟩ := zky hF
    have hO := hO.sel [0, 1, 3, 2]
    refine zc1 (hs := [_, _, _]) hO (Ctr.lendG Z (fun _ _ _ _ h => h) fun _ h9 i0 => zh4 i0 (E.le h9) g3) rfl fun _ σ _ _ hO R g4 => ?_
    have hL := hL.trans R
    have B := B.le R
    have Z := Z.le R
    have E := E.le R
    have Y := Y.le R
    have c1 := c1.le R
    obtain ⟨_, rfl, rfl, rfl⟩ := g4
    have hO := zkx4 hO
    have hO := hO.sel [0, 1, 3, 2]
    have hO := zkx4 hO
    refine zq (zku I) ?_
    refine ze ?_
    have hO := hO.back3 (i := 0) (j := 2) (k := 3) rfl rfl rfl (by decide) (by decide) (by decide) g0
    have hO := zkx4 hO
    cases hF
    refine zf ?_
    have hO := hO.sel [0, 1]
    exact ⟨rfl, _, zkr zkh, hO, hL, B, E⟩
   refine zQ (zkw I) ?_
   refine zq (zku I) ?_
   refine ze ?_
   cases hF
   refine zf ?_
   exact ⟨rfl, _, zkr zkh, hO, hL, B, E⟩
  rintro e σ ⟨_, hA, hO, hL, B, E⟩
  rw [← zD _ _ hA]
  refine ze (zp hF rfl (fun hF => ?_) fun hF => ?_)
  ·refine zh (zb hO 4 [1] [(38, zkz w b z), (39, zks (IntKind.i64.wrap ((b.length : Int) - 1))), (41, zks c.To)] [3, 7, 8, 9] (And.intro (And.intro rfl rfl) zki) fun j => ?_)
   obtain ⟨q, g5, hF⟩ := zky hF
   obtain ⟨j3, j4, j5, j6, j7, c4, c5, g6, g7, j8, hO⟩ := B.open_ hO (i := 0) rfl g5
   obtain ⟨j9, rfl, c6⟩ := g6
   obtain ⟨b0, b1, rfl, -⟩ := c6.form
   have hO := zkx4 hO
   refine zbe (T := zG.T) hO c4 (i := 0) rfl rfl rfl c5 (by decide) fun a298 _ g8 k0 g9 => ?_
   obtain ⟨rfl, -⟩ : _ = ([.int .i64 q.From, .int .i64 q.To, .slice b0 q.At.length b1] : List Value) ∧ _ := g8
   refine zb hO 1 [] [(43, .pointer (some (a298.add 1)))] [3, 7, 8, 9, 41] zkh fun j => ?_
   refine zee (T := zG.T) (z' := (⟨q.From, c.To, (.slice b0 q.At.length b1)⟩ : zbw)) (off := 1) (vs := [.int .i64 c.To]) (cs := [.int .i64 q.From, .int .i64 q.To, .slice b0 q.At.length b1]) hO c4 (i := 0) rfl rfl g9 c5 (fun _ h => And.left h) rfl rfl rfl rfl (by decide) ⟨rfl, rfl⟩ fun σ _ h0 hO => ?_
   have hO := zkx4 hO
   obtain ⟨h1, c7, hO⟩ := g7.close (y' := (⟨q.From, c.To, q.At⟩ : za)) (b' := (⟨q.From, c.To, (.slice b0 q.At.length b1)⟩ : zbw)) h0 (zbR c6) hO (i := 0) (j := 2) (k := 3) rfl rfl rfl (by decide) (by decide) (by decide)
   have hO := zkx4 hO
   refine ze (z0 (z1 (zg (zy (zc hO [] [(9, zks (IntKind.i64.wrap (D + 1)))] [3, 7, 8] zkf fun j => ?_)))))
   refine zf (zg ?_)
   have hO := hO.sel [0]
   exact ⟨U, Nat.lt_succ_self _, b.length, w, z, h1, (b.set (Int.toNat (IntKind.i64.wrap ((b.length : Int) - 1))) (⟨q.From, c.To, q.At⟩ : za)), (IntKind.i64.wrap (D + 1)), _, zkr zke, hO, hL, c7.len, c7, hF⟩
  refine zo (zy (zb hO 2 [1] [(44, zkz w b z), (45, .agg #[(.int .i64 c.From), (.int .i64 c.To), (zkz W c.At X)])] [7, 8, 9] (And.intro (And.intro rfl rfl) zkg) fun j => ?_))
  obtain ⟨g, h2, hF⟩ := zky hF
  refine zu hO (zgq (p0 := (⟨c.From, c.To, c.At⟩ : za)) E h2) rfl fun _ σ _ _ hO b3 h3 => ?_
  have hL := hL.trans b3
  have B := B.le b3
  have E := E.le b3
  obtain ⟨k1, k2, rfl, rfl, c8⟩ := h3
  obtain ⟨h4, h5, rfl, -⟩ := c8.form
  have hO := zkx3 hO
  obtain ⟨_, d6, hF⟩ := zky hF
  refine zgd (N := zG) (y := (⟨g.From, g.To, g.At⟩ : za)) (bv := (⟨g.From, g.To, (.slice h4 g.At.length h5)⟩ : zbw)) hO B (i := 0) (j := 2) rfl rfl (by decide) rfl (fun _ => rfl) rfl ⟨rfl, rfl⟩ (zbR c8) rfl d6 (by decide) fun u _ σ h6 b4 hO => ?_
  obtain ⟨c9, d0, rfl, -⟩ := b4.form
  have hO := zkx3 hO
  refine zc hO [] [(3, zkz c9 (b ++ [(⟨g.From, g.To, g.At⟩ : za)]) d0)] [7, 8, 9] zkf fun j => ?_
  refine zf (zM (zg (zy (zc hO [] [(9, zks (IntKind.i64.wrap (D + 1)))] [3, 7, 8] zkf fun j => ?_))))
  refine zf (zg ?_)
  have hO := hO.sel [0]
  exact ⟨U, Nat.lt_succ_self _, (b ++ [(⟨g.From, g.To, g.At⟩ : za)]).length, c9, d0, h6, (b ++ [(⟨g.From, g.To, g.At⟩ : za)]), (IntKind.i64.wrap (D + 1)), _, zkr zke, hO, hL, b4.len, b4, hF⟩
 refine z0 (z3 (z1 (zg (zi hO [] [(2, zkz w b z)] zkc fun j => ?_))))
 refine zJ ?_
 cases hF
 exact hQ _ _ _ _ _ rfl hO hL ⟨_, _, rfl, rfl, B⟩
theorem zjZ {τ : Hp} {v0 : Value} {p0 : (List za)} (r0 : RdT zk τ v0 p0) {rr : (List za)} (hF : ze5 p0 = some rr) :
  Ctr Try.prog 28 #[v0] τ [] (fun v τ' vs' => ∃ (v0 : Value) (o0 : Ob), v = v0 ∧ vs' = [o0] ∧ zv zG τ' v0 rr o0) := by
 obtain ⟨S, U, rfl, -⟩ := r0.form
 refine zN (args := [.slice S p0.length U]) hm Try.func28 s28 rfl fun w0 σ hO Q hQ => ?_
 unfold ze5 at hF
 have hL := Hp.le.refl τ
 show wpn _ _ a28.body _ _ _
 unfold a28
 dsimp only
 refine zc hO [] [] [0] zkc fun j => ?_
 refine zc hO [] [(3, .slice none 0 0)] [0] zkd fun j => ?_
 refine zh (zc hO [] [(4, zks 0)] [0, 3] zke fun j => ?_)
 refine zx ?_
 have hO := hO.no
 have hO := zkx1 hO
 refine z2 (fun (n : Nat) e' σ' => ∃ (Y : Nat) (w : Option Addr) (z : Nat) (V : Ob) (b : List za) (c : Int) (τ' : Hp), agr [(0, zkz S p0 U), (3, .slice w Y z), (4, zks c)] e' ∧ Obs τ' σ' [V] ∧ Hp.le τ τ' ∧ Y = b.length ∧ zv zG τ' (.slice w Y z) b V ∧ zcA p0 n b c = some rr) big ⟨0, none, 0, [], [], 0, _, zkr zkd, hO, hL, rfl, zv.nil _ _, hF⟩ ?_
 clear hF hO hL
 rintro W e σ ⟨Y, w, z, V, b, c, _, hA, hO, hL, f6, B, hF⟩
 rw [← zD _ _ hA]
 cases W with
 | zero => exact nomatch (show none = some rr from hF)
 | succ W =>
 replace hF : zd4 (zcA p0 W) p0 b c = some rr := hF
 unfold zd4 at hF
 subst f6
 refine zh (zc hO [] [(9, .bool (decide (c < (p0.length : Int))))] [0, 3, 4] zkf fun j => ?_)
 refine zp hF rfl (fun hF => ?_) fun hF => ?_
 ·refine zo (zx (zc hO [] [(5, zks (IntKind.i64.wrap ((b.length : Int) - 1)))] [0, 3, 4] zkf fun j => ?_))
  refine zbn (zb hO 3 [] [(17, .bool (decide ((IntKind.i64.wrap ((b.length : Int) - 1)) ≥ 0)))] [0, 3, 4, 5] zkg fun j => ?_)
  obtain ⟨c6, f8, hF⟩ := zky hF
  refine zb4 2 [(29, .bool c6), (0, zkz S p0 U), (3, zkz w b z), (4, zks c), (5, zks (IntKind.i64.wrap ((b.length : Int) - 1)))] (fun Q hQ => ?_) fun j => ?_
  ·have hF := f8
   rcases zY hF with ⟨G, hF⟩ | ⟨G, hF⟩
   ·refine zP (zkw G) ?_
    refine zb hO 2 [] [(18, zkz w b z), (19, zks (IntKind.i64.wrap ((b.length : Int) - 1)))] [0, 3, 4, 5, 17] zki fun j => ?_
    obtain ⟨f9, g0, hF⟩ := zky hF
    refine zF (T := zk) (B.rd hO (i := 0) rfl) (Hp.le.refl _) rfl rfl g0 (by decide) fun a350 _ g1 g2 => ?_
    obtain ⟨k2, rfl, g3⟩ := g1
    obtain ⟨k3, k4, rfl, -⟩ := g3.form
    refine zb hO 1 [] [(21, .pointer (some (a350.add 1)))] [0, 3, 4, 5, 17] zkh fun j => ?_
    refine zs rfl (g2.one 1 rfl) ?_
    refine zb hO 2 [] [(23, zkz S p0 U), (24, zks c)] [0, 3, 4, 5, 17, 22] zkj fun j => ?_
    obtain ⟨g4, g5, hF⟩ := zky hF
    refine zF (T := zk) (r0.le hL) hO.base rfl rfl g5 (by decide) fun a359 _ g6 g7 => ?_
    obtain ⟨k5, rfl, g8⟩ := g6
    obtain ⟨k6, k7, rfl, -⟩ := g8.form
    refine zb hO 1 [] [(26, .pointer (some a359))] [0, 3, 4, 5, 17, 22] zki fun j => ?_
    refine zs rfl (g7.le hO.base).fst ?_
    refine zb hO 1 [] [(28, .bool (f9.To == g4.From))] [0, 3, 4, 5, 17] zkh fun j => ?_
    refine zq (zku G) ?_
    refine ze ?_
    cases hF
    refine zf ?_
    exact hQ _ zkg
   refine zQ (zkw G) ?_
   refine zq (zku G) ?_
   refine ze ?_
   cases hF
   refine zf ?_
   exact hQ _ zkg
  refine zb hO 1 [] [(30, .bool c6)] [0, 3, 4, 5] zkg fun j => ?_
  obtain ⟨g9, h0, hF⟩ := zky hF
  refine zbr 2 (fun e' σ' => ∃ (τ' : Hp), agr [(42, .bool g9), (0, zkz S p0 U), (3, zkz w b z), (4, zks c), (5, zks (IntKind.i64.wrap ((b.length : Int) - 1)))] e' ∧ Obs τ' σ' [V] ∧ Hp.le τ τ' ∧ zv zG τ' (zkz w b z) b V) ?_ ?_
  ·have hF := h0
   rcases zY hF with ⟨I, hF⟩ | ⟨I, hF⟩
   ·refine zP (zkw I) ?_
    refine zb hO 2 [] [(31, zkz w b z), (32, zks (IntKind.i64.wrap ((b.length : Int) - 1)))] [0, 3, 4, 5, 30] zki fun j => ?_
    obtain ⟨J, h1, hF⟩ := zky hF
    obtain ⟨k8, k9, l0, l1, l2, Z, c7, h2, c8, h3, hO⟩ := B.open_ hO (i := 0) rfl h1
    obtain ⟨l3, rfl, b0⟩ := h2
    obtain ⟨c9, d0, rfl, -⟩ := b0.form
    have hO := zkx3 hO
    refine zbe (T := zG.T) hO Z (i := 0) rfl rfl rfl c7 (by decide) fun a385 _ h4 l4 h5 => ?_
    obtain ⟨rfl, -⟩ : _ = ([.int .i64 J.From, .int .i64 J.To, .slice c9 J.At.length d0] : List Value) ∧ _ := h4
    refine zb hO 1 [] [(34, .pointer (some (a385.add 2)))] [0, 3, 4, 5, 30] zkh fun j => ?_
    refine zs rfl ((zj.atN hO Z (i := 0) rfl h5 c7 (fun _ h => And.left h) (cs := [.int .i64 J.From, .int .i64 J.To, .slice c9 J.At.length d0])).one 2 rfl) ?_
    refine zb hO 2 [] [(36, zkz S p0 U), (37, zks c)] [0, 3, 4, 5, 30, 35] zkj fun j => ?_
    obtain ⟨l5, h6, hF⟩ := zky hF
    refine zF (T := zk) (r0.le hL) hO.base rfl rfl h6 (by decide) fun a392 _ h7 b8 => ?_
    obtain ⟨l6, rfl, b1⟩ := h7
    obtain ⟨l7, l8, rfl, -⟩ := b1.form
    refine zb hO 1 [] [(39, .pointer (some (a392.add 2)))] [0, 3, 4, 5, 30, 35] zki fun j => ?_
    refine zs rfl ((b8.le hO.base).one 2 rfl) ?_
    obtain ⟨l9, h8, hF⟩ := zky hF
    have hO := hO.sel [0, 2, 1]
    refine zc1 (hs := [_, _]) hO (Ctr.lendG b0 (fun _ _ _ _ h => h) fun _ k0 k1 => zga k1 (b1.le k0) h8) rfl fun _ σ _ _ hO E h9 => ?_
    have hL := hL.trans E
    have B := B.le E
    have b0 := b0.le E
    have b8 := b8.le E
    have b1 := b1.le E
    have Z := Z.le E
    have c8 := c8.le E
    obtain ⟨_, rfl, rfl, rfl⟩ := h9
    have hO := zkx3 hO
    have hO := hO.sel [0, 2, 1]
    have hO := zkx3 hO
    refine zq (zku I) ?_
    refine ze ?_
    have hO := hO.back3 (i := 0) (j := 1) (k := 2) rfl rfl rfl (by decide) (by decide) (by decide) h3
    have hO := zkx3 hO
    cases hF
    refine zf ?_
    have hO := hO.sel [0]
    exact ⟨rfl, _, zkr zkf, hO, hL, B⟩
   refine zQ (zkw I) ?_
   refine zq (zku I) ?_
   refine ze ?_
   cases hF
   refine zf ?_
   exact ⟨rfl, _, zkr zkf, hO, hL, B⟩
  rintro e σ ⟨_, hA, hO, hL, B⟩
  rw [← zD _ _ hA]
  refine ze (zba (zp hF rfl (fun hF => ?_) fun hF => ?_))
  ·refine zb hO 4 [] [(43, zkz w b z), (44, zks (IntKind.i64.wrap ((b.length : Int) - 1))), (45, zkz S p0 U), (46, zks c)] [0, 3, 4] zki fun j => ?_
   obtain ⟨X, i0, hF⟩ := zky hF
   refine zF (T := zk) (r0.le hL) hO.base rfl rfl i0 (by decide) fun a406 _ i1 i2 => ?_
   obtain ⟨m0, rfl, i3⟩ := i1
   obtain ⟨m1, m2, rfl, -⟩ := i3.form
   refine zb hO 1 [] [(48, .pointer (some (a406.add 1)))] [0, 3, 4, 43, 44] zkh fun j => ?_
   refine zs rfl ((i2.le hO.base).one 1 rfl) ?_
   obtain ⟨q, i4, hF⟩ := zky hF
   obtain ⟨m3, m4, m5, m6, m7, d5, d6, i5, i6, m8, hO⟩ := B.open_ hO (i := 0) rfl i4
   obtain ⟨m9, rfl, d7⟩ := i5
   obtain ⟨b2, b3, rfl, -⟩ := d7.form
   have hO := zkx3 hO
   refine zbe (T := zG.T) hO d5 (i := 0) rfl rfl rfl d6 (by decide) fun a429 _ i7 n0 i8 => ?_
   obtain ⟨rfl, -⟩ : _ = ([.int .i64 q.From, .int .i64 q.To, .slice b2 q.At.length b3] : List Value) ∧ _ := i7
   refine zb hO 1 [] [(51, .pointer (some (a429.add 1)))] [0, 3, 4, 49] zkg fun j => ?_
   refine zee (T := zG.T) (z' := (⟨q.From, X.To, (.slice b2 q.At.length b3)⟩ : zbw)) (off := 1) (vs := [.int .i64 X.To]) (cs := [.int .i64 q.From, .int .i64 q.To, .slice b2 q.At.length b3]) hO d5 (i := 0) rfl rfl i8 d6 (fun _ h => And.left h) rfl rfl rfl rfl (by decide) ⟨rfl, rfl⟩ fun σ _ i9 hO => ?_
   have hO := zkx3 hO
   obtain ⟨j0, d8, hO⟩ := i6.close (y' := (⟨q.From, X.To, q.At⟩ : za)) (b' := (⟨q.From, X.To, (.slice b2 q.At.length b3)⟩ : zbw)) i9 (zbR d7) hO (i := 0) (j := 1) (k := 2) rfl rfl rfl (by decide) (by decide) (by decide)
   have hO := zkx3 hO
   refine ze (zf (zM (zg (zy (zc hO [] [(4, zks (IntKind.i64.wrap (c + 1)))] [0, 3] zke fun j => ?_)))))
   refine zf (zg ?_)
   have hO := hO.sel [0]
   exact ⟨W, Nat.lt_succ_self _, b.length, w, z, j0, (b.set (Int.toNat (IntKind.i64.wrap ((b.length : Int) - 1))) (⟨q.From, X.To, q.At⟩ : za)), (IntKind.i64.wrap (c + 1)), _, zkr zkd, hO, hL, d8.len, d8, hF⟩
  refine zbn (zb hO 3 [] [(52, zkz w b z), (53, zkz S p0 U), (54, zks c)] [0, 4] zkg fun j => ?_)
  obtain ⟨g, b9, hF⟩ := zky hF
  refine zF (T := zk) (r0.le hL) hO.base rfl rfl b9 (by decide) fun a439 _ j1 b4 => ?_
  obtain ⟨n1, rfl, c1⟩ := j1
  obtain ⟨n2, n3, rfl, -⟩ := c1.form
  refine zb hO 1 [] [(56, .pointer (some a439))] [0, 4, 52] zkf fun j => ?_
  refine zs rfl (b4.le hO.base).fst ?_
  refine zb hO 2 [] [(58, zkz S p0 U), (59, zks c)] [0, 4, 52, 56, 57] zki fun j => ?_
  obtain ⟨j2, d9, hF⟩ := zky hF
  obtain rfl : g = j2 := Option.some.inj (b9.symm.trans d9)
  refine zF (T := zk) (r0.le hL) hO.base rfl rfl d9 (by decide) fun a448 _ j3 b5 => ?_
  obtain ⟨n4, rfl, c2⟩ := j3
  obtain ⟨n5, n6, rfl, -⟩ := c2.form
  refine zb hO 1 [] [(61, .pointer (some (a448.add 1)))] [0, 4, 52, 56, 57] zkh fun j => ?_
  refine zs rfl ((b5.le hO.base).one 1 rfl) ?_
  refine zZ hO 2 [] [(0, zkz S p0 U), (4, zks c), (52, zkz w b z), (56, .pointer (some a439)), (57, zks g.From), (61, .pointer (some (a448.add 1))), (62, zks g.To), (63, zkz S p0 U), (64, zks c)] zkk fun j => ?_
  obtain ⟨j4, f0, hF⟩ := zky hF
  obtain rfl : g = j4 := Option.some.inj (b9.symm.trans f0)
  refine zF (T := zk) (r0.le hL) hO.base rfl rfl f0 (by decide) fun a457 _ j5 c3 => ?_
  obtain ⟨n7, rfl, b6⟩ := j5
  obtain ⟨n8, n9, rfl, -⟩ := b6.form
  refine zb hO 1 [] [(66, .pointer (some (a457.add 2)))] [0, 4, 52, 56, 57, 61, 62] zkj fun j => ?_
  refine zs rfl ((c3.le hO.base).one 2 rfl) ?_
  refine z8 ?_
  obtain ⟨R, j6, hF⟩ := zky hF
  refine zu hO (ze4 b6 j6) rfl fun _ σ _ _ hO D j7 => ?_
  have hL := hL.trans D
  have B := B.le D
  have b4 := b4.le D
  have c1 := c1.le D
  have b5 := b5.le D
  have c2 := c2.le D
  have c3 := c3.le D
  have b6 := b6.le D
  obtain ⟨o3, o4, rfl, rfl, f1⟩ := j7
  obtain ⟨f2, f3, rfl, -⟩ := f1.form
  have hO := zkx2 hO
  refine ze (z7 ⟨(zT rfl ((b5.le hO.base).one 1 rfl) rfl), (zT rfl (b4.le hO.base).fst rfl), trivial⟩ ?_)
  refine zb hO 1 [] [(69, .agg #[(.int .i64 g.From), (.int .i64 g.To), (zkz f2 R f3)])] [0, 4, 52] zkf fun j => ?_
  obtain ⟨_, f7, hF⟩ := zky hF
  refine zgd (N := zG) (y := (⟨g.From, g.To, R⟩ : za)) (bv := (⟨g.From, g.To, (.slice f2 R.length f3)⟩ : zbw)) hO B (i := 0) (j := 1) rfl rfl (by decide) rfl (fun _ => rfl) rfl ⟨rfl, rfl⟩ (zbR f1) rfl f7 (by decide) fun u _ σ j8 c4 hO => ?_
  obtain ⟨f4, f5, rfl, -⟩ := c4.form
  have hO := zkx2 hO
  refine zc hO [] [(3, zkz f4 (b ++ [(⟨g.From, g.To, R⟩ : za)]) f5)] [0, 4] zke fun j => ?_
  refine zf (zM (zg (zy (zc hO [] [(4, zks (IntKind.i64.wrap (c + 1)))] [0, 3] zke fun j => ?_))))
  refine zf (zg ?_)
  have hO := hO.sel [0]
  exact ⟨W, Nat.lt_succ_self _, (b ++ [(⟨g.From, g.To, R⟩ : za)]).length, f4, f5, j8, (b ++ [(⟨g.From, g.To, R⟩ : za)]), (IntKind.i64.wrap (c + 1)), _, zkr zkd, hO, hL, c4.len, c4, hF⟩
 refine z0 (z3 (z1 (zg (zi hO [] [(2, zkz w b z)] zkc fun j => ?_))))
 refine zJ ?_
 cases hF
 exact hQ _ _ _ _ _ rfl hO hL ⟨_, _, rfl, rfl, B⟩
theorem zjI {τ : Hp} {v0 : Value} {p0 : (List za)} {p1 p2 p3 : Int} (r0 : RdT zk τ v0 p0) {rr : Bool} (hF : zeQ p0 p1 p2 p3 = some rr) :
  Ctr Try.prog 5 #[v0, .int .i64 p1, .int .i64 p2, .int .i64 p3] τ [] (fun v τ' vs' => v = .bool rr ∧ vs' = []) := by
 obtain ⟨A0, c0, rfl, -⟩ := r0.form
 refine zN (args := [.slice A0 p0.length c0, .int .i64 p1, .int .i64 p2, .int .i64 p3]) hm Try.func5 s5 rfl fun w0 σ hO Q hQ => ?_
 unfold zeQ at hF
 have hL := Hp.le.refl τ
 show wpn _ _ a5.body _ _ _
 unfold a5
 dsimp only
 refine zc hO [] [] [0, 1, 2, 3] zkf fun j => ?_
 refine zh (zb hO 1 [] [(18, zkz A0 p0 c0)] [0, 1, 2, 3] zkg fun j => ?_)
 obtain ⟨c5, h6, hF⟩ := zky hF
 refine zu hO (zi7 (r0.le hL) h6) rfl fun _ σ _ _ hO h7 h8 => ?_
 have hL := hL.trans h7
 obtain ⟨rfl, rfl⟩ := h8
 have hO : Obs _ _ [] := hO
 refine ze (zp hF rfl (fun hF => ?_) fun hF => ?_)
 ·refine zh ?_
  obtain ⟨B6, B7, hF⟩ := zky hF
  refine zu hO (zg2 B7) rfl fun _ σ _ _ hO B8 B9 => ?_
  have hL := hL.trans B8
  obtain ⟨rfl, rfl⟩ := B9
  have hO : Obs _ _ [] := hO
  refine zi hO [] [(8, .bool B6)] zkc fun j => ?_
  refine zB ?_
  cases hF
  exact hQ _ _ _ _ _ rfl hO hL ⟨rfl, rfl⟩
 refine zo (zb hO 1 [] [(21, zkz A0 p0 c0)] [0, 1, 2, 3] zkg fun j => ?_)
 obtain ⟨b, C0, hF⟩ := zky hF
 refine zu hO (zjO (r0.le hL) C0) rfl fun _ σ _ _ hO C1 C2 => ?_
 have hL := hL.trans C1
 obtain ⟨K1, K2, rfl, rfl, B1⟩ := C2
 obtain ⟨J, R, rfl, -⟩ := B1.form
 have hO := zkx1 hO
 refine zc hO [] [(9, zkz J b R)] [0, 1, 2, 3] zkg fun j => ?_
 refine zb hO 2 [] [(23, zkz J b R), (24, zks p1)] [0, 1, 2, 3, 9] zki fun j => ?_
 obtain ⟨_, C3, c, hO⟩ := B1.share hO (i := 0) rfl
 have hL := hL.trans C3
 have hO := zkx1 hO
 obtain ⟨c8, C4, hF⟩ := zky hF
 refine zu hO (zhH c C4) rfl fun _ σ _ _ hO B2 C5 => ?_
 have hL := hL.trans B2
 have c := c.le B2
 obtain ⟨K3, k8, rfl, rfl, w⟩ := C5
 obtain ⟨g6, g7, rfl, -⟩ := w.form
 have hO := zkx2 hO
 refine zc hO [] [(10, zkz g6 c8 g7)] [0, 1, 2, 3, 9] zkh fun j => ?_
 refine zb hO 3 [] [(26, zkz J b R), (27, zks p2), (28, zks p3)] [0, 1, 2, 3, 9, 10] zkk fun j => ?_
 obtain ⟨d8, C6, hF⟩ := zky hF
 refine zu hO (zjM c C6) rfl fun _ σ _ _ hO q3 C7 => ?_
 have hL := hL.trans q3
 have c := c.le q3
 have w := w.le q3
 obtain ⟨K4, k9, rfl, rfl, z⟩ := C7
 obtain ⟨g8, g9, rfl, -⟩ := z.form
 have hO := zkx3 hO
 refine zc hO [] [(11, zkz g8 d8 g9)] [0, 1, 2, 3, 9, 10] zki fun j => ?_
 refine zZ hO 1 [] [(0, zkz A0 p0 c0), (1, zks p1), (2, zks p2), (3, zks p3), (9, zkz J b R), (10, zkz g6 c8 g7), (11, zkz g8 d8 g9), (30, zkz J b R)] zkj fun j => ?_
 obtain ⟨d9, C8, hF⟩ := zky hF
 refine zu hO (zjT c C8) rfl fun _ σ _ _ hO l8 C9 => ?_
 have hL := hL.trans l8
 have c := c.le l8
 have w := w.le l8
 have z := z.le l8
 obtain ⟨K5, l0, rfl, rfl, I⟩ := C9
 obtain ⟨i8, i9, rfl, -⟩ := I.form
 have hO := zkx4 hO
 refine zc hO [] [(12, zkz i8 d9 i9)] [0, 1, 2, 3, 9, 10, 11] zkj fun j => ?_
 refine zh (zb hO 3 [] [(32, zkz g6 c8 g7), (33, zkz A0 p0 c0), (34, zks p1)] [0, 2, 3, 9, 10, 11, 12] zkl fun j => ?_)
 obtain ⟨K6, D0, hF⟩ := zky hF
 refine zu hO (zjf (r0.le hL) D0) rfl fun _ σ _ _ hO l1 D1 => ?_
 have hL := hL.trans l1
 have c := c.le l1
 have w := w.le l1
 have z := z.le l1
 have I := I.le l1
 obtain ⟨K7, K8, rfl, rfl, l9⟩ := D1
 obtain ⟨K9, L0, rfl, -⟩ := l9.form
 have hO := zkx5 hO
 obtain ⟨D2, D3, hF⟩ := zky hF
 have hO := hO.sel [0, 2, 3, 1, 4]
 refine zc1 (hs := [_, _, _]) hO (Ctr.lendG w (zhS (fun _ _ _ _ h => h)) fun _ l2 l3 => Ctr.lendG (l9.le l2) (fun _ _ _ _ h => h) fun _ q4 q5 => zga (l3.le q4) q5 D3) rfl fun _ σ _ _ hO j2 D4 => ?_
 have hL := hL.trans j2
 have c := c.le j2
 have w := w.le j2
 have z := z.le j2
 have I := I.le j2
 have l9 := l9.le j2
 obtain ⟨_, rfl, _, rfl, rfl, rfl⟩ := D4
 have hO := zkx5 hO
 have hO := hO.sel [0, 3, 1, 2, 4]
 have hO := zkx5 hO
 refine zb hO 2 [] [(38, .bool (!D2))] [0, 2, 3, 9, 10, 11, 12] zkj fun j => ?_
 have hO := hO.sel [1, 2, 3]
 have hO := zkx3 hO
 obtain ⟨B3, D5, hF⟩ := zky hF
 refine zbr 2 (fun e' σ' => ∃ (τ' : Hp), agr [(46, .bool B3), (0, zkz A0 p0 c0), (9, zkz J b R), (10, zkz g6 c8 g7), (11, zkz g8 d8 g9), (12, zkz i8 d9 i9)] e' ∧ Obs τ' σ' [k8, k9, l0] ∧ Hp.le τ τ' ∧ RdT zk τ' (zkz J b R) b ∧ zj zw 44 τ' (zkz g6 c8 g7) c8 k8 ∧ zv zG τ' (zkz g8 d8 g9) d8 k9 ∧ zv zG τ' (zkz i8 d9 i9) d9 l0) ?_ ?_
 ·have hF := D5
  rcases zY hF with ⟨j0, hF⟩ | ⟨j0, hF⟩
  ·refine zQ (zkv j0) ?_
   refine zq (zku j0) ?_
   refine ze ?_
   cases hF
   refine zf ?_
   exact ⟨rfl, _, zkr zkg, hO, hL, c, w, z, I⟩
  refine zP (zkv j0) ?_
  refine zb hO 4 [] [(39, zkz g8 d8 g9), (40, zkz A0 p0 c0), (41, zks p2), (42, zks p3)] [0, 9, 10, 11, 12, 38] zkl fun j => ?_
  obtain ⟨L1, D6, hF⟩ := zky hF
  refine zu hO (zjS (r0.le hL) D6) rfl fun _ σ _ _ hO l4 D7 => ?_
  have hL := hL.trans l4
  have c := c.le l4
  have w := w.le l4
  have z := z.le l4
  have I := I.le l4
  obtain ⟨L2, L3, rfl, rfl, B4⟩ := D7
  obtain ⟨L4, L5, rfl, -⟩ := B4.form
  have hO := zkx4 hO
  obtain ⟨_, l5, q6, hO⟩ := B4.share hO (i := 3) rfl
  have hL := hL.trans l5
  have c := c.le l5
  have w := w.le l5
  have z := z.le l5
  have I := I.le l5
  have hO := zkx4 hO
  obtain ⟨D8, D9, hF⟩ := zky hF
  have hO := hO.sel [0, 2, 3, 1]
  refine zc1 (hs := [_, _, _]) hO (Ctr.lendN z (fun _ _ _ _ h => h) fun _ l2 l3 => zej l3 (q6.le l2) D9) rfl fun _ σ _ _ hO j3 E0 => ?_
  have hL := hL.trans j3
  have c := c.le j3
  have w := w.le j3
  have z := z.le j3
  have I := I.le j3
  have q6 := q6.le j3
  obtain ⟨_, rfl, rfl, rfl⟩ := E0
  have hO := zkx4 hO
  have hO := hO.sel [0, 3, 1, 2]
  have hO := zkx4 hO
  refine zb hO 1 [] [(45, .bool (!D8))] [0, 9, 10, 11, 12, 38] zki fun j => ?_
  refine zq (zku j0) ?_
  refine ze ?_
  cases hF
  refine zf ?_
  have hO := hO.sel [0, 1, 2]
  exact ⟨rfl, _, zkr zkg, hO, hL, c, w, z, I⟩
 rintro e σ ⟨_, hA, hO, hL, c, w, z, I⟩
 rw [← zD _ _ hA]
 refine zb hO 1 [] [(47, .bool B3)] [0, 9, 10, 11, 12] zkh fun j => ?_
 obtain ⟨E1, E2, hF⟩ := zky hF
 refine zbr 2 (fun e' σ' => ∃ (τ' : Hp), agr [(53, .bool E1), (0, zkz A0 p0 c0), (9, zkz J b R), (10, zkz g6 c8 g7), (11, zkz g8 d8 g9), (12, zkz i8 d9 i9)] e' ∧ Obs τ' σ' [k8, k9, l0] ∧ Hp.le τ τ' ∧ RdT zk τ' (zkz J b R) b ∧ zj zw 44 τ' (zkz g6 c8 g7) c8 k8 ∧ zv zG τ' (zkz g8 d8 g9) d8 k9 ∧ zv zG τ' (zkz i8 d9 i9) d9 l0) ?_ ?_
 ·have hF := E2
  rcases zY hF with ⟨j1, hF⟩ | ⟨j1, hF⟩
  ·refine zQ (zkv j1) ?_
   refine zq (zku j1) ?_
   refine ze ?_
   cases hF
   refine zf ?_
   exact ⟨rfl, _, zkr zkg, hO, hL, c, w, z, I⟩
  refine zP (zkv j1) ?_
  refine zb hO 2 [] [(48, zkz i8 d9 i9), (49, zkz A0 p0 c0)] [0, 9, 10, 11, 12, 47] zkj fun j => ?_
  obtain ⟨L6, E3, hF⟩ := zky hF
  refine zu hO (zjZ (r0.le hL) E3) rfl fun _ σ _ _ hO l6 E4 => ?_
  have hL := hL.trans l6
  have c := c.le l6
  have w := w.le l6
  have z := z.le l6
  have I := I.le l6
  obtain ⟨L7, L8, rfl, rfl, m0⟩ := E4
  obtain ⟨L9, M0, rfl, -⟩ := m0.form
  have hO := zkx4 hO
  obtain ⟨E5, E6, hF⟩ := zky hF
  refine zc1 (hs := [_, _]) hO (Ctr.lendN I (zhS (fun _ _ _ _ h => h)) fun _ l2 l3 => Ctr.lendN (m0.le l2) (fun _ _ _ _ h => h) fun _ q4 q5 => zej (l3.le q4) q5 E6) rfl fun _ σ _ _ hO j4 E7 => ?_
  have hL := hL.trans j4
  have c := c.le j4
  have w := w.le j4
  have z := z.le j4
  have I := I.le j4
  have m0 := m0.le j4
  obtain ⟨_, rfl, _, rfl, rfl, rfl⟩ := E7
  have hO := zkx4 hO
  refine zb hO 1 [] [(52, .bool (!E5))] [0, 9, 10, 11, 12, 47] zki fun j => ?_
  refine zq (zku j1) ?_
  refine ze ?_
  cases hF
  refine zf ?_
  have hO := hO.sel [0, 1, 2]
  exact ⟨rfl, _, zkr zkg, hO, hL, c, w, z, I⟩
 rintro e σ ⟨_, hA, hO, hL, c, w, z, I⟩
 rw [← zD _ _ hA]
 refine ze (zp hF rfl (fun hF => ?_) fun hF => ?_)
 ·refine zh (zi hO [] [(8, .bool false)] zkc fun j => ?_)
  refine zB ?_
  cases hF
  have hO := hO.sel []
  exact hQ _ _ _ _ _ rfl hO hL ⟨rfl, rfl⟩
 refine zo (zh (zc hO [] [(13, zks 0)] [0, 9, 10, 11, 12] zkh fun j => ?_))
 refine zx (z2 (fun (n : Nat) e' σ' => ∃ (h0 : Nat) (f0 : Option Addr) (f1 : Nat) (j5 : Ob) (b2 : List zd) (f2 : Option Addr) (f3 : Nat) (f4 : Ob) (b5 : List za) (f5 : Option Addr) (f6 : Nat) (f7 : Ob) (b6 : List za) (b3 : Int) (τ' : Hp), agr [(0, zkz A0 p0 c0), (9, zkz J b R), (10, .slice f0 h0 f1), (11, zkz f2 b5 f3), (12, zkz f5 b6 f6), (13, zks b3)] e' ∧ Obs τ' σ' [j5, f4, f7] ∧ Hp.le τ τ' ∧ RdT zk τ' (zkz J b R) b ∧ h0 = b2.length ∧ zj zw 44 τ' (.slice f0 h0 f1) b2 j5 ∧ zv zG τ' (zkz f2 b5 f3) b5 f4 ∧ zv zG τ' (zkz f5 b6 f6) b6 f7 ∧ zdZ p0 b n b2 b5 b6 b3 = some rr) big ⟨c8.length, g6, g7, k8, c8, g8, g9, k9, d8, i8, i9, l0, d9, 0, _, zkr zkg, hO, hL, c, w.len, w, z, I, hF⟩ ?_)
 clear hF hO hL
 rintro h1 e σ ⟨h0, f0, f1, j5, b2, f2, f3, f4, b5, f5, f6, f7, b6, b3, _, hA, hO, hL, m1, q7, j6, m2, m3, hF⟩
 rw [← zD _ _ hA]
 cases h1 with
 | zero => exact nomatch (show none = some rr from hF)
 | succ h1 =>
 replace hF : zdn (zdZ p0 b h1) p0 b b2 b5 b6 b3 = some rr := hF
 unfold zdn at hF
 subst q7
 refine zh (zc hO [] [(57, .bool (decide (b3 < (b2.length : Int))))] [0, 9, 10, 11, 12, 13] zki fun j => ?_)
 refine zp hF rfl (fun hF => ?_) fun hF => ?_
 ·refine zo (zx (zy (zb hO 2 [] [(60, zkz f0 b2 f1), (61, zks b3)] [0, 9, 10, 11, 12, 13] zkj fun j => ?_)))
  obtain ⟨X, m4, hF⟩ := zky hF
  refine zbe (T := zw) hO j6 (i := 0) rfl rfl rfl m4 (by decide) fun a5339 _ r1 r2 E8 => ?_
  have r3 := r1
  obtain rfl : _ = ([.int .u8 X.Kind.toNat, .int .i64 X.N] : List Value) := r3
  refine zb hO 1 [] [(63, .pointer (some (a5339.add 1)))] [0, 9, 10, 11, 12, 13, 60, 61] zkk fun j => ?_
  refine zs rfl (r2.one 1 rfl) ?_
  refine zb hO 1 [] [(65, zks (IntKind.i64.wrap (X.N + 1)))] [0, 9, 10, 11, 12, 13, 60, 61] zkk fun j => ?_
  obtain ⟨r4, j7, hF⟩ := zky hF
  obtain rfl : X = r4 := Option.some.inj (m4.symm.trans j7)
  refine zbe (T := zw) hO j6 (i := 0) rfl rfl rfl j7 (by decide) fun a5346 _ m5 r5 r6 => ?_
  have r7 := m5
  obtain rfl : _ = ([.int .u8 X.Kind.toNat, .int .i64 X.N] : List Value) := r7
  refine zb hO 1 [] [(67, .pointer (some (a5346.add 1)))] [0, 9, 10, 11, 12, 13, 65] zkj fun j => ?_
  refine zdW (T := zw) (z' := (⟨X.Kind, (IntKind.i64.wrap (X.N + 1))⟩ : zd)) (off := 1) (vs := [.int .i64 (IntKind.i64.wrap (X.N + 1))]) hO j6 (i := 0) rfl rfl r6 j7 m5 r5 rfl rfl rfl rfl (by decide) (show _ = _ from rfl) fun σ r8 m6 hO => ?_
  have hO := zkx3 hO
  refine ze (zf (zM (zg (zy (zc hO [] [(13, zks (IntKind.i64.wrap (b3 + 1)))] [0, 9, 10, 11, 12] zkh fun j => ?_)))))
  refine zf (zg ?_)
  exact ⟨h1, Nat.lt_succ_self _, b2.length, f0, f1, r8, (b2.set (Int.toNat b3) (⟨X.Kind, (IntKind.i64.wrap (X.N + 1))⟩ : zd)), f2, f3, f4, b5, f5, f6, f7, b6, (IntKind.i64.wrap (b3 + 1)), _, zkr zkg, hO, hL, m1, m6.len, m6, m2, m3, hF⟩
 refine z0 (z3 (z1 (zg (zh (zc hO [] [(14, zks 0)] [0, 9, 11, 12] zkg fun j => ?_)))))
 refine zx ?_
 have hO := hO.sel [1, 2]
 refine z2 (fun (n : Nat) e' σ' => ∃ (f8 : Option Addr) (f9 : Nat) (j8 : Ob) (b0 : List za) (g0 : Option Addr) (g1 : Nat) (g2 : Ob) (b7 : List za) (g : Int) (τ' : Hp), agr [(0, zkz A0 p0 c0), (9, zkz J b R), (11, zkz f8 b0 f9), (12, zkz g0 b7 g1), (14, zks g)] e' ∧ Obs τ' σ' [j8, g2] ∧ Hp.le τ τ' ∧ RdT zk τ' (zkz J b R) b ∧ zv zG τ' (zkz f8 b0 f9) b0 j8 ∧ zv zG τ' (zkz g0 b7 g1) b7 g2 ∧ zb8 p0 b n b0 b7 g = some rr) big ⟨f2, f3, f4, b5, f5, f6, f7, b6, 0, _, zkr zkf, hO, hL, m1, m2, m3, hF⟩ ?_
 clear hF hO hL
 rintro c3 e σ ⟨f8, f9, j8, b0, g0, g1, g2, b7, g, _, hA, hO, hL, m7, m8, m9, hF⟩
 rw [← zD _ _ hA]
 cases c3 with
 | zero => exact nomatch (show none = some rr from hF)
 | succ c3 =>
 replace hF : zdE (zb8 p0 b c3) p0 b b0 b7 g = some rr := hF
 unfold zdE at hF
 refine zh (zc hO [] [(71, .bool (decide (g < (b0.length : Int))))] [0, 9, 11, 12, 14] zkh fun j => ?_)
 refine zp hF rfl (fun hF => ?_) fun hF => ?_
 ·refine zo (zx (zb hO 2 [] [(74, zkz f8 b0 f9), (75, zks g)] [0, 9, 11, 12, 14] zki fun j => ?_))
  obtain ⟨d0, r9, hF⟩ := zky hF
  refine zF (T := zk) (m8.rd hO (i := 0) rfl) (Hp.le.refl _) rfl rfl r9 (by decide) fun a7086 _ t0 t1 => ?_
  obtain ⟨E9, rfl, t2⟩ := t0
  obtain ⟨F0, F1, rfl, -⟩ := t2.form
  refine zb hO 1 [] [(77, .pointer (some a7086))] [0, 9, 11, 12, 14, 74, 75] zkj fun j => ?_
  refine zs rfl t1.fst ?_
  refine zb hO 1 [] [(79, zks (IntKind.i64.wrap (d0.From + 1)))] [0, 9, 11, 12, 14, 74, 75] zkj fun j => ?_
  obtain ⟨B, t3, hF⟩ := zky hF
  obtain ⟨F2, F3, F4, F5, F6, n0, n1, t4, t5, F7, hO⟩ := m8.open_ hO (i := 0) rfl t3
  obtain ⟨F8, rfl, n2⟩ := t4
  obtain ⟨h2, h3, rfl, -⟩ := n2.form
  have hO := zkx4 hO
  refine zbe (T := zG.T) hO n0 (i := 0) rfl rfl rfl n1 (by decide) fun a7109 _ t6 F9 t7 => ?_
  obtain ⟨rfl, -⟩ : _ = ([.int .i64 B.From, .int .i64 B.To, .slice h2 B.At.length h3] : List Value) ∧ _ := t6
  refine zb hO 1 [] [(81, .pointer (some a7109))] [0, 9, 11, 12, 14, 79] zki fun j => ?_
  refine zee (T := zG.T) (z' := (⟨(IntKind.i64.wrap (d0.From + 1)), B.To, (.slice h2 B.At.length h3)⟩ : zbw)) (off := 0) (vs := [.int .i64 (IntKind.i64.wrap (d0.From + 1))]) (cs := [.int .i64 B.From, .int .i64 B.To, .slice h2 B.At.length h3]) hO n0 (i := 0) rfl (by rw [add_zero]; rfl) t7 n1 (fun _ h => And.left h) rfl rfl rfl rfl (by decide) ⟨rfl, rfl⟩ fun σ _ t8 hO => ?_
  have hO := zkx4 hO
  obtain ⟨t9, n3, hO⟩ := t5.close (y' := (⟨(IntKind.i64.wrap (d0.From + 1)), B.To, B.At⟩ : za)) (b' := (⟨(IntKind.i64.wrap (d0.From + 1)), B.To, (.slice h2 B.At.length h3)⟩ : zbw)) t8 (zbR n2) hO (i := 0) (j := 2) (k := 3) rfl rfl rfl (by decide) (by decide) (by decide)
  have hO := zkx4 hO
  refine ze (zc hO [] [(15, zks 0)] [0, 9, 11, 12, 14] zkh fun j => ?_)
  refine zcp (zx ?_)
  have hO := hO.sel [0, 1]
  refine z2 (fun (n : Nat) e' σ' => ∃ (h4 : Nat) (b8 : Option Addr) (b9 : Nat) (h5 : Ob) (Y : List za) (d5 : Option Addr) (d6 : Nat) (g3 : Ob) (b4 : List za) (S : Int) (τ' : Hp), agr [(0, zkz A0 p0 c0), (9, zkz J b R), (11, .slice b8 h4 b9), (12, zkz d5 b4 d6), (14, zks g), (15, zks S)] e' ∧ Obs τ' σ' [h5, g3] ∧ Hp.le τ τ' ∧ RdT zk τ' (zkz J b R) b ∧ h4 = Y.length ∧ zv zG τ' (.slice b8 h4 b9) Y h5 ∧ zv zG τ' (zkz d5 b4 d6) b4 g3 ∧ zdO (zb8 p0 b c3) g n Y b4 S = some rr) big ⟨b0.length, f8, f9, t9, (b0.set (Int.toNat g) (⟨(IntKind.i64.wrap (d0.From + 1)), B.To, B.At⟩ : za)), g0, g1, g2, b7, 0, _, zkr zkg, hO, hL, m7, n3.len, n3, m9, hF⟩ ?_
  clear hF hO hL
  rintro h9 e σ ⟨h4, b8, b9, h5, Y, d5, d6, g3, b4, S, _, hA, hO, hL, n4, q8, j9, n5, hF⟩
  rw [← zD _ _ hA]
  cases h9 with
  | zero => exact nomatch (show none = some rr from hF)
  | succ h9 =>
  replace hF : zdy (zdO (zb8 p0 b c3) g h9) (zb8 p0 b c3) g Y b4 S = some rr := hF
  unfold zdy at hF
  subst q8
  refine zh (zb hO 3 [] [(82, zks S), (83, zkz b8 Y b9), (84, zks g)] [0, 9, 11, 12, 14, 15] zkk fun j => ?_)
  obtain ⟨u0, u1, hF⟩ := zky hF
  refine zF (T := zk) (j9.rd hO (i := 0) rfl) (Hp.le.refl _) rfl rfl u1 (by decide) fun a7245 _ u2 u3 => ?_
  obtain ⟨G0, rfl, u4⟩ := u2
  obtain ⟨G1, G2, rfl, -⟩ := u4.form
  refine zb hO 1 [] [(86, .pointer (some (a7245.add 2)))] [0, 9, 11, 12, 14, 15, 82] zkj fun j => ?_
  refine zs rfl (u3.one 2 rfl) ?_
  refine zc hO [] [(89, .bool (decide (S < (u0.At.length : Int))))] [0, 9, 11, 12, 14, 15] zki fun j => ?_
  refine zp hF rfl (fun hF => ?_) fun hF => ?_
  ·refine zo (zx (zy (zb hO 2 [] [(92, zkz b8 Y b9), (93, zks g)] [0, 9, 11, 12, 14, 15] zkj fun j => ?_)))
   obtain ⟨U, u5, hF⟩ := zky hF
   obtain ⟨G3, G4, G5, G6, G7, k0, k1, u6, u7, G8, hO⟩ := j9.open_ hO (i := 0) rfl u5
   obtain ⟨G9, rfl, i0⟩ := u6
   obtain ⟨n6, n7, rfl, -⟩ := i0.form
   have hO := zkx4 hO
   refine zbe (T := zG.T) hO k0 (i := 0) rfl rfl rfl k1 (by decide) fun a7269 _ u9 H0 v1 => ?_
   obtain ⟨rfl, -⟩ : _ = ([.int .i64 U.From, .int .i64 U.To, .slice n6 U.At.length n7] : List Value) ∧ _ := u9
   refine zb hO 1 [] [(95, .pointer (some (a7269.add 2)))] [0, 9, 11, 12, 14, 15] zki fun j => ?_
   refine zs rfl ((zj.atN hO k0 (i := 0) rfl v1 k1 (fun _ h => And.left h) (cs := [.int .i64 U.From, .int .i64 U.To, .slice n6 U.At.length n7])).one 2 rfl) ?_
   refine zb hO 1 [] [(97, zks S)] [0, 9, 11, 12, 14, 15, 96] zkj fun j => ?_
   obtain ⟨D, n8, hF⟩ := zky hF
   refine zbe (T := zw) hO i0 (i := 2) rfl rfl rfl n8 (by decide) fun a7276 _ v2 v3 H1 => ?_
   have v4 := v2
   obtain rfl : _ = ([.int .u8 D.Kind.toNat, .int .i64 D.N] : List Value) := v4
   refine zb hO 1 [] [(99, .pointer (some (a7276.add 1)))] [0, 9, 11, 12, 14, 15, 96, 97] zkk fun j => ?_
   refine zs rfl (v3.one 1 rfl) ?_
   refine zb hO 1 [] [(101, zks (IntKind.i64.wrap (D.N + 1)))] [0, 9, 11, 12, 14, 15, 96, 97] zkk fun j => ?_
   obtain ⟨v5, k2, hF⟩ := zky hF
   obtain rfl : D = v5 := Option.some.inj (n8.symm.trans k2)
   refine zbe (T := zw) hO i0 (i := 2) rfl rfl rfl k2 (by decide) fun a7283 _ n9 v6 v7 => ?_
   have v8 := n9
   obtain rfl : _ = ([.int .u8 D.Kind.toNat, .int .i64 D.N] : List Value) := v8
   refine zZ hO 1 [] [(0, zkz A0 p0 c0), (9, zkz J b R), (11, zkz b8 Y b9), (12, zkz d5 b4 d6), (14, zks g), (15, zks S), (101, zks (IntKind.i64.wrap (D.N + 1))), (103, .pointer (some (a7283.add 1)))] zkj fun j => ?_
   refine zdW (T := zw) (z' := (⟨D.Kind, (IntKind.i64.wrap (D.N + 1))⟩ : zd)) (off := 1) (vs := [.int .i64 (IntKind.i64.wrap (D.N + 1))]) hO i0 (i := 2) rfl rfl v7 k2 n9 v6 rfl rfl rfl rfl (by decide) (show _ = _ from rfl) fun σ H2 v9 hO => ?_
   have hO := zkx4 hO
   refine ze ?_
   obtain ⟨w2, o0, hO⟩ := u7.close0 (y' := (⟨U.From, U.To, (U.At.set (Int.toNat S) (⟨D.Kind, (IntKind.i64.wrap (D.N + 1))⟩ : zd))⟩ : za)) k1 k0 (zbR v9) hO (i := 0) (j := 2) (k := 3) rfl rfl rfl (by decide) (by decide) (by decide)
   have hO := zkx4 hO
   refine zf (zM (zg (zy (zc hO [] [(15, zks (IntKind.i64.wrap (S + 1)))] [0, 9, 11, 12, 14] zkh fun j => ?_))))
   refine zf (zg ?_)
   have hO := hO.sel [0, 1]
   exact ⟨h9, Nat.lt_succ_self _, Y.length, b8, b9, w2, (Y.set (Int.toNat g) (⟨U.From, U.To, (U.At.set (Int.toNat S) (⟨D.Kind, (IntKind.i64.wrap (D.N + 1))⟩ : zd))⟩ : za)), d5, d6, g3, b4, (IntKind.i64.wrap (S + 1)), _, zkr zkg, hO, hL, n4, o0.len, o0, n5, hF⟩
  refine z0 (z3 (z1 (zg (zf (zM (zg ?_))))))
  refine zy (zc hO [] [(14, zks (IntKind.i64.wrap (g + 1)))] [0, 9, 11, 12] zkg fun j => ?_)
  refine zf (zg ?_)
  exact ⟨c3, Nat.lt_succ_self _, b8, b9, h5, Y, d5, d6, g3, b4, (IntKind.i64.wrap (g + 1)), _, zkr zkf, hO, hL, n4, j9, n5, hF⟩
 refine z0 (z3 (z1 (zg (zh (zc hO [] [(16, zks 0)] [0, 9, 12] zkf fun j => ?_)))))
 refine zx ?_
 have hO := hO.sel [1]
 refine z2 (fun (n : Nat) e' σ' => ∃ (g4 : Option Addr) (g5 : Nat) (k3 : Ob) (b1 : List za) (q : Int) (τ' : Hp), agr [(0, zkz A0 p0 c0), (9, zkz J b R), (12, zkz g4 b1 g5), (16, zks q)] e' ∧ Obs τ' σ' [k3] ∧ Hp.le τ τ' ∧ RdT zk τ' (zkz J b R) b ∧ zv zG τ' (zkz g4 b1 g5) b1 k3 ∧ zb2 p0 b n b1 q = some rr) big ⟨g0, g1, g2, b7, 0, _, zkr zke, hO, hL, m7, m9, hF⟩ ?_
 clear hF hO hL
 rintro c4 e σ ⟨g4, g5, k3, b1, q, _, hA, hO, hL, i1, o3, hF⟩
 rw [← zD _ _ hA]
 cases c4 with
 | zero => exact nomatch (show none = some rr from hF)
 | succ c4 =>
 replace hF : zd1 (zb2 p0 b c4) p0 b b1 q = some rr := hF
 unfold zd1 at hF
 refine zh (zc hO [] [(107, .bool (decide (q < (b1.length : Int))))] [0, 9, 12, 16] zkg fun j => ?_)
 refine zp hF rfl (fun hF => ?_) fun hF => ?_
 ·refine zo (zx (zb hO 2 [] [(110, zkz g4 b1 g5), (111, zks q)] [0, 9, 12, 16] zkh fun j => ?_))
  obtain ⟨d7, w3, hF⟩ := zky hF
  refine zF (T := zk) (o3.rd hO (i := 0) rfl) (Hp.le.refl _) rfl rfl w3 (by decide) fun a7729 _ w4 w5 => ?_
  obtain ⟨H3, rfl, w6⟩ := w4
  obtain ⟨H4, H5, rfl, -⟩ := w6.form
  refine zb hO 1 [] [(113, .pointer (some a7729))] [0, 9, 12, 16, 110, 111] zki fun j => ?_
  refine zs rfl w5.fst ?_
  refine zb hO 1 [] [(115, zks (IntKind.i64.wrap (d7.From + 1)))] [0, 9, 12, 16, 110, 111] zki fun j => ?_
  obtain ⟨E, w7, hF⟩ := zky hF
  obtain ⟨H6, H7, H8, H9, I0, o4, o5, w8, w9, I1, hO⟩ := o3.open_ hO (i := 0) rfl w7
  obtain ⟨I2, rfl, o6⟩ := w8
  obtain ⟨i2, i3, rfl, -⟩ := o6.form
  have hO := zkx3 hO
  refine zbe (T := zG.T) hO o4 (i := 0) rfl rfl rfl o5 (by decide) fun a7752 _ x0 I3 x1 => ?_
  obtain ⟨rfl, -⟩ : _ = ([.int .i64 E.From, .int .i64 E.To, .slice i2 E.At.length i3] : List Value) ∧ _ := x0
  refine zb hO 1 [] [(117, .pointer (some a7752))] [0, 9, 12, 16, 115] zkh fun j => ?_
  refine zee (T := zG.T) (z' := (⟨(IntKind.i64.wrap (d7.From + 1)), E.To, (.slice i2 E.At.length i3)⟩ : zbw)) (off := 0) (vs := [.int .i64 (IntKind.i64.wrap (d7.From + 1))]) (cs := [.int .i64 E.From, .int .i64 E.To, .slice i2 E.At.length i3]) hO o4 (i := 0) rfl (by rw [add_zero]; rfl) x1 o5 (fun _ h => And.left h) rfl rfl rfl rfl (by decide) ⟨rfl, rfl⟩ fun σ _ x2 hO => ?_
  have hO := zkx3 hO
  obtain ⟨x3, o7, hO⟩ := w9.close (y' := (⟨(IntKind.i64.wrap (d7.From + 1)), E.To, E.At⟩ : za)) (b' := (⟨(IntKind.i64.wrap (d7.From + 1)), E.To, (.slice i2 E.At.length i3)⟩ : zbw)) x2 (zbR o6) hO (i := 0) (j := 1) (k := 2) rfl rfl rfl (by decide) (by decide) (by decide)
  have hO := zkx3 hO
  refine ze (zc hO [] [(17, zks 0)] [0, 9, 12, 16] zkg fun j => ?_)
  refine zcp (zx ?_)
  have hO := hO.sel [0]
  refine z2 (fun (n : Nat) e' σ' => ∃ (i4 : Nat) (c1 : Option Addr) (c2 : Nat) (i5 : Ob) (Z : List za) (V : Int) (τ' : Hp), agr [(0, zkz A0 p0 c0), (9, zkz J b R), (12, .slice c1 i4 c2), (16, zks q), (17, zks V)] e' ∧ Obs τ' σ' [i5] ∧ Hp.le τ τ' ∧ RdT zk τ' (zkz J b R) b ∧ i4 = Z.length ∧ zv zG τ' (.slice c1 i4 c2) Z i5 ∧ zdh (zb2 p0 b c4) q n Z V = some rr) big ⟨b1.length, g4, g5, x3, (b1.set (Int.toNat q) (⟨(IntKind.i64.wrap (d7.From + 1)), E.To, E.At⟩ : za)), 0, _, zkr zkf, hO, hL, i1, o7.len, o7, hF⟩ ?_
  clear hF hO hL
  rintro i6 e σ ⟨i4, c1, c2, i5, Z, V, _, hA, hO, hL, o8, q9, k4, hF⟩
  rw [← zD _ _ hA]
  cases i6 with
  | zero => exact nomatch (show none = some rr from hF)
  | succ i6 =>
  replace hF : zdj (zdh (zb2 p0 b c4) q i6) (zb2 p0 b c4) q Z V = some rr := hF
  unfold zdj at hF
  subst q9
  refine zh (zb hO 3 [] [(118, zks V), (119, zkz c1 Z c2), (120, zks q)] [0, 9, 12, 16, 17] zkj fun j => ?_)
  obtain ⟨x4, x5, hF⟩ := zky hF
  refine zF (T := zk) (k4.rd hO (i := 0) rfl) (Hp.le.refl _) rfl rfl x5 (by decide) fun a7878 _ x6 x7 => ?_
  obtain ⟨I4, rfl, x8⟩ := x6
  obtain ⟨I5, I6, rfl, -⟩ := x8.form
  refine zb hO 1 [] [(122, .pointer (some (a7878.add 2)))] [0, 9, 12, 16, 17, 118] zki fun j => ?_
  refine zs rfl (x7.one 2 rfl) ?_
  refine zc hO [] [(125, .bool (decide (V < (x4.At.length : Int))))] [0, 9, 12, 16, 17] zkh fun j => ?_
  refine zp hF rfl (fun hF => ?_) fun hF => ?_
  ·refine zo (zx (zy (zb hO 2 [] [(128, zkz c1 Z c2), (129, zks q)] [0, 9, 12, 16, 17] zki fun j => ?_)))
   obtain ⟨W, x9, hF⟩ := zky hF
   obtain ⟨I7, I8, I9, J0, J1, k5, k6, y0, y1, J2, hO⟩ := k4.open_ hO (i := 0) rfl x9
   obtain ⟨J3, rfl, i7⟩ := y0
   obtain ⟨o9, p4, rfl, -⟩ := i7.form
   have hO := zkx3 hO
   refine zbe (T := zG.T) hO k5 (i := 0) rfl rfl rfl k6 (by decide) fun a7902 _ y2 J4 y3 => ?_
   obtain ⟨rfl, -⟩ : _ = ([.int .i64 W.From, .int .i64 W.To, .slice o9 W.At.length p4] : List Value) ∧ _ := y2
   refine zb hO 1 [] [(131, .pointer (some (a7902.add 2)))] [0, 9, 12, 16, 17] zkh fun j => ?_
   refine zs rfl ((zj.atN hO k5 (i := 0) rfl y3 k6 (fun _ h => And.left h) (cs := [.int .i64 W.From, .int .i64 W.To, .slice o9 W.At.length p4])).one 2 rfl) ?_
   refine zb hO 1 [] [(133, zks V)] [0, 9, 12, 16, 17, 132] zki fun j => ?_
   obtain ⟨G, p5, hF⟩ := zky hF
   refine zbe (T := zw) hO i7 (i := 1) rfl rfl rfl p5 (by decide) fun a7909 _ y4 y5 J5 => ?_
   have y6 := y4
   obtain rfl : _ = ([.int .u8 G.Kind.toNat, .int .i64 G.N] : List Value) := y6
   refine zb hO 1 [] [(135, .pointer (some (a7909.add 1)))] [0, 9, 12, 16, 17, 132, 133] zkj fun j => ?_
   refine zs rfl (y5.one 1 rfl) ?_
   refine zb hO 1 [] [(137, zks (IntKind.i64.wrap (G.N + 1)))] [0, 9, 12, 16, 17, 132, 133] zkj fun j => ?_
   obtain ⟨y7, k7, hF⟩ := zky hF
   obtain rfl : G = y7 := Option.some.inj (p5.symm.trans k7)
   refine zbe (T := zw) hO i7 (i := 1) rfl rfl rfl k7 (by decide) fun a7916 _ p6 y8 y9 => ?_
   have A1 := p6
   obtain rfl : _ = ([.int .u8 G.Kind.toNat, .int .i64 G.N] : List Value) := A1
   refine zZ hO 1 [] [(0, zkz A0 p0 c0), (9, zkz J b R), (12, zkz c1 Z c2), (16, zks q), (17, zks V), (137, zks (IntKind.i64.wrap (G.N + 1))), (139, .pointer (some (a7916.add 1)))] zki fun j => ?_
   refine zdW (T := zw) (z' := (⟨G.Kind, (IntKind.i64.wrap (G.N + 1))⟩ : zd)) (off := 1) (vs := [.int .i64 (IntKind.i64.wrap (G.N + 1))]) hO i7 (i := 1) rfl rfl y9 k7 p6 y8 rfl rfl rfl rfl (by decide) (show _ = _ from rfl) fun σ J6 A2 hO => ?_
   have hO := zkx3 hO
   refine ze ?_
   obtain ⟨A3, p7, hO⟩ := y1.close0 (y' := (⟨W.From, W.To, (W.At.set (Int.toNat V) (⟨G.Kind, (IntKind.i64.wrap (G.N + 1))⟩ : zd))⟩ : za)) k6 k5 (zbR A2) hO (i := 0) (j := 1) (k := 2) rfl rfl rfl (by decide) (by decide) (by decide)
   have hO := zkx3 hO
   refine zf (zM (zg (zy (zc hO [] [(17, zks (IntKind.i64.wrap (V + 1)))] [0, 9, 12, 16] zkg fun j => ?_))))
   refine zf (zg ?_)
   have hO := hO.sel [0]
   exact ⟨i6, Nat.lt_succ_self _, Z.length, c1, c2, A3, (Z.set (Int.toNat q) (⟨W.From, W.To, (W.At.set (Int.toNat V) (⟨G.Kind, (IntKind.i64.wrap (G.N + 1))⟩ : zd))⟩ : za)), (IntKind.i64.wrap (V + 1)), _, zkr zkf, hO, hL, o8, p7.len, p7, hF⟩
  refine z0 (z3 (z1 (zg (zf (zM (zg ?_))))))
  refine zy (zc hO [] [(16, zks (IntKind.i64.wrap (q + 1)))] [0, 9, 12] zkf fun j => ?_)
  refine zf (zg ?_)
  exact ⟨c4, Nat.lt_succ_self _, c1, c2, i5, Z, (IntKind.i64.wrap (q + 1)), _, zkr zke, hO, hL, o8, k4, hF⟩
 refine z0 (z3 (z1 (zg (zZ hO 2 [] [(140, zkz J b R), (141, zkz A0 p0 c0)] zkd fun j => ?_))))
 obtain ⟨A4, A5, hF⟩ := zky hF
 refine zu hO (zej i1 (r0.le hL) A5) rfl fun _ σ _ _ hO p8 A6 => ?_
 have hL := hL.trans p8
 have i1 := i1.le p8
 obtain ⟨rfl, rfl⟩ := A6
 have hO := zkx1 hO
 refine zZ hO 1 [] [(143, .bool A4)] zkc fun j => ?_
 have hO := hO.sel []
 have hO : Obs _ _ [] := hO
 obtain ⟨p9, A7, hF⟩ := zky hF
 refine zbr 2 (fun e' σ' => ∃ (τ' : Hp), agr [(145, .bool p9)] e' ∧ Obs τ' σ' [] ∧ Hp.le τ τ') ?_ ?_
 ·have hF := A7
  rcases zY hF with ⟨c9, hF⟩ | ⟨c9, hF⟩
  ·refine zP (zkw c9) ?_
   obtain ⟨J7, A8, hF⟩ := zky hF
   refine zu hO (zg2 A8) rfl fun _ σ _ _ hO A9 B0 => ?_
   have hL := hL.trans A9
   obtain ⟨rfl, rfl⟩ := B0
   have hO : Obs _ _ [] := hO
   refine zq (zku c9) ?_
   refine ze ?_
   cases hF
   refine zf ?_
   exact ⟨rfl, _, zkr (trivial), hO, hL⟩
  refine zQ (zkw c9) ?_
  refine zq (zku c9) ?_
  refine ze ?_
  cases hF
  refine zf ?_
  exact ⟨rfl, _, zkr (trivial), hO, hL⟩
 rintro e σ ⟨_, hA, hO, hL⟩
 rw [← zD _ _ hA]
 refine zi hO [] [(8, .bool p9)] zkc fun j => ?_
 refine zJ ?_
 cases hF
 exact hQ _ _ _ _ _ rfl hO hL ⟨rfl, rfl⟩
end Go.Proofs.Ytjcehfjmmbbblaa
