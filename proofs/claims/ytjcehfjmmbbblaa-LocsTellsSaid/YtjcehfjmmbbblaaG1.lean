import Derived.Test.YtjcehfjmmbbblaaG0
namespace Go.Proofs.Ytjcehfjmmbbblaa
open Go.Ab Go.RowKit
set_option linter.unusedVariables false
set_option linter.unusedSimpArgs false
set_option maxRecDepth 10000
set_option maxHeartbeats 1000000
theorem zjg {τ : Hp} {v0 : Value} {p0 : (List za)} (r0 : RdT zk τ v0 p0) {rr : (List za)} (hF : zc4 p0 = some rr) :
  Ctr Try.prog 24 #[v0] τ [] (fun v τ' vs' => ∃ (v0 : Value) (o0 : Ob), v = v0 ∧ vs' = [o0] ∧ zj zk 46 τ' v0 rr o0) := by
 obtain ⟨A0, c0, rfl, -⟩ := r0.form
 refine zN (args := [.slice A0 p0.length c0]) hm Try.func24 s24 rfl fun w0 σ hO Q hQ => ?_
 unfold zc4 at hF
 have hL := Hp.le.refl τ
 show wpn _ _ a24.body _ _ _
 unfold a24
 dsimp only
 refine zc hO [] [] [0] zkc fun j => ?_
 refine zc hO [] [(3, .slice none 0 0)] [0] zkd fun j => ?_
 refine zh (zc hO [] [(7, zkz A0 p0 c0), (8, zks (p0.length : Int)), (9, zks 0)] [3] zkf fun j => ?_)
 refine zx ?_
 have hO := hO.no
 have hO := zkx1 hO
 refine z2 (fun (n : Nat) e' σ' => ∃ (J : Nat) (h : Option Addr) (q : Nat) (G : Ob) (b : List za) (z : Int) (τ' : Hp), agr [(3, .slice h J q), (7, zkz A0 p0 c0), (8, zks (p0.length : Int)), (9, zks z)] e' ∧ Obs τ' σ' [G] ∧ Hp.le τ τ' ∧ J = b.length ∧ zj zk 46 τ' (.slice h J q) b G ∧ zb3 p0 n b z = some rr) big ⟨0, none, 0, [], [], 0, _, zkr zke, hO, hL, rfl, zj.nil _ _ _, hF⟩ ?_
 clear hF hO hL
 rintro I e σ ⟨J, h, q, G, b, z, _, hA, hO, hL, c2, g, hF⟩
 rw [← zD _ _ hA]
 cases I with
 | zero => exact nomatch (show none = some rr from hF)
 | succ I =>
 replace hF : zcX (zb3 p0 I) p0 b z = some rr := hF
 unfold zcX at hF
 subst c2
 refine zc hO [] [(10, .bool (decide (z < (p0.length : Int))))] [3, 7, 8, 9] zkg fun j => ?_
 refine zp hF rfl (fun hF => ?_) fun hF => ?_
 ·refine zo (zx ?_)
  obtain ⟨c, c4, hF⟩ := zky hF
  refine zF (T := zk) (r0.le hL) hO.base rfl rfl c4 (by decide) fun a192 _ c5 c6 => ?_
  obtain ⟨g5, rfl, B⟩ := c5
  obtain ⟨R, S, rfl, -⟩ := B.form
  refine zs rfl ((c6.le hO.base).all rfl) ?_
  refine z6 hO fun X σ hO => ?_
  have hO := zkx2 hO
  refine zU hO (i := 1) rfl (off := 0) rfl rfl rfl rfl (Nat.le_of_ble_eq_true rfl) rfl fun σ hO => ?_
  have hO := zkx2 hO
  refine ze (zh (zc hO [] [(6, zks (IntKind.i64.wrap ((b.length : Int) - 1)))] [3, 5, 7, 8, 9] zkh fun j => ?_))
  refine zh (zbn (zb hO 3 [] [(18, .bool (decide ((IntKind.i64.wrap ((b.length : Int) - 1)) ≥ 0)))] [3, 5, 6, 7, 8, 9] zki fun j => ?_))
  obtain ⟨b3, c7, hF⟩ := zky hF
  refine zb4 2 [(27, .bool b3), (3, zkz h b q), (5, zkt X), (6, zks (IntKind.i64.wrap ((b.length : Int) - 1))), (7, zkz A0 p0 c0), (8, zks (p0.length : Int)), (9, zks z)] (fun Q hQ => ?_) fun j => ?_
  ·have hF := c7
   rcases zY hF with ⟨D, hF⟩ | ⟨D, hF⟩
   ·refine zP (zkw D) ?_
    refine zb hO 2 [] [(19, zkz h b q), (20, zks (IntKind.i64.wrap ((b.length : Int) - 1)))] [3, 5, 6, 7, 8, 9, 18] zkk fun j => ?_
    obtain ⟨c8, c9, hF⟩ := zky hF
    refine zbe (T := zk) hO g (i := 0) rfl rfl rfl c9 (by decide) fun a205 _ d0 d5 g6 => ?_
    have d6 := d0
    obtain ⟨g7, rfl, d7⟩ := d6
    obtain ⟨g8, g9, rfl, -⟩ := d7.form
    refine zb hO 1 [] [(22, .pointer (some (a205.add 1)))] [3, 5, 6, 7, 8, 9, 18] zkj fun j => ?_
    refine zs rfl (d5.one 1 rfl) ?_
    refine zb hO 3 [1] [(26, .bool (c8.To == c.From))] [3, 5, 6, 7, 8, 9, 18] (And.intro (And.intro rfl rfl) zkj) fun j => ?_
    refine zq (zku D) ?_
    refine ze ?_
    cases hF
    refine zf ?_
    exact hQ _ zki
   refine zQ (zkw D) ?_
   refine zq (zku D) ?_
   refine ze ?_
   cases hF
   refine zf ?_
   exact hQ _ zki
  refine zb hO 1 [] [(28, .bool b3)] [3, 5, 6, 7, 8, 9] zki fun j => ?_
  obtain ⟨d8, d9, hF⟩ := zky hF
  refine zbr 2 (fun e' σ' => ∃ (τ' : Hp), agr [(37, .bool d8), (3, zkz h b q), (5, zkt X), (6, zks (IntKind.i64.wrap ((b.length : Int) - 1))), (7, zkz A0 p0 c0), (8, zks (p0.length : Int)), (9, zks z)] e' ∧ Obs τ' σ' [G, zbT X c.From c.To (zkz R c.At S)] ∧ Hp.le τ τ' ∧ zj zk 46 τ' (zkz h b q) b G ∧ RdT zw τ' (zkz R c.At S) c.At) ?_ ?_
  ·have hF := d9
   rcases zY hF with ⟨E, hF⟩ | ⟨E, hF⟩
   ·refine zP (zkw E) ?_
    refine zb hO 2 [] [(29, zkz h b q), (30, zks (IntKind.i64.wrap ((b.length : Int) - 1)))] [3, 5, 6, 7, 8, 9, 28] zkk fun j => ?_
    obtain ⟨h0, f0, hF⟩ := zky hF
    refine zbe (T := zk) hO g (i := 0) rfl rfl rfl f0 (by decide) fun a219 _ f1 f2 h1 => ?_
    have f3 := f1
    obtain ⟨h2, rfl, U⟩ := f3
    obtain ⟨h3, h4, rfl, -⟩ := U.form
    refine zb hO 1 [] [(32, .pointer (some (a219.add 2)))] [3, 5, 6, 7, 8, 9, 28] zkj fun j => ?_
    refine zs rfl (f2.one 2 rfl) ?_
    refine zb hO 2 [1] [(35, zkz R c.At S)] [3, 5, 6, 7, 8, 9, 28, 33] (And.intro (And.intro rfl rfl) zkk) fun j => ?_
    obtain ⟨h5, f4, hF⟩ := zky hF
    refine zu hO (zh4 U B f4) rfl fun _ σ _ _ hO V f5 => ?_
    have hL := hL.trans V
    have g := g.le V
    have U := U.le V
    have B := B.le V
    obtain ⟨rfl, rfl⟩ := f5
    have hO := zkx2 hO
    refine zq (zku E) ?_
    refine ze ?_
    cases hF
    refine zf ?_
    exact ⟨rfl, _, zkr zkh, hO, hL, g, B⟩
   refine zQ (zkw E) ?_
   refine zq (zku E) ?_
   refine ze ?_
   cases hF
   refine zf ?_
   exact ⟨rfl, _, zkr zkh, hO, hL, g, B⟩
  rintro e σ ⟨_, hA, hO, hL, g, B⟩
  rw [← zD _ _ hA]
  refine ze (zp hF rfl (fun hF => ?_) fun hF => ?_)
  ·refine zh (zb hO 4 [1] [(38, zkz h b q), (39, zks (IntKind.i64.wrap ((b.length : Int) - 1))), (41, zks c.To)] [3, 7, 8, 9] (And.intro (And.intro rfl rfl) zki) fun j => ?_)
   obtain ⟨W, b4, hF⟩ := zky hF
   refine zbe (T := zk) hO g (i := 0) rfl rfl rfl b4 (by decide) fun a235 _ b5 f6 f7 => ?_
   have f8 := b5
   obtain ⟨h6, rfl, b6⟩ := f8
   obtain ⟨h7, h8, rfl, -⟩ := b6.form
   refine zb hO 1 [] [(43, .pointer (some (a235.add 1)))] [3, 7, 8, 9, 41] zkh fun j => ?_
   refine zdW (T := zk) (z' := (⟨W.From, c.To, W.At⟩ : za)) (off := 1) (vs := [.int .i64 c.To]) hO g (i := 0) rfl rfl f7 b4 b5 f6 rfl rfl rfl rfl (by decide) ⟨_, rfl, b6⟩ fun σ f9 b7 hO => ?_
   have hO := zkx2 hO
   refine ze (z0 (z1 (zg (zy (zc hO [] [(9, zks (IntKind.i64.wrap (z + 1)))] [3, 7, 8] zkf fun j => ?_)))))
   refine zf (zg ?_)
   have hO := hO.sel [0]
   exact ⟨I, Nat.lt_succ_self _, b.length, h, q, f9, (b.set (Int.toNat (IntKind.i64.wrap ((b.length : Int) - 1))) (⟨W.From, c.To, W.At⟩ : za)), (IntKind.i64.wrap (z + 1)), _, zkr zke, hO, hL, b7.len, b7, hF⟩
  refine zo (zy (zb hO 2 [1] [(44, zkz h b q), (45, .agg #[(.int .i64 c.From), (.int .i64 c.To), (zkz R c.At S)])] [7, 8, 9] (And.intro (And.intro rfl rfl) zkg) fun j => ?_))
  obtain ⟨w, g0, hF⟩ := zky hF
  refine zu hO (zfR (p0 := (⟨c.From, c.To, c.At⟩ : za)) B g0) rfl fun _ σ _ _ hO Y g1 => ?_
  have hL := hL.trans Y
  have g := g.le Y
  have B := B.le Y
  obtain ⟨h9, rfl, rfl, b8⟩ := g1
  obtain ⟨i0, i1, rfl, -⟩ := b8.form
  have hO := zkx2 hO
  obtain ⟨_, c3, hF⟩ := zky hF
  refine zbz (T := zk) (y := (⟨w.From, w.To, w.At⟩ : za)) hO g (i := 0) rfl rfl (fun _ => rfl) rfl ⟨_, rfl, b8⟩ rfl c3 (by decide) fun u _ σ g2 Z hO => ?_
  obtain ⟨b9, c1, rfl, -⟩ := Z.form
  have hO := zkx2 hO
  refine zc hO [] [(3, zkz b9 (b ++ [(⟨w.From, w.To, w.At⟩ : za)]) c1)] [7, 8, 9] zkf fun j => ?_
  refine zf (zM (zg (zy (zc hO [] [(9, zks (IntKind.i64.wrap (z + 1)))] [3, 7, 8] zkf fun j => ?_))))
  refine zf (zg ?_)
  have hO := hO.sel [0]
  exact ⟨I, Nat.lt_succ_self _, (b ++ [(⟨w.From, w.To, w.At⟩ : za)]).length, b9, c1, g2, (b ++ [(⟨w.From, w.To, w.At⟩ : za)]), (IntKind.i64.wrap (z + 1)), _, zkr zke, hO, hL, Z.len, Z, hF⟩
 refine z0 (z3 (z1 (zg (zi hO [] [(2, zkz h b q)] zkc fun j => ?_))))
 refine zJ ?_
 cases hF
 exact hQ _ _ _ _ _ rfl hO hL ⟨_, _, rfl, rfl, g⟩
theorem zg2 {τ : Hp}   {rr : Bool} (hF : zdw  = some rr) :
  Ctr Try.prog 9 #[] τ [] (fun v τ' vs' => v = .bool rr ∧ vs' = []) := by
 refine zN (args := []) hm Try.func9 s9 rfl fun w0 σ hO Q hQ => ?_
 unfold zdw at hF
 have hL := Hp.le.refl τ
 show wpn _ _ a9.body _ _ _
 unfold a9
 dsimp only
 refine zi hO [] [] (trivial) fun j => ?_
 refine zZ hO 1 [] [(9, .agg #[(.int .u8 2), (.int .i64 2)])] zkc fun j => ?_
 refine zbJ (T := zw) (l := ([(⟨(2 : UInt8), 2⟩ : zd)] : List zd)) (cs := [.int .u8 2, .int .i64 2]) hO rfl ⟨[.int .u8 2, .int .i64 2], _, rfl, rfl, rfl⟩ rfl (by decide) fun _ σ o3 w4 hO => ?_
 obtain ⟨A1, c2, rfl, -⟩ := w4.form
 have hO := zkx1 hO
 refine zZ hO 2 [] [(11, .agg #[(.int .i64 3), (.int .i64 5), (zkz A1 ([(⟨(2 : UInt8), 2⟩ : zd)] : List zd) c2)]), (12, .agg #[(.int .u8 1), (.int .i64 7)])] zkd fun j => ?_
 refine zbJ (T := zw) (l := ([(⟨(1 : UInt8), 7⟩ : zd)] : List zd)) (cs := [.int .u8 1, .int .i64 7]) hO rfl ⟨[.int .u8 1, .int .i64 7], _, rfl, rfl, rfl⟩ rfl (by decide) fun _ σ o7 w8 hO => ?_
 obtain ⟨A5, c6, rfl, -⟩ := w8.form
 have hO := zkx2 hO
 refine zb hO 1 [] [(14, .agg #[(.int .i64 5), (.int .i64 9), (zkz A5 ([(⟨(1 : UInt8), 7⟩ : zd)] : List zd) c6)])] [11] zkd fun j => ?_
 obtain ⟨_, c3, r9, hO⟩ := w4.share hO (i := 0) rfl
 have hL := hL.trans c3
 have w8 := w8.le c3
 have hO := zkx2 hO
 obtain ⟨_, c4, g6, hO⟩ := w8.share hO (i := 1) rfl
 have hL := hL.trans c4
 have r9 := r9.le c4
 have hO := zkx2 hO
 refine zbJ (T := zk) (l := ([(⟨3, 5, ([(⟨(2 : UInt8), 2⟩ : zd)] : List zd)⟩ : za), (⟨5, 9, ([(⟨(1 : UInt8), 7⟩ : zd)] : List zd)⟩ : za)] : List za)) (cs := [.int .i64 3, .int .i64 5, zkz A1 ([(⟨(2 : UInt8), 2⟩ : zd)] : List zd) c2, .int .i64 5, .int .i64 9, zkz A5 ([(⟨(1 : UInt8), 7⟩ : zd)] : List zd) c6]) hO rfl ⟨[.int .i64 3, .int .i64 5, zkz A1 ([(⟨(2 : UInt8), 2⟩ : zd)] : List zd) c2], _, rfl, ⟨_, rfl, r9⟩, ⟨[.int .i64 5, .int .i64 9, zkz A5 ([(⟨(1 : UInt8), 7⟩ : zd)] : List zd) c6], _, rfl, ⟨_, rfl, g6⟩, rfl⟩⟩ rfl (by decide) fun _ σ k4 c5 hO => ?_
 obtain ⟨c, g, rfl, -⟩ := c5.form
 have hO := zkx3 hO
 refine zi hO [] [(1, .slice c ([(⟨3, 5, ([(⟨(2 : UInt8), 2⟩ : zd)] : List zd)⟩ : za), (⟨5, 9, ([(⟨(1 : UInt8), 7⟩ : zd)] : List zd)⟩ : za)] : List za).length g)] zkc fun j => ?_
 refine zb hO 1 [] [(17, .slice c ([(⟨3, 5, ([(⟨(2 : UInt8), 2⟩ : zd)] : List zd)⟩ : za), (⟨5, 9, ([(⟨(1 : UInt8), 7⟩ : zd)] : List zd)⟩ : za)] : List za).length g)] [1] zkd fun j => ?_
 obtain ⟨_, g7, b, hO⟩ := c5.share hO (i := 2) rfl
 have hL := hL.trans g7
 have hO := zkx3 hO
 obtain ⟨X, g8, hF⟩ := zky hF
 refine zu hO (zj7 (RdT.nil Ty.u8 _) b g8) rfl fun _ σ _ _ hO c7 g9 => ?_
 have hL := hL.trans c7
 have b := b.le c7
 obtain ⟨k5, k6, rfl, rfl, c8⟩ := g9
 obtain ⟨c9, d0, rfl, -⟩ := c8.form
 have hO := zkx4 hO
 refine zc hO [] [(2, zkz c9 X.1 d0), (3, zks X.2)] [1] zke fun j => ?_
 refine zb hO 1 [] [(22, zkz c9 X.1 d0)] [1, 2, 3] zkf fun j => ?_
 obtain ⟨_, d5, I, hO⟩ := c8.share hO (i := 3) rfl
 have hL := hL.trans d5
 have b := b.le d5
 have hO := zkx4 hO
 obtain ⟨J, h0, hF⟩ := zky hF
 refine zu hO (zil I h0) rfl fun _ σ _ _ hO b3 h1 => ?_
 have hL := hL.trans b3
 have b := b.le b3
 have I := I.le b3
 obtain ⟨k7, rfl, rfl, B⟩ := h1
 obtain ⟨b4, b5, rfl, -⟩ := B.form
 have hO := zkx4 hO
 refine zc hO [] [(4, zkz b4 J.1 b5), (5, zks J.2.1), (6, zks J.2.2)] [1, 2, 3] zkh fun j => ?_
 refine zb hO 1 [] [(27, .slice c ([(⟨3, 5, ([(⟨(2 : UInt8), 2⟩ : zd)] : List zd)⟩ : za), (⟨5, 9, ([(⟨(1 : UInt8), 7⟩ : zd)] : List zd)⟩ : za)] : List za).length g)] [1, 2, 3, 4, 5, 6] zki fun j => ?_
 obtain ⟨R, h2, hF⟩ := zky hF
 refine zu hO (zhH b h2) rfl fun _ σ _ _ hO b2 h3 => ?_
 have hL := hL.trans b2
 have b := b.le b2
 have I := I.le b2
 have B := B.le b2
 obtain ⟨k8, d6, rfl, rfl, q⟩ := h3
 obtain ⟨Y, Z, rfl, -⟩ := q.form
 have hO := zkx5 hO
 refine zc hO [] [(7, zkz Y R Z)] [1, 2, 3, 4, 5, 6] zki fun j => ?_
 refine zb hO 1 [] [(29, .slice c ([(⟨3, 5, ([(⟨(2 : UInt8), 2⟩ : zd)] : List zd)⟩ : za), (⟨5, 9, ([(⟨(1 : UInt8), 7⟩ : zd)] : List zd)⟩ : za)] : List za).length g)] [1, 2, 3, 4, 5, 6, 7] zkj fun j => ?_
 obtain ⟨h, h4, hF⟩ := zky hF
 refine zu hO (zjE b h4) rfl fun _ σ _ _ hO b0 h5 => ?_
 have hL := hL.trans b0
 have b := b.le b0
 have I := I.le b0
 have B := B.le b0
 have q := q.le b0
 obtain ⟨k9, d7, rfl, rfl, D⟩ := h5
 obtain ⟨E, G, rfl, -⟩ := D.form
 have hO := zkx6 hO
 refine zc hO [] [(8, zkz E h G)] [1, 2, 3, 4, 5, 6, 7] zkj fun j => ?_
 refine zZ hO 12 [] [(1, .slice c ([(⟨3, 5, ([(⟨(2 : UInt8), 2⟩ : zd)] : List zd)⟩ : za), (⟨5, 9, ([(⟨(1 : UInt8), 7⟩ : zd)] : List zd)⟩ : za)] : List za).length g), (4, zkz b4 J.1 b5), (7, zkz Y R Z), (8, zkz E h G), (46, .bool ((((X.2 == 0) && ((X.1.length : Int) == 11)) && (J.2.2 == 0)) && (J.2.1 == 11)))] (And.intro (And.intro rfl rfl) (fun _ => And.intro (And.intro rfl rfl) (fun _ => And.intro (And.intro rfl rfl) (fun _ => zkr zkf)))) fun j => ?_
 have hO := hO.sel [4, 5]
 have hO := zkx2 hO
 obtain ⟨d8, h6, hF⟩ := zky hF
 refine zbr 2 (fun e' σ' => ∃ (τ' : Hp), agr [(50, .bool d8), (1, .slice c ([(⟨3, 5, ([(⟨(2 : UInt8), 2⟩ : zd)] : List zd)⟩ : za), (⟨5, 9, ([(⟨(1 : UInt8), 7⟩ : zd)] : List zd)⟩ : za)] : List za).length g), (7, zkz Y R Z), (8, zkz E h G)] e' ∧ Obs τ' σ' [d6, d7] ∧ Hp.le τ τ' ∧ RdT zk τ' (.slice c ([(⟨3, 5, ([(⟨(2 : UInt8), 2⟩ : zd)] : List zd)⟩ : za), (⟨5, 9, ([(⟨(1 : UInt8), 7⟩ : zd)] : List zd)⟩ : za)] : List za).length g) ([(⟨3, 5, ([(⟨(2 : UInt8), 2⟩ : zd)] : List zd)⟩ : za), (⟨5, 9, ([(⟨(1 : UInt8), 7⟩ : zd)] : List zd)⟩ : za)] : List za) ∧ zj zw 44 τ' (zkz Y R Z) R d6 ∧ zj zk 46 τ' (zkz E h G) h d7) ?_ ?_
 ·have hF := h6
  rcases zY hF with ⟨S, hF⟩ | ⟨S, hF⟩
  ·refine zP (zkw S) ?_
   refine zb hO 2 [] [(47, .slice c ([(⟨3, 5, ([(⟨(2 : UInt8), 2⟩ : zd)] : List zd)⟩ : za), (⟨5, 9, ([(⟨(1 : UInt8), 7⟩ : zd)] : List zd)⟩ : za)] : List za).length g), (48, zkz b4 J.1 b5)] [1, 7, 8, 46] zkh fun j => ?_
   obtain ⟨l0, h7, hF⟩ := zky hF
   refine zu hO (zej b B h7) rfl fun _ σ _ _ hO b1 h8 => ?_
   have hL := hL.trans b1
   have b := b.le b1
   have q := q.le b1
   have D := D.le b1
   have B := B.le b1
   obtain ⟨rfl, rfl⟩ := h8
   have hO := zkx2 hO
   refine zq (zku S) ?_
   refine ze ?_
   cases hF
   refine zf ?_
   exact ⟨rfl, _, zkr zke, hO, hL, b, q, D⟩
  refine zQ (zkw S) ?_
  refine zq (zku S) ?_
  refine ze ?_
  cases hF
  refine zf ?_
  exact ⟨rfl, _, zkr zke, hO, hL, b, q, D⟩
 rintro e σ ⟨_, hA, hO, hL, b, q, D⟩
 rw [← zD _ _ hA]
 refine zb hO 4 [] [(56, .bool (d8 && ((R.length : Int) == 1)))] [1, 7, 8] (And.intro (And.intro rfl rfl) (fun _ => zkr zke)) fun j => ?_
 obtain ⟨d9, h9, hF⟩ := zky hF
 refine zb4 2 [(62, .bool d9), (1, .slice c ([(⟨3, 5, ([(⟨(2 : UInt8), 2⟩ : zd)] : List zd)⟩ : za), (⟨5, 9, ([(⟨(1 : UInt8), 7⟩ : zd)] : List zd)⟩ : za)] : List za).length g), (8, zkz E h G)] (fun Q hQ => ?_) fun j => ?_
 ·have hF := h9
  rcases zY hF with ⟨U, hF⟩ | ⟨U, hF⟩
  ·refine zP (zkw U) ?_
   refine zb hO 1 [] [(57, zkz Y R Z)] [1, 8, 56] zkf fun j => ?_
   obtain ⟨b6, i0, hF⟩ := zky hF
   refine zbe (T := zw) hO q (i := 0) rfl rfl rfl i0 (by decide) fun a68 _ i1 i2 l1 => ?_
   have i3 := i1
   obtain rfl : _ = ([.int .u8 b6.Kind.toNat, .int .i64 b6.N] : List Value) := i3
   refine zb hO 1 [] [(59, .pointer (some (a68.add 1)))] [1, 8, 56] zkf fun j => ?_
   refine zs rfl (i2.one 1 rfl) ?_
   refine zb hO 1 [] [(61, .bool (b6.N == 2))] [1, 8, 56] zkf fun j => ?_
   refine zq (zku U) ?_
   refine ze ?_
   cases hF
   refine zf ?_
   exact hQ _ zke
  refine zQ (zkw U) ?_
  refine zq (zku U) ?_
  refine ze ?_
  cases hF
  refine zf ?_
  exact hQ _ zke
 refine zb hO 4 [] [(68, .bool (d9 && ((h.length : Int) == 2)))] [1, 8] (And.intro (And.intro rfl rfl) (fun _ => zkr zkd)) fun j => ?_
 obtain ⟨f0, i4, hF⟩ := zky hF
 refine zb4 2 [(74, .bool f0), (1, .slice c ([(⟨3, 5, ([(⟨(2 : UInt8), 2⟩ : zd)] : List zd)⟩ : za), (⟨5, 9, ([(⟨(1 : UInt8), 7⟩ : zd)] : List zd)⟩ : za)] : List za).length g), (8, zkz E h G)] (fun Q hQ => ?_) fun j => ?_
 ·have hF := i4
  rcases zY hF with ⟨V, hF⟩ | ⟨V, hF⟩
  ·refine zP (zkw V) ?_
   refine zb hO 1 [] [(69, zkz E h G)] [1, 8, 68] zkf fun j => ?_
   obtain ⟨i5, i6, hF⟩ := zky hF
   refine zbe (T := zk) hO D (i := 1) rfl rfl rfl i6 (by decide) fun a78 _ i7 i8 l2 => ?_
   have i9 := i7
   obtain ⟨l3, rfl, j0⟩ := i9
   obtain ⟨l4, l5, rfl, -⟩ := j0.form
   refine zb hO 1 [] [(71, .pointer (some (a78.add 1)))] [1, 8, 68] zkf fun j => ?_
   refine zs rfl (i8.one 1 rfl) ?_
   refine zb hO 1 [] [(73, .bool (i5.To == 4))] [1, 8, 68] zkf fun j => ?_
   refine zq (zku V) ?_
   refine ze ?_
   cases hF
   refine zf ?_
   exact hQ _ zke
  refine zQ (zkw V) ?_
  refine zq (zku V) ?_
  refine ze ?_
  cases hF
  refine zf ?_
  exact hQ _ zke
 refine zb hO 1 [] [(75, .bool f0)] [1, 8] zke fun j => ?_
 obtain ⟨f1, j1, hF⟩ := zky hF
 refine zb4 2 [(81, .bool f1), (1, .slice c ([(⟨3, 5, ([(⟨(2 : UInt8), 2⟩ : zd)] : List zd)⟩ : za), (⟨5, 9, ([(⟨(1 : UInt8), 7⟩ : zd)] : List zd)⟩ : za)] : List za).length g)] (fun Q hQ => ?_) fun j => ?_
 ·have hF := j1
  rcases zY hF with ⟨W, hF⟩ | ⟨W, hF⟩
  ·refine zP (zkw W) ?_
   refine zb hO 1 [] [(76, zkz E h G)] [1, 75] zke fun j => ?_
   obtain ⟨j2, j3, hF⟩ := zky hF
   refine zbe (T := zk) hO D (i := 1) rfl rfl rfl j3 (by decide) fun a92 _ j4 j5 l6 => ?_
   have j6 := j4
   obtain ⟨l7, rfl, j7⟩ := j6
   obtain ⟨l8, j8, rfl, -⟩ := j7.form
   refine zb hO 1 [] [(78, .pointer (some a92))] [1, 75] zke fun j => ?_
   refine zs rfl j5.fst ?_
   refine zb hO 1 [] [(80, .bool (j2.From == 6))] [1, 75] zke fun j => ?_
   refine zq (zku W) ?_
   refine ze ?_
   cases hF
   refine zf ?_
   exact hQ _ zkd
  refine zQ (zkw W) ?_
  refine zq (zku W) ?_
  refine ze ?_
  cases hF
  refine zf ?_
  exact hQ _ zkd
 refine zb hO 1 [] [(82, .bool f1)] [1] zkd fun j => ?_
 have hO := hO.sel []
 have hO : Obs _ _ [] := hO
 obtain ⟨b7, f7, hF⟩ := zky hF
 refine zbr 2 (fun e' σ' => ∃ (τ' : Hp), agr [(84, .bool b7), (1, .slice c ([(⟨3, 5, ([(⟨(2 : UInt8), 2⟩ : zd)] : List zd)⟩ : za), (⟨5, 9, ([(⟨(1 : UInt8), 7⟩ : zd)] : List zd)⟩ : za)] : List za).length g)] e' ∧ Obs τ' σ' [] ∧ Hp.le τ τ' ∧ RdT zk τ' (.slice c ([(⟨3, 5, ([(⟨(2 : UInt8), 2⟩ : zd)] : List zd)⟩ : za), (⟨5, 9, ([(⟨(1 : UInt8), 7⟩ : zd)] : List zd)⟩ : za)] : List za).length g) ([(⟨3, 5, ([(⟨(2 : UInt8), 2⟩ : zd)] : List zd)⟩ : za), (⟨5, 9, ([(⟨(1 : UInt8), 7⟩ : zd)] : List zd)⟩ : za)] : List za)) ?_ ?_
 ·have hF := f7
  rcases zY hF with ⟨w, hF⟩ | ⟨w, hF⟩
  ·refine zP (zkw w) ?_
   obtain ⟨j9, f8, hF⟩ := zky hF
   refine zu hO (zgs (RdT.nil zk _) f8) rfl fun _ σ _ _ hO b8 f9 => ?_
   have hL := hL.trans b8
   have b := b.le b8
   obtain ⟨rfl, rfl⟩ := f9
   have hO : Obs _ _ [] := hO
   refine zq (zku w) ?_
   refine ze ?_
   cases hF
   refine zf ?_
   exact ⟨rfl, _, zkr zkc, hO, hL, b⟩
  refine zQ (zkw w) ?_
  refine zq (zku w) ?_
  refine ze ?_
  cases hF
  refine zf ?_
  exact ⟨rfl, _, zkr zkc, hO, hL, b⟩
 rintro e σ ⟨_, hA, hO, hL, b⟩
 rw [← zD _ _ hA]
 refine zb hO 1 [] [(85, .bool b7)] [1] zkd fun j => ?_
 obtain ⟨b9, g0, hF⟩ := zky hF
 refine zbr 2 (fun e' σ' => ∃ (τ' : Hp), agr [(90, .bool b9)] e' ∧ Obs τ' σ' [] ∧ Hp.le τ τ') ?_ ?_
 ·have hF := g0
  rcases zY hF with ⟨z, hF⟩ | ⟨z, hF⟩
  ·refine zP (zkw z) ?_
   refine zb hO 1 [] [(86, .slice c ([(⟨3, 5, ([(⟨(2 : UInt8), 2⟩ : zd)] : List zd)⟩ : za), (⟨5, 9, ([(⟨(1 : UInt8), 7⟩ : zd)] : List zd)⟩ : za)] : List za).length g)] [85] zkd fun j => ?_
   obtain ⟨g1, g2, hF⟩ := zky hF
   refine zu hO (zjg b g2) rfl fun _ σ _ _ hO c0 g3 => ?_
   have hL := hL.trans c0
   have b := b.le c0
   obtain ⟨k0, k1, rfl, rfl, g4⟩ := g3
   obtain ⟨k2, k3, rfl, -⟩ := g4.form
   have hO := zkx1 hO
   refine zb hO 2 [] [(89, .bool ((g1.length : Int) == 2))] [85] zkd fun j => ?_
   refine zq (zku z) ?_
   refine ze ?_
   cases hF
   refine zf ?_
   have hO := hO.sel []
   exact ⟨rfl, _, zkr (trivial), hO, hL⟩
  refine zQ (zkw z) ?_
  refine zq (zku z) ?_
  refine ze ?_
  cases hF
  refine zf ?_
  exact ⟨rfl, _, zkr (trivial), hO, hL⟩
 rintro e σ ⟨_, hA, hO, hL⟩
 rw [← zD _ _ hA]
 refine zi hO [] [(0, .bool b9)] zkc fun j => ?_
 refine zJ ?_
 cases hF
 exact hQ _ _ _ _ _ rfl hO hL ⟨rfl, rfl⟩
theorem ze4 {τ : Hp} {b : Value} {p0 : (List zd)} (g : RdT zw τ b p0) {rr : (List zd)} (hF : zcr p0 = some rr) :
  Ctr Try.prog 30 #[b] τ [] (fun v τ' vs' => ∃ (b : Value) (h : Ob), v = b ∧ vs' = [h] ∧ zj zw 44 τ' b rr h) := by
 obtain ⟨q, w, rfl, -⟩ := g.form
 refine zN (args := [.slice q p0.length w]) hm Try.func30 s30 rfl fun w0 σ hO Q hQ => ?_
 unfold zcr at hF
 have hL := Hp.le.refl τ
 show wpn _ _ a30.body _ _ _
 unfold a30
 dsimp only
 refine zc hO [] [] [0] zkc fun j => ?_
 refine zbJ (T := zw) (l := ([] : List zd)) (cs := []) hO rfl rfl rfl (by decide) fun _ σ G z hO => ?_
 obtain ⟨I, J, rfl, -⟩ := z.form
 have hO := zkx1 hO
 refine zb hO 1 [] [(4, zkz q p0 w)] [3] zkd fun j => ?_
 obtain ⟨_, c, hF⟩ := zky hF
 refine zc3 (T := zw) hO z (i := 0) rfl rfl rfl (g.le hL) c (by decide) fun _ σ R B hO => ?_
 obtain ⟨D, E, rfl, -⟩ := B.form
 have hO := zkx1 hO
 refine zi hO [] [(2, zkz D (([] : List zd) ++ p0) E)] zkc fun j => ?_
 refine zJ ?_
 cases hF
 exact hQ _ _ _ _ _ rfl hO hL ⟨_, _, rfl, rfl, B⟩
theorem zhW {τ : Hp} {X : Value} {p0 : (List za)} (r0 : RdT zk τ X p0) {rr : (List za)} (hF : zdH p0 = some rr) :
  Ctr Try.prog 11 #[X] τ [] (fun v τ' vs' => ∃ (X : Value) (o0 : Ob), v = X ∧ vs' = [o0] ∧ zj zk 46 τ' X rr o0) := by
 obtain ⟨V, W, rfl, -⟩ := r0.form
 refine zN (args := [.slice V p0.length W]) hm Try.func11 s11 rfl fun w0 σ hO Q hQ => ?_
 unfold zdH at hF
 have hL := Hp.le.refl τ
 show wpn _ _ a11.body _ _ _
 unfold a11
 dsimp only
 refine zc hO [] [] [0] zkc fun j => ?_
 refine zc hO [] [(3, .slice none 0 0)] [0] zkd fun j => ?_
 refine zh (zc hO [] [(4, zks 0)] [0, 3] zke fun j => ?_)
 refine zx ?_
 have hO := hO.no
 have hO := zkx1 hO
 refine z2 (fun (n : Nat) e' σ' => ∃ (E : Option Addr) (G : Nat) (Y : Ob) (g : List za) (b : Int) (τ' : Hp), agr [(0, zkz V p0 W), (3, zkz E g G), (4, zks b)] e' ∧ Obs τ' σ' [Y] ∧ Hp.le τ τ' ∧ zj zk 46 τ' (zkz E g G) g Y ∧ zdu p0 n g b = some rr) big ⟨none, 0, [], [], 0, _, zkr zkd, hO, hL, zj.nil _ _ _, hF⟩ ?_
 clear hF hO hL
 rintro S e σ ⟨E, G, Y, g, b, _, hA, hO, hL, h, hF⟩
 rw [← zD _ _ hA]
 cases S with
 | zero => exact nomatch (show none = some rr from hF)
 | succ S =>
 replace hF : zd0 (zdu p0 S) p0 g b = some rr := hF
 unfold zd0 at hF
 refine zh (zc hO [] [(8, .bool (decide (b < (p0.length : Int))))] [0, 3, 4] zkf fun j => ?_)
 refine zp hF rfl (fun hF => ?_) fun hF => ?_
 ·refine zo (zx (zcL (zb hO 3 [] [(11, zkz E g G), (12, zkz V p0 W), (13, zks b)] [0, 4] zkg fun j => ?_)))
  obtain ⟨U, b6, hF⟩ := zky hF
  refine zF (T := zk) (r0.le hL) hO.base rfl rfl b6 (by decide) fun a101 _ b7 q => ?_
  obtain ⟨d0, rfl, I⟩ := b7
  obtain ⟨d5, d6, rfl, -⟩ := I.form
  refine zb hO 1 [] [(15, .pointer (some a101))] [0, 4, 11] zkf fun j => ?_
  refine zs rfl (q.le hO.base).fst ?_
  refine zb hO 2 [] [(17, zkz V p0 W), (18, zks b)] [0, 4, 11, 15, 16] zki fun j => ?_
  obtain ⟨w, b8, hF⟩ := zky hF
  refine zF (T := zk) (r0.le hL) hO.base rfl rfl b8 (by decide) fun a110 _ b9 z => ?_
  obtain ⟨d7, rfl, J⟩ := b9
  obtain ⟨d8, d9, rfl, -⟩ := J.form
  refine zb hO 1 [] [(20, .pointer (some (a110.add 1)))] [0, 4, 11, 15, 16] zkh fun j => ?_
  refine zs rfl ((z.le hO.base).one 1 rfl) ?_
  refine zb hO 2 [] [(22, zkz V p0 W), (23, zks b)] [0, 4, 11, 15, 16, 20, 21] zkk fun j => ?_
  obtain ⟨f0, c1, hF⟩ := zky hF
  refine zF (T := zk) (r0.le hL) hO.base rfl rfl c1 (by decide) fun a119 _ c2 R => ?_
  obtain ⟨f1, rfl, B⟩ := c2
  obtain ⟨f2, f3, rfl, -⟩ := B.form
  refine zb hO 1 [] [(25, .pointer (some (a119.add 2)))] [0, 4, 11, 15, 16, 20, 21] zkj fun j => ?_
  refine zs rfl ((R.le hO.base).one 2 rfl) ?_
  refine z8 ?_
  obtain ⟨D, c3, hF⟩ := zky hF
  refine zu hO (ze4 B c3) rfl fun _ σ _ _ hO c c4 => ?_
  have hL := hL.trans c
  have h := h.le c
  have q := q.le c
  have I := I.le c
  have z := z.le c
  have J := J.le c
  have R := R.le c
  have B := B.le c
  obtain ⟨f4, f5, rfl, rfl, Z⟩ := c4
  obtain ⟨c5, c6, rfl, -⟩ := Z.form
  have hO := zkx2 hO
  refine ze (z7 ⟨(zT rfl ((z.le hO.base).one 1 rfl) rfl), (zT rfl (q.le hO.base).fst rfl), trivial⟩ ?_)
  refine zb hO 1 [] [(28, .agg #[(.int .i64 U.From), (.int .i64 w.To), (zkz c5 D c6)])] [0, 4, 11] zkf fun j => ?_
  obtain ⟨_, b0, c7, hO⟩ := Z.share hO (i := 1) rfl
  have hL := hL.trans b0
  have h := h.le b0
  have hO := zkx2 hO
  obtain ⟨_, b5, hF⟩ := zky hF
  refine zbz (T := zk) (y := (⟨U.From, w.To, D⟩ : za)) hO h (i := 0) rfl rfl (fun _ => rfl) rfl ⟨_, rfl, c7⟩ rfl b5 (by decide) fun u _ σ c8 b1 hO => ?_
  obtain ⟨b2, b3, rfl, -⟩ := b1.form
  have hO := zkx2 hO
  refine zi hO [] [(0, zkz V p0 W), (3, zkz b2 (g ++ [(⟨U.From, w.To, D⟩ : za)]) b3), (4, zks b)] zke fun j => ?_
  refine zf (zM (zg (zy (zc hO [] [(4, zks (IntKind.i64.wrap (b + 1)))] [0, 3] zke fun j => ?_))))
  refine zf (zg ?_)
  have hO := hO.sel [0]
  exact ⟨S, Nat.lt_succ_self _, b2, b3, c8, (g ++ [(⟨U.From, w.To, D⟩ : za)]), (IntKind.i64.wrap (b + 1)), _, zkr zkd, hO, hL, b1, hF⟩
 refine z0 (z3 (z1 (zg (zi hO [] [(2, zkz E g G)] zkc fun j => ?_))))
 refine zJ ?_
 cases hF
 exact hQ _ _ _ _ _ rfl hO hL ⟨_, _, rfl, rfl, h⟩
theorem zjf {τ : Hp} {E : Value} {p0 : (List za)} {c : Int} (I : RdT zk τ E p0) {rr : (List zd)} (hF : zek p0 c = some rr) :
  Ctr Try.prog 26 #[E, .int .i64 c] τ [] (fun v τ' vs' => ∃ (E : Value) (o0 : Ob), v = E ∧ vs' = [o0] ∧ zj zw 44 τ' E rr o0) := by
 obtain ⟨B, D, rfl, -⟩ := I.form
 refine zN (args := [.slice B p0.length D, .int .i64 c]) hm Try.func26 s26 rfl fun w0 σ hO Q hQ => ?_
 unfold zek at hF
 have hL := Hp.le.refl τ
 show wpn _ _ a26.body _ _ _
 unfold a26
 dsimp only
 refine zc hO [] [] [0, 1] zkd fun j => ?_
 refine zh (zc hO [] [(5, zks 0)] [0, 1] zke fun j => ?_)
 refine zx (z2 (fun (n : Nat) e' σ' => ∃ (b : Int) (τ' : Hp), agr [(0, zkz B p0 D), (1, zks c), (5, zks b)] e' ∧ Obs τ' σ' [] ∧ Hp.le τ τ' ∧ zdD p0 c n b = some rr) big ⟨0, _, zkr zkd, hO, hL, hF⟩ ?_)
 clear hF hO hL
 rintro z e σ ⟨b, _, hA, hO, hL, hF⟩
 rw [← zD _ _ hA]
 cases z with
 | zero => exact nomatch (show none = some rr from hF)
 | succ z =>
 replace hF : zdQ (zdD p0 c z) p0 c b = some rr := hF
 unfold zdQ at hF
 refine zh (zc hO [] [(9, .bool (decide (b < (p0.length : Int))))] [0, 1, 5] zkf fun j => ?_)
 refine zp hF rfl (fun hF => ?_) fun hF => ?_
 ·refine zo (zx (zb hO 2 [] [(12, zkz B p0 D), (13, zks b)] [0, 1, 5] zkg fun j => ?_))
  obtain ⟨b4, b5, hF⟩ := zky hF
  refine zF (T := zk) (I.le hL) hO.base rfl rfl b5 (by decide) fun a90 _ b6 b7 => ?_
  obtain ⟨d5, rfl, b8⟩ := b6
  obtain ⟨d6, d7, rfl, -⟩ := b8.form
  refine zb hO 1 [] [(15, .pointer (some a90))] [0, 1, 5] zkf fun j => ?_
  refine zs rfl (b7.le hO.base).fst ?_
  refine zb hO 3 [] [(19, .bool (decide (b4.From ≤ c)))] [0, 1, 5] zkf fun j => ?_
  obtain ⟨b9, c1, hF⟩ := zky hF
  refine zb4 2 [(27, .bool b9), (0, zkz B p0 D), (1, zks c), (5, zks b)] (fun Q hQ => ?_) fun j => ?_
  ·have hF := c1
   rcases zY hF with ⟨g, hF⟩ | ⟨g, hF⟩
   ·refine zP (zkw g) ?_
    refine zb hO 3 [] [(20, zks c), (21, zkz B p0 D), (22, zks b)] [0, 1, 5, 19] zki fun j => ?_
    obtain ⟨J, R, hF⟩ := zky hF
    refine zF (T := zk) (I.le hL) hO.base rfl rfl R (by decide) fun a102 _ S U => ?_
    obtain ⟨c2, rfl, V⟩ := S
    obtain ⟨c3, c4, rfl, -⟩ := V.form
    refine zb hO 1 [] [(24, .pointer (some (a102.add 1)))] [0, 1, 5, 19, 20] zkh fun j => ?_
    refine zs rfl ((U.le hO.base).one 1 rfl) ?_
    refine zb hO 1 [] [(26, .bool (decide (c < J.To)))] [0, 1, 5, 19] zkg fun j => ?_
    refine zq (zku g) ?_
    refine ze ?_
    cases hF
    refine zf ?_
    exact hQ _ zkf
   refine zQ (zkw g) ?_
   refine zq (zku g) ?_
   refine ze ?_
   cases hF
   refine zf ?_
   exact hQ _ zkf
  refine ze (zba (zp hF rfl (fun hF => ?_) fun hF => ?_))
  ·refine zh (zZ hO 2 [] [(28, zkz B p0 D), (29, zks b)] zkd fun j => ?_)
   obtain ⟨c5, W, hF⟩ := zky hF
   refine zF (T := zk) (I.le hL) hO.base rfl rfl W (by decide) fun a112 _ X q => ?_
   obtain ⟨c6, rfl, h⟩ := X
   obtain ⟨c7, c8, rfl, -⟩ := h.form
   refine zZ hO 1 [] [(31, .pointer (some (a112.add 2)))] zkc fun j => ?_
   refine zs rfl ((q.le hO.base).one 2 rfl) ?_
   obtain ⟨Y, Z, hF⟩ := zky hF
   refine zu hO (ze4 h Z) rfl fun _ σ _ _ hO w b0 => ?_
   have hL := hL.trans w
   have q := q.le w
   have h := h.le w
   obtain ⟨c9, d0, rfl, rfl, G⟩ := b0
   obtain ⟨b1, b2, rfl, -⟩ := G.form
   have hO := zkx1 hO
   refine zi hO [] [(4, zkz b1 Y b2)] zkc fun j => ?_
   refine zB (zE (zr (zr (zE (zr ?_)))))
   cases hF
   exact hQ _ _ _ _ _ rfl hO hL ⟨_, _, rfl, rfl, G⟩
  refine zo (zf (zM (zg (zy (zc hO [] [(5, zks (IntKind.i64.wrap (b + 1)))] [0, 1] zke fun j => ?_)))))
  refine zf (zg ?_)
  exact ⟨z, Nat.lt_succ_self _, (IntKind.i64.wrap (b + 1)), _, zkr zkd, hO, hL, hF⟩
 refine z0 (z3 (z1 (zg (zi hO [] [(4, .slice none 0 0)] zkc fun j => ?_))))
 refine zJ ?_
 have hO := hO.no
 have hO := zkx1 hO
 cases hF
 exact hQ _ _ _ _ _ rfl hO hL ⟨_, _, rfl, rfl, (zj.nil _ _ _)⟩
theorem zjS {τ : Hp} {W : Value} {p0 : (List za)} {w q : Int} (r0 : RdT zk τ W p0) {rr : (List za)} (hF : zeb p0 w q = some rr) :
  Ctr Try.prog 27 #[W, .int .i64 w, .int .i64 q] τ [] (fun v τ' vs' => ∃ (W : Value) (o0 : Ob), v = W ∧ vs' = [o0] ∧ zj zk 46 τ' W rr o0) := by
 obtain ⟨X, Y, rfl, -⟩ := r0.form
 refine zN (args := [.slice X p0.length Y, .int .i64 w, .int .i64 q]) hm Try.func27 s27 rfl fun w0 σ hO Q hQ => ?_
 unfold zeb at hF
 have hL := Hp.le.refl τ
 show wpn _ _ a27.body _ _ _
 unfold a27
 dsimp only
 refine zc hO [] [] [0, 1, 2] zke fun j => ?_
 refine zh (zc hO [] [(12, .bool (decide (w ≥ q)))] [0, 1, 2] zkf fun j => ?_)
 refine zp hF rfl (fun hF => ?_) fun hF => ?_
 ·refine zh (zZ hO 1 [] [(13, zkz X p0 Y)] zkc fun j => ?_)
  obtain ⟨c5, h6, hF⟩ := zky hF
  refine zu hO (zhW (r0.le hL) h6) rfl fun _ σ _ _ hO h7 h8 => ?_
  have hL := hL.trans h7
  obtain ⟨v9, g2, rfl, rfl, c3⟩ := h8
  obtain ⟨f3, f4, rfl, -⟩ := c3.form
  have hO := zkx1 hO
  refine zi hO [] [(6, zkz f3 c5 f4)] zkc fun j => ?_
  refine zB ?_
  cases hF
  exact hQ _ _ _ _ _ rfl hO hL ⟨_, _, rfl, rfl, c3⟩
 refine zo (zc hO [] [(7, .slice none 0 0)] [0, 1, 2] zkf fun j => ?_)
 refine zh (zc hO [] [(8, zks 0)] [0, 1, 2, 7] zkg fun j => ?_)
 refine zx ?_
 have hO := hO.no
 have hO := zkx1 hO
 refine z2 (fun (n : Nat) e' σ' => ∃ (E : Option Addr) (G : Nat) (V : Ob) (h : List za) (g : Int) (τ' : Hp), agr [(0, zkz X p0 Y), (1, zks w), (2, zks q), (7, zkz E h G), (8, zks g)] e' ∧ Obs τ' σ' [V] ∧ Hp.le τ τ' ∧ zj zk 46 τ' (zkz E h G) h V ∧ zcQ p0 w q n h g = some rr) big ⟨none, 0, [], [], 0, _, zkr zkf, hO, hL, zj.nil _ _ _, hF⟩ ?_
 clear hF hO hL
 rintro z e σ ⟨E, G, V, h, g, _, hA, hO, hL, Z, hF⟩
 rw [← zD _ _ hA]
 cases z with
 | zero => exact nomatch (show none = some rr from hF)
 | succ z =>
 replace hF : zdM (zcQ p0 w q z) p0 w q h g = some rr := hF
 unfold zdM at hF
 refine zh (zc hO [] [(18, .bool (decide (g < (p0.length : Int))))] [0, 1, 2, 7, 8] zkh fun j => ?_)
 refine zp hF rfl (fun hF => ?_) fun hF => ?_
 ·refine zo (zx (zb hO 2 [] [(21, zkz X p0 Y), (22, zks g)] [0, 1, 2, 7, 8] zki fun j => ?_))
  obtain ⟨b, c6, hF⟩ := zky hF
  refine zF (T := zk) (r0.le hL) hO.base rfl rfl c6 (by decide) fun a116 _ c7 c8 => ?_
  obtain ⟨f9, rfl, I⟩ := c7
  obtain ⟨J, R, rfl, -⟩ := I.form
  refine zs rfl ((c8.le hO.base).all rfl) ?_
  refine z6 hO fun b0 σ hO => ?_
  have hO := zkx2 hO
  refine zU hO (i := 1) rfl (off := 0) rfl rfl rfl rfl (Nat.le_of_ble_eq_true rfl) rfl fun σ hO => ?_
  have hO := zkx2 hO
  refine ze (zh (zc hO [1, 1, 1] [(35, .bool ((decide (b.From < b.To)) && (decide (b.From < w))))] [0, 1, 2, 7, 8, 9] (And.intro (And.intro rfl rfl) (And.intro (And.intro rfl rfl) (And.intro (And.intro rfl rfl) (And.intro (And.intro rfl rfl) (fun _ => zkr zkh))))) fun j => ?_))
  refine zfW (fun e' σ' => ∃ (B : Option Addr) (D : Nat) (S : Ob) (c : List za) (τ' : Hp), agr [(0, zkz X p0 Y), (1, zks w), (2, zks q), (7, zkz B c D), (8, zks g), (9, zkt b0)] e' ∧ Obs τ' σ' [S, zbT b0 b.From b.To (zkz J b.At R)] ∧ Hp.le τ τ' ∧ zj zk 46 τ' (zkz B c D) c S ∧ RdT zw τ' (zkz J b.At R) b.At ∧ zde (zcQ p0 w q z) q g b c = some rr) ?_ ?_
  ·refine zba (zp hF rfl (fun hF => ?_) fun hF => ?_)
   ·refine zb hO 10 [1, 1, 1] [(36, zkz E h G), (45, .agg #[(.int .i64 b.From), (.int .i64 (zW b.To w)), (zkz J b.At R)])] [0, 1, 2, 8, 9] (And.intro (And.intro rfl rfl) (And.intro (And.intro rfl rfl) (And.intro (And.intro rfl rfl) zki))) fun j => ?_
    obtain ⟨_, c1, hF⟩ := zky hF
    refine zbz (T := zk) (y := (⟨b.From, (zW b.To w), b.At⟩ : za)) hO Z (i := 0) rfl rfl (fun _ => rfl) rfl ⟨_, rfl, I⟩ rfl c1 (by decide) fun u _ σ c9 b1 hO => ?_
    obtain ⟨b2, b3, rfl, -⟩ := b1.form
    have hO := zkx2 hO
    refine zc hO [] [(7, zkz b2 (h ++ [(⟨b.From, (zW b.To w), b.At⟩ : za)]) b3)] [0, 1, 2, 8, 9] zkh fun j => ?_
    refine zf (zg ?_)
    exact ⟨b2, b3, c9, (h ++ [(⟨b.From, (zW b.To w), b.At⟩ : za)]), _, zkr zkg, hO, hL, b1, I, hF⟩
   refine zo (zf (zg ?_))
   exact ⟨E, G, V, h, _, zkr zkg, hO, hL, Z, I, hF⟩
  rintro e σ ⟨B, D, S, c, _, hA, hO, hL, b4, d0, hF⟩
  rw [← zD _ _ hA]
  unfold zde at hF
  refine zc hO [1, 1, 1] [(58, .bool ((decide (b.From < b.To)) && (decide (b.To > q))))] [0, 1, 2, 7, 8, 9] (And.intro (And.intro rfl rfl) (And.intro (And.intro rfl rfl) (And.intro (And.intro rfl rfl) (And.intro (And.intro rfl rfl) (fun _ => zkr zkh))))) fun j => ?_
  refine zba (zp hF rfl (fun hF => ?_) fun hF => ?_)
  ·refine zb hO 10 [1, 1, 1] [(59, zkz B c D), (68, .agg #[(.int .i64 (zS b.From q)), (.int .i64 b.To), (zkz J b.At R)])] [0, 1, 2, 8] (And.intro (And.intro rfl rfl) (And.intro (And.intro rfl rfl) (And.intro (And.intro rfl rfl) zkh))) fun j => ?_
   obtain ⟨_, c2, hF⟩ := zky hF
   refine zbz (T := zk) (y := (⟨(zS b.From q), b.To, b.At⟩ : za)) hO b4 (i := 0) rfl rfl (fun _ => rfl) rfl ⟨_, rfl, d0⟩ rfl c2 (by decide) fun u _ σ d5 b5 hO => ?_
   obtain ⟨b6, b7, rfl, -⟩ := b5.form
   have hO := zkx2 hO
   refine zc hO [] [(7, zkz b6 (c ++ [(⟨(zS b.From q), b.To, b.At⟩ : za)]) b7)] [0, 1, 2, 8] zkg fun j => ?_
   refine zf (zM (zg (zy (zc hO [] [(8, zks (IntKind.i64.wrap (g + 1)))] [0, 1, 2, 7] zkg fun j => ?_))))
   refine zf (zg ?_)
   have hO := hO.sel [0]
   exact ⟨z, Nat.lt_succ_self _, b6, b7, d5, (c ++ [(⟨(zS b.From q), b.To, b.At⟩ : za)]), (IntKind.i64.wrap (g + 1)), _, zkr zkf, hO, hL, b5, hF⟩
  refine zo (zf (zM (zg (zy (zc hO [] [(8, zks (IntKind.i64.wrap (g + 1)))] [0, 1, 2, 7] zkg fun j => ?_)))))
  refine zf (zg ?_)
  have hO := hO.sel [0]
  exact ⟨z, Nat.lt_succ_self _, B, D, S, c, (IntKind.i64.wrap (g + 1)), _, zkr zkf, hO, hL, b4, hF⟩
 refine z0 (z3 (z1 (zg (zZ hO 1 [] [(71, zkz E h G)] zkc fun j => ?_))))
 obtain ⟨_, d6, U, hO⟩ := Z.share hO (i := 0) rfl
 have hL := hL.trans d6
 have hO := zkx1 hO
 obtain ⟨d7, d8, hF⟩ := zky hF
 refine zu hO (zhW U d8) rfl fun _ σ _ _ hO b8 d9 => ?_
 have hL := hL.trans b8
 have U := U.le b8
 obtain ⟨g0, g1, rfl, rfl, b9⟩ := d9
 obtain ⟨f0, f1, rfl, -⟩ := b9.form
 have hO := zkx2 hO
 refine zi hO [] [(6, zkz f0 d7 f1)] zkc fun j => ?_
 refine zJ ?_
 cases hF
 have hO := hO.sel [1]
 exact hQ _ _ _ _ _ rfl hO hL ⟨_, _, rfl, rfl, b9⟩
end Go.Proofs.Ytjcehfjmmbbblaa
