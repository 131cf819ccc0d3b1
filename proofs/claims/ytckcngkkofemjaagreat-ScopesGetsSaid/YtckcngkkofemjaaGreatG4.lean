import Derived.Test.YtckcngkkofemjaaGreatG3
namespace Go.Proofs.YtckcngkkofemjaaGreat
open Go.Ab Go.RowKit
set_option linter.unusedVariables false
set_option linter.unusedSimpArgs false
set_option maxRecDepth 10000
set_option maxHeartbeats 1000000
theorem zoE {τ : Hp} {v0 : Value} {p0 : (List UInt8)} {q0 : (List UInt8)} {v1 : Value} {p1 : (List UInt8)} (r0 : RdT Ty.u8 τ v0 p0) (f0 : Full Ty.u8 τ v0 q0) (r1 : RdT Ty.u8 τ v1 p1) {rr : Bool} (hF : zgr p0 q0 p1 = some rr) :
  Ctr Tryz.prog 13 #[v0, v1] τ [] (fun v τ' vs' => v = .bool rr ∧ vs' = []) := by
 obtain ⟨A0, n0, rfl, f0⟩ := f0
 obtain ⟨_, _, hv0, -⟩ := r0.form
 injection hv0 with _ hv0 _
 subst hv0
 have f0 : Full Ty.u8 τ (.slice A0 p0.length q0.length) q0 := ⟨_, _, rfl, f0⟩
 obtain ⟨A1, c1, rfl, -⟩ := r1.form
 refine zM (args := [.slice A0 p0.length q0.length, .slice A1 p1.length c1]) hm Tryz.func13 s13 rfl fun w0 σ hO Q hQ => ?_
 unfold zgr at hF
 have hL := Hp.le.refl τ
 show wpn _ _ a13.body _ _ _
 unfold a13
 dsimp only
 refine zc hO [] [(0, .slice A0 p0.length q0.length), (1, .slice A1 p1.length c1)] zqk fun j => ?_
 refine ze (zc hO [] [(0, .slice A0 p0.length q0.length), (1, .slice A1 p1.length c1), (20, .bool (((p0.length : Int) != (p1.length : Int)) || (decide ((q0.length : Int) < (IntKind.i64.wrap ((p0.length : Int) + 8))))))] (And.intro (And.intro rfl rfl) (fun _ => zqy zqk)) fun j => ?_)
 rcases zi hF with ⟨hb3, hF⟩ | ⟨hb3, hF⟩
 ·refine zk (congrArg Value.bool hb3) ?_
  refine ze (zc hO [] [(4, .bool false)] zqj fun j => ?_)
  refine zu ?_
  injection hF with hF
  subst hF
  exact hQ _ _ _ _ _ rfl hO hL ⟨rfl, rfl⟩
 ·refine zl (congrArg Value.bool hb3) ?_
  refine zm (ze (zd hO 4 [] [(1, .slice A1 p1.length c1), (21, .slice A0 p0.length q0.length), (24, zqz (IntKind.i64.wrap ((p0.length : Int) + 8)))] zql fun j => ?_))
  obtain ⟨y4, g5, hF⟩ := bind_some hF
  refine zn8 (T := Ty.u8) f0 rfl rfl g5 fun _ r6 => ?_
  obtain ⟨A7, c8, rfl, -⟩ := r6.form
  refine zc hO [] [(1, .slice A1 p1.length c1), (25, .slice A7 y4.length c8), (26, zqz (y4.length : Int)), (27, zqz 0)] zqm fun j => ?_
  refine zt (zZ (fun (n : Nat) e' σ' => ∃ (x27 : Int) (τ' : Hp), agr [(1, .slice A1 p1.length c1), (25, .slice A7 y4.length c8), (26, zqz (y4.length : Int)), (27, zqz x27)] e' ∧ Obs τ' σ' [] ∧ Hp.le τ τ' ∧ RdT Ty.u8 τ' (.slice A1 p1.length c1) p1 ∧ RdT Ty.u8 τ' (.slice A7 y4.length c8) y4 ∧ zgk p1 y4 n x27 = some rr) big ⟨0, _, zqy zql, hO, hL, r1, r6, hF⟩ ?_)
  clear hF hO hL
  rintro n42 e σ ⟨x27, _, hA, hO, hL, r25, r26, hF⟩
  rw [← zL _ _ hA]
  cases n42 with
  | zero => exact nomatch (show none = some rr from hF)
  | succ n42 =>
   replace hF : zfr (zgk p1 y4 n42) p1 y4 x27 = some rr := hF
   unfold zfr at hF
   refine zc hO [] [(1, .slice A1 p1.length c1), (25, .slice A7 y4.length c8), (26, zqz (y4.length : Int)), (27, zqz x27), (28, .bool (decide (x27 < (y4.length : Int))))] zqn fun j => ?_
   rcases zi hF with ⟨hb43, hF⟩ | ⟨hb43, hF⟩
   ·refine zk (congrArg Value.bool hb43) ?_
    refine zm (zt (zd hO 1 [] [(1, .slice A1 p1.length c1), (25, .slice A7 y4.length c8), (26, zqz (y4.length : Int)), (27, zqz x27), (29, zqz x27)] zqn fun j => ?_))
    obtain ⟨y44, g45, hF⟩ := bind_some hF
    refine zC (T := Ty.u8) r26 hO.base rfl rfl g45 (by decide) fun a46 _ k47 m48 => ?_
    obtain rfl : _ = ([.int .u8 y44.toNat] : List Value) := k47
    refine zy rfl (m48.le hO.base).fst ?_
    refine zc hO [] [(1, .slice A1 p1.length c1), (5, zqz x27), (6, .int .u8 (y44.toNat : Int)), (25, .slice A7 y4.length c8), (26, zqz (y4.length : Int)), (27, zqz x27)] zqo fun j => ?_
    refine zc hO [] [(1, .slice A1 p1.length c1), (5, zqz x27), (6, .int .u8 (y44.toNat : Int)), (7, .int .u8 (IntKind.u8.wrap (IntKind.i64.wrap ((IntKind.i64.wrap (8 + (p1.length : Int))) - x27)))), (25, .slice A7 y4.length c8), (26, zqz (y4.length : Int)), (27, zqz x27)] zqp fun j => ?_
    refine ze (zc hO [] [(1, .slice A1 p1.length c1), (5, zqz x27), (6, .int .u8 (y44.toNat : Int)), (7, .int .u8 (IntKind.u8.wrap (IntKind.i64.wrap ((IntKind.i64.wrap (8 + (p1.length : Int))) - x27)))), (25, .slice A7 y4.length c8), (26, zqz (y4.length : Int)), (27, zqz x27), (41, .bool (decide (x27 < (p1.length : Int))))] zqq fun j => ?_)
    rcases zi hF with ⟨hb49, hF⟩ | ⟨hb49, hF⟩
    ·refine zk (congrArg Value.bool hb49) ?_
     refine zd hO 2 [] [(1, .slice A1 p1.length c1), (6, .int .u8 (y44.toNat : Int)), (25, .slice A7 y4.length c8), (26, zqz (y4.length : Int)), (27, zqz x27), (42, .slice A1 p1.length c1), (43, zqz x27)] zqp fun j => ?_
     obtain ⟨y50, g51, hF⟩ := bind_some hF
     refine zC (T := Ty.u8) r25 hO.base rfl rfl g51 (by decide) fun a52 _ k53 m54 => ?_
     obtain rfl : _ = ([.int .u8 y50.toNat] : List Value) := k53
     refine zy rfl (m54.le hO.base).fst ?_
     refine zc hO [] [(1, .slice A1 p1.length c1), (6, .int .u8 (y44.toNat : Int)), (7, .int .u8 (y50.toNat : Int)), (25, .slice A7 y4.length c8), (26, zqz (y4.length : Int)), (27, zqz x27)] zqo fun j => ?_
     refine zc hO [] [(1, .slice A1 p1.length c1), (25, .slice A7 y4.length c8), (26, zqz (y4.length : Int)), (27, zqz x27), (48, .bool ((y44.toNat : Int) != (y50.toNat : Int)))] zqn fun j => ?_
     refine zbl ?_
     rcases zi hF with ⟨hb55, hF⟩ | ⟨hb55, hF⟩
     ·refine zk (congrArg Value.bool hb55) ?_
      refine ze (zc hO [] [(4, .bool false)] zqj fun j => ?_)
      refine zu (zw (zn (zn (zw (zn ?_)))))
      injection hF with hF
      subst hF
      exact hQ _ _ _ _ _ rfl hO hL ⟨rfl, rfl⟩
     ·refine zl (congrArg Value.bool hb55) ?_
      refine zm (zg (zP (zj (zA (zc hO [] [(1, .slice A1 p1.length c1), (25, .slice A7 y4.length c8), (26, zqz (y4.length : Int)), (27, zqz (IntKind.i64.wrap (x27 + 1)))] zqm fun j => ?_)))))
      refine zg (zj ?_)
      exact ⟨n42, Nat.lt_succ_self _, (IntKind.i64.wrap (x27 + 1)), _, zqy zql, hO, hL, r25, r26, hF⟩
    ·refine zl (congrArg Value.bool hb49) ?_
     refine zm (zc hO [] [(1, .slice A1 p1.length c1), (25, .slice A7 y4.length c8), (26, zqz (y4.length : Int)), (27, zqz x27), (48, .bool ((y44.toNat : Int) != (IntKind.u8.wrap (IntKind.i64.wrap ((IntKind.i64.wrap (8 + (p1.length : Int))) - x27)))))] zqn fun j => ?_)
     refine zbl ?_
     rcases zi hF with ⟨hb56, hF⟩ | ⟨hb56, hF⟩
     ·refine zk (congrArg Value.bool hb56) ?_
      refine ze (zc hO [] [(4, .bool false)] zqj fun j => ?_)
      refine zu (zw (zn (zn (zw (zn ?_)))))
      injection hF with hF
      subst hF
      exact hQ _ _ _ _ _ rfl hO hL ⟨rfl, rfl⟩
     ·refine zl (congrArg Value.bool hb56) ?_
      refine zm (zg (zP (zj (zA (zc hO [] [(1, .slice A1 p1.length c1), (25, .slice A7 y4.length c8), (26, zqz (y4.length : Int)), (27, zqz (IntKind.i64.wrap (x27 + 1)))] zqm fun j => ?_)))))
      refine zg (zj ?_)
      exact ⟨n42, Nat.lt_succ_self _, (IntKind.i64.wrap (x27 + 1)), _, zqy zql, hO, hL, r25, r26, hF⟩
   ·refine zl (congrArg Value.bool hb43) ?_
    refine zU (zY (z0 (zj (zc hO [] [(4, .bool true)] zqj fun j => ?_))))
    refine zK ?_
    injection hF with hF
    subst hF
    exact hQ _ _ _ _ _ rfl hO hL ⟨rfl, rfl⟩
theorem zkA {τ : Hp} {v0 : Value} {p0 : (List UInt8)} {p1 : Int} (r0 : RdT Ty.u8 τ v0 p0) {rr : Int} (hF : zfp p0 p1 = some rr) :
  Ctr Tryz.prog 90 #[v0, .int .i64 p1] τ [] (fun v τ' vs' => v = .int .i64 rr ∧ vs' = []) := by
 obtain ⟨A0, c0, rfl, -⟩ := r0.form
 refine zM (args := [.slice A0 p0.length c0, .int .i64 p1]) hm Tryz.func90 s90 rfl fun w0 σ hO Q hQ => ?_
 unfold zfp at hF
 have hL := Hp.le.refl τ
 show wpn _ _ a90.body _ _ _
 unfold a90
 dsimp only
 refine zc hO [] [(0, .slice A0 p0.length c0), (1, zqz p1)] zqk fun j => ?_
 refine ze (zc hO [] [(0, .slice A0 p0.length c0), (1, zqz p1), (5, zqz 0)] zql fun j => ?_)
 refine zt (zZ (fun (n : Nat) e' σ' => ∃ (x12 : Int) (τ' : Hp), agr [(0, .slice A0 p0.length c0), (1, zqz p1), (5, zqz x12)] e' ∧ Obs τ' σ' [] ∧ Hp.le τ τ' ∧ RdT Ty.u8 τ' (.slice A0 p0.length c0) p0 ∧ zfE p0 p1 n x12 = some rr) big ⟨0, _, zqy zqk, hO, hL, r0, hF⟩ ?_)
 clear hF hO hL
 rintro n20 e σ ⟨x12, _, hA, hO, hL, r11, hF⟩
 rw [← zL _ _ hA]
 cases n20 with
 | zero => exact nomatch (show none = some rr from hF)
 | succ n20 =>
  replace hF : zeK (zfE p0 p1 n20) p0 p1 x12 = some rr := hF
  unfold zeK at hF
  refine ze (zc hO [] [(0, .slice A0 p0.length c0), (1, zqz p1), (5, zqz x12), (15, .bool ((decide (x12 < 10)) && (decide ((IntKind.i64.wrap (p1 + x12)) < (p0.length : Int)))))] (And.intro (And.intro rfl rfl) (fun _ => zqy zql)) fun j => ?_)
  rcases zi hF with ⟨hb21, hF⟩ | ⟨hb21, hF⟩
  ·refine zk (congrArg Value.bool hb21) ?_
   refine zm (zt (zd hO 4 [] [(0, .slice A0 p0.length c0), (1, zqz p1), (5, zqz x12), (18, .slice A0 p0.length c0), (21, zqz (IntKind.i64.wrap (p1 + x12)))] zqn fun j => ?_))
   obtain ⟨y22, g23, hF⟩ := bind_some hF
   refine zC (T := Ty.u8) r11 hO.base rfl rfl g23 (by decide) fun a24 _ k25 m26 => ?_
   obtain rfl : _ = ([.int .u8 y22.toNat] : List Value) := k25
   refine zy rfl (m26.le hO.base).fst ?_
   refine zc hO [] [(0, .slice A0 p0.length c0), (1, zqz p1), (5, zqz x12), (24, .bool (decide ((y22.toNat : Int) < 128)))] zqm fun j => ?_
   refine zbl ?_
   rcases zi hF with ⟨hb27, hF⟩ | ⟨hb27, hF⟩
   ·refine zk (congrArg Value.bool hb27) ?_
    refine ze (zc hO [] [(4, zqz (IntKind.i64.wrap (x12 + 1)))] zqj fun j => ?_)
    refine zu (zw (zn (zn (zw (zn ?_)))))
    injection hF with hF
    subst hF
    exact hQ _ _ _ _ _ rfl hO hL ⟨rfl, rfl⟩
   ·refine zl (congrArg Value.bool hb27) ?_
    refine zm (zg (zP (zj (zA (zc hO [] [(0, .slice A0 p0.length c0), (1, zqz p1), (5, zqz (IntKind.i64.wrap (x12 + 1)))] zql fun j => ?_)))))
    refine zg (zj ?_)
    exact ⟨n20, Nat.lt_succ_self _, (IntKind.i64.wrap (x12 + 1)), _, zqy zqk, hO, hL, r11, hF⟩
  ·refine zl (congrArg Value.bool hb21) ?_
   refine zU (zY (z0 (zj (zc hO [] [(4, zqz 0)] zqj fun j => ?_))))
   refine zK ?_
   injection hF with hF
   subst hF
   exact hQ _ _ _ _ _ rfl hO hL ⟨rfl, rfl⟩
theorem zl1 {τ : Hp} {v0 : Value} {p0 : (List UInt8)} {p1 : Int} {p2 : Int} (r0 : RdT Ty.u8 τ v0 p0) {rr : Int} (hF : zec p0 p1 p2 = some rr) :
  Ctr Tryz.prog 91 #[v0, .int .i64 p1, .int .i64 p2] τ [] (fun v τ' vs' => v = .int .u64 rr ∧ vs' = []) := by
 obtain ⟨A0, c0, rfl, -⟩ := r0.form
 refine zM (args := [.slice A0 p0.length c0, .int .i64 p1, .int .i64 p2]) hm Tryz.func91 s91 rfl fun w0 σ hO Q hQ => ?_
 unfold zec at hF
 have hL := Hp.le.refl τ
 show wpn _ _ a91.body _ _ _
 unfold a91
 dsimp only
 refine zc hO [] [(0, .slice A0 p0.length c0), (1, zqz p1), (2, zqz p2)] zql fun j => ?_
 refine zc hO [] [(0, .slice A0 p0.length c0), (1, zqz p1), (2, zqz p2), (7, .int .u64 0)] zqm fun j => ?_
 refine ze (zc hO [] [(0, .slice A0 p0.length c0), (1, zqz p1), (7, .int .u64 0), (8, zqz (IntKind.i64.wrap (p2 - 1)))] zqm fun j => ?_)
 refine zt (zZ (fun (n : Nat) e' σ' => ∃ (x12 : Int) (x13 : Int) (τ' : Hp), agr [(0, .slice A0 p0.length c0), (1, zqz p1), (7, .int .u64 x12), (8, zqz x13)] e' ∧ Obs τ' σ' [] ∧ Hp.le τ τ' ∧ RdT Ty.u8 τ' (.slice A0 p0.length c0) p0 ∧ zfC p0 p1 n x12 x13 = some rr) big ⟨0, (IntKind.i64.wrap (p2 - 1)), _, zqy zql, hO, hL, r0, hF⟩ ?_)
 clear hF hO hL
 rintro n20 e σ ⟨x12, x13, _, hA, hO, hL, r11, hF⟩
 rw [← zL _ _ hA]
 cases n20 with
 | zero => exact nomatch (show none = some rr from hF)
 | succ n20 =>
  replace hF : zf6 (zfC p0 p1 n20) p0 p1 x12 x13 = some rr := hF
  unfold zf6 at hF
  refine ze (zc hO [] [(0, .slice A0 p0.length c0), (1, zqz p1), (7, .int .u64 x12), (8, zqz x13), (12, .bool (decide (x13 ≥ 0)))] zqn fun j => ?_)
  rcases zi hF with ⟨hb21, hF⟩ | ⟨hb21, hF⟩
  ·refine zk (congrArg Value.bool hb21) ?_
   refine zm (zt (zA (zd hO 6 [] [(0, .slice A0 p0.length c0), (1, zqz p1), (8, zqz x13), (16, .int .u64 (IntKind.u64.wrap (128 * x12))), (17, .slice A0 p0.length c0), (20, zqz (IntKind.i64.wrap (p1 + x13)))] zqo fun j => ?_)))
   obtain ⟨y22, g23, hF⟩ := bind_some hF
   refine zC (T := Ty.u8) r11 hO.base rfl rfl g23 (by decide) fun a24 _ k25 m26 => ?_
   obtain rfl : _ = ([.int .u8 y22.toNat] : List Value) := k25
   refine zy rfl (m26.le hO.base).fst ?_
   refine zc hO [] [(0, .slice A0 p0.length c0), (1, zqz p1), (7, .int .u64 (IntKind.u64.wrap ((IntKind.u64.wrap (128 * x12)) + (IntKind.u64.wrap (Int.tmod (y22.toNat : Int) 128))))), (8, zqz x13)] zqm fun j => ?_
   refine zg (zP (zj (zA (zc hO [] [(0, .slice A0 p0.length c0), (1, zqz p1), (7, .int .u64 (IntKind.u64.wrap ((IntKind.u64.wrap (128 * x12)) + (IntKind.u64.wrap (Int.tmod (y22.toNat : Int) 128))))), (8, zqz (IntKind.i64.wrap (x13 - 1)))] zqm fun j => ?_))))
   refine zg (zj ?_)
   exact ⟨n20, Nat.lt_succ_self _, (IntKind.u64.wrap ((IntKind.u64.wrap (128 * x12)) + (IntKind.u64.wrap (Int.tmod (y22.toNat : Int) 128)))), (IntKind.i64.wrap (x13 - 1)), _, zqy zql, hO, hL, r11, hF⟩
  ·refine zl (congrArg Value.bool hb21) ?_
   refine zU (zY (z0 (zj (zc hO [] [(6, .int .u64 x12)] zqj fun j => ?_))))
   refine zK ?_
   injection hF with hF
   subst hF
   exact hQ _ _ _ _ _ rfl hO hL ⟨rfl, rfl⟩
theorem zl6 {τ : Hp} {v0 : Value} {p0 : (List UInt8)} {p1 : Int} {v2 : Value} {p2 : (List UInt8)} (r0 : RdT Ty.u8 τ v0 p0) (r2 : RdT Ty.u8 τ v2 p2) {rr : Bool} (hF : zeo p0 p1 p2 = some rr) :
  Ctr Tryz.prog 92 #[v0, .int .i64 p1, v2] τ [] (fun v τ' vs' => v = .bool rr ∧ vs' = []) := by
 obtain ⟨A0, c0, rfl, -⟩ := r0.form
 obtain ⟨A2, c2, rfl, -⟩ := r2.form
 refine zM (args := [.slice A0 p0.length c0, .int .i64 p1, .slice A2 p2.length c2]) hm Tryz.func92 s92 rfl fun w0 σ hO Q hQ => ?_
 unfold zeo at hF
 have hL := Hp.le.refl τ
 show wpn _ _ a92.body _ _ _
 unfold a92
 dsimp only
 refine zc hO [] [(0, .slice A0 p0.length c0), (1, zqz p1), (2, .slice A2 p2.length c2)] zql fun j => ?_
 refine ze (zc hO [] [(0, .slice A0 p0.length c0), (1, zqz p1), (2, .slice A2 p2.length c2), (14, .bool (decide ((p2.length : Int) > (IntKind.i64.wrap ((p0.length : Int) - p1)))))] zqm fun j => ?_)
 rcases zi hF with ⟨hb4, hF⟩ | ⟨hb4, hF⟩
 ·refine zk (congrArg Value.bool hb4) ?_
  refine ze (zc hO [] [(6, .bool false)] zqj fun j => ?_)
  refine zu ?_
  injection hF with hF
  subst hF
  exact hQ _ _ _ _ _ rfl hO hL ⟨rfl, rfl⟩
 ·refine zl (congrArg Value.bool hb4) ?_
  refine zm (ze (zc hO [] [(0, .slice A0 p0.length c0), (1, zqz p1), (2, .slice A2 p2.length c2), (7, zqz 0)] zqm fun j => ?_))
  refine zt (zZ (fun (n : Nat) e' σ' => ∃ (x21 : Int) (τ' : Hp), agr [(0, .slice A0 p0.length c0), (1, zqz p1), (2, .slice A2 p2.length c2), (7, zqz x21)] e' ∧ Obs τ' σ' [] ∧ Hp.le τ τ' ∧ RdT Ty.u8 τ' (.slice A0 p0.length c0) p0 ∧ RdT Ty.u8 τ' (.slice A2 p2.length c2) p2 ∧ zeX p0 p1 p2 n x21 = some rr) big ⟨0, _, zqy zql, hO, hL, r0, r2, hF⟩ ?_)
  clear hF hO hL
  rintro n34 e σ ⟨x21, _, hA, hO, hL, r19, r20, hF⟩
  rw [← zL _ _ hA]
  cases n34 with
  | zero => exact nomatch (show none = some rr from hF)
  | succ n34 =>
   replace hF : ze0 (zeX p0 p1 p2 n34) p0 p1 p2 x21 = some rr := hF
   unfold ze0 at hF
   refine ze (zc hO [] [(0, .slice A0 p0.length c0), (1, zqz p1), (2, .slice A2 p2.length c2), (7, zqz x21), (18, .bool (decide (x21 < (p2.length : Int))))] zqn fun j => ?_)
   rcases zi hF with ⟨hb35, hF⟩ | ⟨hb35, hF⟩
   ·refine zk (congrArg Value.bool hb35) ?_
    refine zm (zt (zbr (zd hO 4 [] [(0, .slice A0 p0.length c0), (1, zqz p1), (2, .slice A2 p2.length c2), (7, zqz x21), (21, .slice A0 p0.length c0), (24, zqz (IntKind.i64.wrap (p1 + x21)))] zqo fun j => ?_)))
    obtain ⟨y36, g37, hF⟩ := bind_some hF
    refine zC (T := Ty.u8) r19 hO.base rfl rfl g37 (by decide) fun a38 _ k39 m40 => ?_
    obtain rfl : _ = ([.int .u8 y36.toNat] : List Value) := k39
    refine zy rfl (m40.le hO.base).fst ?_
    refine zd hO 2 [] [(0, .slice A0 p0.length c0), (1, zqz p1), (2, .slice A2 p2.length c2), (7, zqz x21), (26, .int .u8 (y36.toNat : Int)), (27, .slice A2 p2.length c2), (28, zqz x21)] zqp fun j => ?_
    obtain ⟨y41, g42, hF⟩ := bind_some hF
    refine zC (T := Ty.u8) r20 hO.base rfl rfl g42 (by decide) fun a43 _ k44 m45 => ?_
    obtain rfl : _ = ([.int .u8 y41.toNat] : List Value) := k44
    refine zy rfl (m45.le hO.base).fst ?_
    refine zc hO [] [(0, .slice A0 p0.length c0), (1, zqz p1), (2, .slice A2 p2.length c2), (7, zqz x21), (31, .bool ((y36.toNat : Int) != (y41.toNat : Int)))] zqn fun j => ?_
    refine zbl ?_
    rcases zi hF with ⟨hb46, hF⟩ | ⟨hb46, hF⟩
    ·refine zk (congrArg Value.bool hb46) ?_
     refine ze (zc hO [] [(6, .bool false)] zqj fun j => ?_)
     refine zu (zw (zn (zn (zw (zn ?_)))))
     injection hF with hF
     subst hF
     exact hQ _ _ _ _ _ rfl hO hL ⟨rfl, rfl⟩
    ·refine zl (congrArg Value.bool hb46) ?_
     refine zm (zg (zP (zj (zA (zc hO [] [(0, .slice A0 p0.length c0), (1, zqz p1), (2, .slice A2 p2.length c2), (7, zqz (IntKind.i64.wrap (x21 + 1)))] zqm fun j => ?_)))))
     refine zg (zj ?_)
     exact ⟨n34, Nat.lt_succ_self _, (IntKind.i64.wrap (x21 + 1)), _, zqy zql, hO, hL, r19, r20, hF⟩
   ·refine zl (congrArg Value.bool hb35) ?_
    refine zU (zY (z0 (zj (zc hO [] [(6, .bool true)] zqj fun j => ?_))))
    refine zK ?_
    injection hF with hF
    subst hF
    exact hQ _ _ _ _ _ rfl hO hL ⟨rfl, rfl⟩
theorem zh4 {τ : Hp} {v0 : Value} {p0 : (List UInt8)} {p1 : Int} (r0 : RdT Ty.u8 τ v0 p0) {rr : Int × Int × Int} (hF : zc8 p0 p1 = some rr) :
  Ctr Tryz.prog 74 #[v0, .int .i64 p1] τ [] (fun v τ' vs' => v = .tuple #[.int .u64 rr.1, .int .i64 rr.2.1, .int .i64 rr.2.2] ∧ vs' = []) := by
 obtain ⟨A0, c0, rfl, -⟩ := r0.form
 refine zM (args := [.slice A0 p0.length c0, .int .i64 p1]) hm Tryz.func74 s74 rfl fun w0 σ hO Q hQ => ?_
 unfold zc8 at hF
 have hL := Hp.le.refl τ
 show wpn _ _ a74.body _ _ _
 unfold a74
 dsimp only
 refine zc hO [] [(0, .slice A0 p0.length c0), (1, zqz p1)] zqk fun j => ?_
 refine ze (zc hO [] [(0, .slice A0 p0.length c0), (1, zqz p1), (16, .bool ((decide (p1 < 0)) || (decide (p1 > (p0.length : Int)))))] (And.intro (And.intro rfl rfl) (fun _ => zqy zqk)) fun j => ?_)
 rcases zi hF with ⟨hb3, hF⟩ | ⟨hb3, hF⟩
 ·refine zk (congrArg Value.bool hb3) ?_
  refine ze (zc hO [] [(4, .int .u64 0), (5, zqz 0), (6, zqz 1)] zql fun j => ?_)
  refine zu ?_
  injection hF with hF
  subst hF
  exact hQ _ _ _ _ _ rfl hO hL ⟨rfl, rfl⟩
 ·refine zl (congrArg Value.bool hb3) ?_
  refine zm (zd hO 2 [] [(0, .slice A0 p0.length c0), (1, zqz p1), (17, .slice A0 p0.length c0), (18, zqz p1)] zqm fun j => ?_)
  obtain ⟨c4, h5, hF⟩ := bind_some hF
  refine zD hO (zkA r0 h5) rfl fun _ σ _ _ hO h6 h7 => ?_
  have hL := hL.trans h6
  have r0 := r0.le h6
  obtain ⟨rfl, rfl⟩ := h7
  have hO : Obs _ _ [] := hO
  refine zc hO [] [(0, .slice A0 p0.length c0), (1, zqz p1), (7, zqz c4)] zql fun j => ?_
  refine zd hO 3 [] [(0, .slice A0 p0.length c0), (1, zqz p1), (7, zqz c4), (20, .slice A0 p0.length c0), (21, zqz p1), (22, zqz c4)] zqo fun j => ?_
  obtain ⟨c8, h9, hF⟩ := bind_some hF
  refine zD hO (zl1 r0 h9) rfl fun _ σ _ _ hO h10 h11 => ?_
  have hL := hL.trans h10
  have r0 := r0.le h10
  obtain ⟨rfl, rfl⟩ := h11
  have hO : Obs _ _ [] := hO
  refine zc hO [] [(0, .slice A0 p0.length c0), (1, zqz p1), (7, zqz c4), (8, .int .u64 c8)] zqm fun j => ?_
  refine ze (zd hO 3 [] [(0, .slice A0 p0.length c0), (1, zqz p1), (7, zqz c4), (8, .int .u64 c8), (26, .bool (c4 == 0))] zqn fun j => ?_)
  obtain ⟨c12, h13, hF⟩ := bind_some hF
  refine zbQ 2 (fun e' σ' => ∃ (τ' : Hp), agr [(33, .bool c12), (1, zqz p1), (7, zqz c4), (8, .int .u64 c8)] e' ∧ Obs τ' σ' [] ∧ Hp.le τ τ') ?_ ?_
  ·have hF := h13
   rcases zi hF with ⟨hb14, hF⟩ | ⟨hb14, hF⟩
   ·refine z9 (congrArg (fun x => isB (.bool x) false) hb14) ?_
    refine zJ (congrArg Value.bool hb14) ?_
    refine zh ?_
    injection hF with hF
    subst hF
    refine zg ?_
    exact ⟨rfl, _, zqy zql, hO, hL⟩
   ·refine z7 (congrArg (fun x => isB (.bool x) false) hb14) ?_
    refine zd hO 3 [] [(1, zqz p1), (7, zqz c4), (8, .int .u64 c8), (26, .bool (c4 == 0)), (27, .slice A0 p0.length c0), (28, zqz p1), (29, .int .u64 c8)] zqp fun j => ?_
    obtain ⟨c15, h16, hF⟩ := bind_some hF
    refine zD hO (znz (RdT.nil Ty.u8 _) h16) rfl fun _ σ _ _ hO h17 h18 => ?_
    have hL := hL.trans h17
    have r0 := r0.le h17
    obtain ⟨v19, o22, rfl, rfl, w23⟩ := h18
    obtain ⟨A20, c21, rfl, -⟩ := w23.form
    have hO : Obs _ _ [_] := hO
    obtain ⟨_, h25, r24, hO⟩ := w23.share hO (i := 0) rfl
    have hL := hL.trans h25
    have r0 := r0.le h25
    have hO : Obs _ _ [_] := hO
    obtain ⟨c26, h27, hF⟩ := bind_some hF
    refine zD hO (zl6 r0 r24 h27) rfl fun _ σ _ _ hO h28 h29 => ?_
    have hL := hL.trans h28
    have r0 := r0.le h28
    have r24 := r24.le h28
    obtain ⟨rfl, rfl⟩ := h29
    have hO : Obs _ _ [_] := hO
    refine zd hO 1 [] [(1, zqz p1), (7, zqz c4), (8, .int .u64 c8), (26, .bool (c4 == 0)), (32, .bool (!c26))] zqn fun j => ?_
    refine zJ (congrArg Value.bool hb14) ?_
    refine zh ?_
    injection hF with hF
    subst hF
    refine zg ?_
    have hO := hO.sel [] (by decide)
    exact ⟨rfl, _, zqy zql, hO, hL⟩
  ·rintro e σ ⟨_, hA, hO, hL⟩
   rw [← zL _ _ hA]
   refine zh ?_
   rcases zi hF with ⟨hb30, hF⟩ | ⟨hb30, hF⟩
   ·refine zk (congrArg Value.bool hb30) ?_
    refine ze (zc hO [] [(4, .int .u64 0), (5, zqz 0), (6, zqz 5)] zql fun j => ?_)
    refine zu ?_
    injection hF with hF
    subst hF
    exact hQ _ _ _ _ _ rfl hO hL ⟨rfl, rfl⟩
   ·refine zl (congrArg Value.bool hb30) ?_
    refine zm (zc hO [] [(4, .int .u64 c8), (5, zqz (IntKind.i64.wrap (p1 + c4))), (6, zqz 0)] zql fun j => ?_)
    refine zK ?_
    injection hF with hF
    subst hF
    exact hQ _ _ _ _ _ rfl hO hL ⟨rfl, rfl⟩
theorem zcv {τ : Hp} {q0 : zI} {bm0 : Nat} {vm0_0 : Value} {p1 : Int} (rm0_0 : RdT Ty.u8 τ vm0_0 q0.B) {rr : Int × zI} (hF : zbV q0 p1 = some rr) :
  Ctr Tryz.prog 51 #[.pointer (some ⟨bm0, 0, none⟩), .int .i64 p1] τ [some (bm0, ⟨[vm0_0, .int .i64 q0.At, .bool q0.Failed], 96, 3, true⟩)] (fun v τ' vs' => ∃ (u0_0 : Value), v = .int .i64 rr.1 ∧ vs' = [some (bm0, ⟨[u0_0, .int .i64 rr.2.At, .bool rr.2.Failed], 96, 3, true⟩)] ∧ RdT Ty.u8 τ' u0_0 rr.2.B) := by
 obtain ⟨Am0_0, cm0_0, rfl, -⟩ := rm0_0.form
 refine zM (args := [.pointer (some ⟨bm0, 0, none⟩), .int .i64 p1]) hm Tryz.func51 s51 rfl fun w0 σ hO Q hQ => ?_
 unfold zbV at hF
 have hL := Hp.le.refl τ
 show wpn _ _ a51.body _ _ _
 unfold a51
 dsimp only
 refine zc hO [] [(0, zqA bm0), (1, zqz p1)] zqk fun j => ?_
 refine ze (zc hO [0] [(0, zqA bm0), (1, zqz p1), (11, .bool q0.Failed)] (And.intro (And.intro rfl rfl) zql) fun j => ?_)
 rcases zi hF with ⟨hb3, hF⟩ | ⟨hb3, hF⟩
 ·refine zk (congrArg Value.bool hb3) ?_
  refine ze (zc hO [] [(0, zqA bm0), (4, zqz 0)] zqk fun j => ?_)
  refine zu ?_
  injection hF with hF
  subst hF
  exact hQ _ _ _ _ _ rfl hO hL ⟨_, rfl, rfl, rm0_0⟩
 ·refine zl (congrArg Value.bool hb3) ?_
  refine zm (zbr (zd hO 8 [0, 0] [(0, zqA bm0), (1, zqz p1), (16, .slice Am0_0 q0.B.length cm0_0), (20, zqz q0.At)] (And.intro (And.intro rfl rfl) (And.intro (And.intro rfl rfl) zqm)) fun j => ?_))
  obtain ⟨c4, h5, hF⟩ := bind_some hF
  refine zD hO (zh4 rm0_0 h5) rfl fun _ σ _ _ hO h6 h7 => ?_
  have hL := hL.trans h6
  have rm0_0 := rm0_0.le h6
  obtain ⟨rfl, rfl⟩ := h7
  have hO : Obs _ _ [_] := hO
  refine zc hO [] [(0, zqA bm0), (1, zqz p1), (5, .int .u64 c4.1), (6, zqz c4.2.1), (7, zqz c4.2.2)] zqn fun j => ?_
  refine ze (zc hO [] [(0, zqA bm0), (5, .int .u64 c4.1), (6, zqz c4.2.1), (32, .bool ((c4.2.2 != 0) || (decide (c4.1 > (IntKind.u64.wrap p1)))))] (And.intro (And.intro rfl rfl) (fun _ => zqy zql)) fun j => ?_)
  rcases zi hF with ⟨hb8, hF⟩ | ⟨hb8, hF⟩
  ·refine zk (congrArg Value.bool hb8) ?_
   refine ze (zd hO 3 [] [(0, zqA bm0), (35, .pointer (some ⟨bm0, 2, none⟩))] zqk fun j => ?_)
   refine zO hO (i := 0) rfl (off := 2) rfl rfl rfl rfl (Nat.le_of_ble_eq_true rfl) rfl fun σ hO => ?_
   have hO : Obs _ _ [_] := hO
   refine zh (ze (zc hO [] [(0, zqA bm0), (4, zqz 0)] zqk fun j => ?_))
   refine zu ?_
   injection hF with hF
   subst hF
   exact hQ _ _ _ _ _ rfl hO hL ⟨_, rfl, rfl, rm0_0⟩
  ·refine zl (congrArg Value.bool hb8) ?_
   refine zm (zd hO 4 [] [(0, zqA bm0), (5, .int .u64 c4.1), (37, zqz c4.2.1), (39, .pointer (some ⟨bm0, 1, none⟩))] zqm fun j => ?_)
   refine zO hO (i := 0) rfl (off := 1) rfl rfl rfl rfl (Nat.le_of_ble_eq_true rfl) rfl fun σ hO => ?_
   have hO : Obs _ _ [_] := hO
   refine zh (zc hO [] [(0, zqA bm0), (4, zqz (IntKind.i64.wrap c4.1))] zqk fun j => ?_)
   refine zK ?_
   injection hF with hF
   subst hF
   exact hQ _ _ _ _ _ rfl hO hL ⟨_, rfl, rfl, rm0_0⟩
theorem zj6 {τ : Hp} {v0 : Value} {p0 : (List UInt8)} {p1 : Int} {p2 : Int} (r0 : RdT Ty.u8 τ v0 p0) {rr : Int} (hF : zcD p0 p1 p2 = some rr) :
  Ctr Tryz.prog 94 #[v0, .int .i64 p1, .int .i64 p2] τ [] (fun v τ' vs' => v = .int .i64 rr ∧ vs' = []) := by
 obtain ⟨A0, c0, rfl, -⟩ := r0.form
 refine zM (args := [.slice A0 p0.length c0, .int .i64 p1, .int .i64 p2]) hm Tryz.func94 s94 rfl fun w0 σ hO Q hQ => ?_
 unfold zcD at hF
 have hL := Hp.le.refl τ
 show wpn _ _ a94.body _ _ _
 unfold a94
 dsimp only
 refine zc hO [] [(0, .slice A0 p0.length c0), (1, zqz p1), (2, zqz p2)] zql fun j => ?_
 refine ze (zc hO [] [(0, .slice A0 p0.length c0), (1, zqz p1), (2, zqz p2), (14, .bool ((decide (p1 < 0)) || (decide (p1 > (p0.length : Int)))))] (And.intro (And.intro rfl rfl) (fun _ => zqy zql)) fun j => ?_)
 rcases zi hF with ⟨hb4, hF⟩ | ⟨hb4, hF⟩
 ·refine zk (congrArg Value.bool hb4) ?_
  refine ze (zc hO [] [(6, zqz 1)] zqj fun j => ?_)
  refine zu ?_
  injection hF with hF
  subst hF
  exact hQ _ _ _ _ _ rfl hO hL ⟨rfl, rfl⟩
 ·refine zl (congrArg Value.bool hb4) ?_
  refine zm (ze (zc hO [] [(20, .bool (decide ((IntKind.i64.wrap ((p0.length : Int) - p1)) < p2)))] zqj fun j => ?_))
  rcases zi hF with ⟨hb5, hF⟩ | ⟨hb5, hF⟩
  ·refine zk (congrArg Value.bool hb5) ?_
   refine ze (zc hO [] [(6, zqz 5)] zqj fun j => ?_)
   refine zu ?_
   injection hF with hF
   subst hF
   exact hQ _ _ _ _ _ rfl hO hL ⟨rfl, rfl⟩
  ·refine zl (congrArg Value.bool hb5) ?_
   refine zm (zc hO [] [(6, zqz 0)] zqj fun j => ?_)
   refine zK ?_
   injection hF with hF
   subst hF
   exact hQ _ _ _ _ _ rfl hO hL ⟨rfl, rfl⟩
theorem zmH {τ : Hp} {v0 : Value} {p0 : (List UInt8)} {p1 : Int} (r0 : RdT Ty.u8 τ v0 p0) {rr : Int × Int × Int} (hF : zcW p0 p1 = some rr) :
  Ctr Tryz.prog 93 #[v0, .int .i64 p1] τ [] (fun v τ' vs' => v = .tuple #[.int .u8 rr.1, .int .i64 rr.2.1, .int .i64 rr.2.2] ∧ vs' = []) := by
 obtain ⟨A0, c0, rfl, -⟩ := r0.form
 refine zM (args := [.slice A0 p0.length c0, .int .i64 p1]) hm Tryz.func93 s93 rfl fun w0 σ hO Q hQ => ?_
 unfold zcW at hF
 have hL := Hp.le.refl τ
 show wpn _ _ a93.body _ _ _
 unfold a93
 dsimp only
 refine zc hO [] [(0, .slice A0 p0.length c0), (1, zqz p1)] zqk fun j => ?_
 refine zd hO 2 [] [(0, .slice A0 p0.length c0), (1, zqz p1), (8, .slice A0 p0.length c0), (9, zqz p1)] zqm fun j => ?_
 obtain ⟨c3, h4, hF⟩ := bind_some hF
 refine zD hO (zj6 r0 h4) rfl fun _ σ _ _ hO h5 h6 => ?_
 have hL := hL.trans h5
 have r0 := r0.le h5
 obtain ⟨rfl, rfl⟩ := h6
 have hO : Obs _ _ [] := hO
 refine zc hO [] [(0, .slice A0 p0.length c0), (1, zqz p1), (7, zqz c3)] zql fun j => ?_
 refine ze (zc hO [] [(0, .slice A0 p0.length c0), (1, zqz p1), (7, zqz c3), (12, .bool (c3 != 0))] zqm fun j => ?_)
 rcases zi hF with ⟨hb7, hF⟩ | ⟨hb7, hF⟩
 ·refine zk (congrArg Value.bool hb7) ?_
  refine ze (zc hO [] [(4, .int .u8 0), (5, zqz 0), (6, zqz c3)] zql fun j => ?_)
  refine zu ?_
  injection hF with hF
  subst hF
  exact hQ _ _ _ _ _ rfl hO hL ⟨rfl, rfl⟩
 ·refine zl (congrArg Value.bool hb7) ?_
  refine zm (zd hO 2 [] [(1, zqz p1), (14, .slice A0 p0.length c0), (15, zqz p1)] zql fun j => ?_)
  obtain ⟨y8, g9, hF⟩ := bind_some hF
  refine zC (T := Ty.u8) r0 hO.base rfl rfl g9 (by decide) fun a10 _ k11 m12 => ?_
  obtain rfl : _ = ([.int .u8 y8.toNat] : List Value) := k11
  refine zy rfl (m12.le hO.base).fst ?_
  refine zc hO [] [(4, .int .u8 (y8.toNat : Int)), (5, zqz (IntKind.i64.wrap (p1 + 1))), (6, zqz 0)] zql fun j => ?_
  refine zK ?_
  injection hF with hF
  subst hF
  exact hQ _ _ _ _ _ rfl hO hL ⟨rfl, rfl⟩
theorem zmB {τ : Hp} {v0 : Value} {p0 : (List UInt8)} {p1 : Int} (r0 : RdT Ty.u8 τ v0 p0) {rr : ByteArray × Int × Int} (hF : zcp p0 p1 = some rr) :
  Ctr Tryz.prog 75 #[v0, .int .i64 p1] τ [] (fun v τ' vs' => v = .tuple #[.string rr.1, .int .i64 rr.2.1, .int .i64 rr.2.2] ∧ vs' = []) := by
 obtain ⟨A0, c0, rfl, -⟩ := r0.form
 refine zM (args := [.slice A0 p0.length c0, .int .i64 p1]) hm Tryz.func75 s75 rfl fun w0 σ hO Q hQ => ?_
 unfold zcp at hF
 have hL := Hp.le.refl τ
 show wpn _ _ a75.body _ _ _
 unfold a75
 dsimp only
 refine zc hO [] [(0, .slice A0 p0.length c0), (1, zqz p1)] zqk fun j => ?_
 refine zd hO 2 [] [(0, .slice A0 p0.length c0), (13, .slice A0 p0.length c0), (14, zqz p1)] zql fun j => ?_
 obtain ⟨c3, h4, hF⟩ := bind_some hF
 refine zD hO (zmH r0 h4) rfl fun _ σ _ _ hO h5 h6 => ?_
 have hL := hL.trans h5
 have r0 := r0.le h5
 obtain ⟨rfl, rfl⟩ := h6
 have hO : Obs _ _ [] := hO
 refine zc hO [] [(0, .slice A0 p0.length c0), (7, .int .u8 c3.1), (8, zqz c3.2.1), (9, zqz c3.2.2)] zqm fun j => ?_
 refine ze (zc hO [] [(0, .slice A0 p0.length c0), (7, .int .u8 c3.1), (8, zqz c3.2.1), (9, zqz c3.2.2), (20, .bool (c3.2.2 == 0))] zqn fun j => ?_)
 refine zco (fun e' σ' => ∃ (x13 : Int) (τ' : Hp), agr [(0, .slice A0 p0.length c0), (7, .int .u8 c3.1), (8, zqz c3.2.1), (9, zqz x13)] e' ∧ Obs τ' σ' [] ∧ Hp.le τ τ' ∧ RdT Ty.u8 τ' (.slice A0 p0.length c0) p0 ∧ zhG p0 c3 x13 = some rr) ?_ ?_
 ·refine zbl ?_
  rcases zi hF with ⟨hb44, hF⟩ | ⟨hb44, hF⟩
  ·refine zk (congrArg Value.bool hb44) ?_
   refine zd hO 4 [] [(0, .slice A0 p0.length c0), (7, .int .u8 c3.1), (8, zqz c3.2.1), (21, .slice A0 p0.length c0), (22, zqz c3.2.1), (24, zqz (IntKind.i64.wrap c3.1))] zqo fun j => ?_
   obtain ⟨c45, h46, hF⟩ := bind_some hF
   refine zD hO (zj6 r0 h46) rfl fun _ σ _ _ hO h47 h48 => ?_
   have hL := hL.trans h47
   have r0 := r0.le h47
   obtain ⟨rfl, rfl⟩ := h48
   have hO : Obs _ _ [] := hO
   refine zc hO [] [(0, .slice A0 p0.length c0), (7, .int .u8 c3.1), (8, zqz c3.2.1), (9, zqz c45)] zqm fun j => ?_
   refine zg (zj ?_)
   exact ⟨c45, _, zqy zql, hO, hL, r0, hF⟩
  ·refine zl (congrArg Value.bool hb44) ?_
   refine zm (zg (zj ?_))
   exact ⟨c3.2.2, _, zqy zql, hO, hL, r0, hF⟩
 ·rintro e σ ⟨x13, _, hA, hO, hL, r12, hF⟩
  rw [← zL _ _ hA]
  unfold zhG at hF
  refine ze (zc hO [] [(0, .slice A0 p0.length c0), (7, .int .u8 c3.1), (8, zqz c3.2.1), (9, zqz x13), (27, .bool (x13 != 0))] zqn fun j => ?_)
  rcases zi hF with ⟨hb14, hF⟩ | ⟨hb14, hF⟩
  ·refine zk (congrArg Value.bool hb14) ?_
   refine ze (zc hO [] [(4, .string (⟨#[]⟩ : ByteArray)), (5, zqz 0), (6, zqz x13)] zql fun j => ?_)
   refine zu ?_
   injection hF with hF
   subst hF
   exact hQ _ _ _ _ _ rfl hO hL ⟨rfl, rfl⟩
  ·refine zl (congrArg Value.bool hb14) ?_
   refine zm (zc hO [] [(0, .slice A0 p0.length c0), (7, .int .u8 c3.1), (8, zqz c3.2.1), (10, .string (⟨#[]⟩ : ByteArray))] zqm fun j => ?_)
   refine ze (zc hO [] [(0, .slice A0 p0.length c0), (7, .int .u8 c3.1), (8, zqz c3.2.1), (10, .string (⟨#[]⟩ : ByteArray)), (11, zqz 0)] zqn fun j => ?_)
   refine zt (zZ (fun (n : Nat) e' σ' => ∃ (x25 : ByteArray) (x26 : Int) (τ' : Hp), agr [(0, .slice A0 p0.length c0), (7, .int .u8 c3.1), (8, zqz c3.2.1), (10, .string x25), (11, zqz x26)] e' ∧ Obs τ' σ' [] ∧ Hp.le τ τ' ∧ RdT Ty.u8 τ' (.slice A0 p0.length c0) p0 ∧ zgs p0 c3 n x25 x26 = some rr) big ⟨(⟨#[]⟩ : ByteArray), 0, _, zqy zqm, hO, hL, r12, hF⟩ ?_)
   clear hF hO hL
   rintro n35 e σ ⟨x25, x26, _, hA, hO, hL, r24, hF⟩
   rw [← zL _ _ hA]
   cases n35 with
   | zero => exact nomatch (show none = some rr from hF)
   | succ n35 =>
    replace hF : zfX (zgs p0 c3 n35) p0 c3 x25 x26 = some rr := hF
    unfold zfX at hF
    refine ze (zc hO [] [(0, .slice A0 p0.length c0), (7, .int .u8 c3.1), (8, zqz c3.2.1), (10, .string x25), (11, zqz x26), (32, .bool (decide (x26 < (IntKind.i64.wrap c3.1))))] zqo fun j => ?_)
    rcases zi hF with ⟨hb36, hF⟩ | ⟨hb36, hF⟩
    ·refine zk (congrArg Value.bool hb36) ?_
     refine zm (zt (zA (zd hO 9 [] [(0, .slice A0 p0.length c0), (7, .int .u8 c3.1), (8, zqz c3.2.1), (11, zqz x26), (35, .string x25), (36, .slice A0 p0.length c0), (39, zqz (IntKind.i64.wrap (c3.2.1 + x26))), (43, zqz (IntKind.i64.wrap ((IntKind.i64.wrap (c3.2.1 + x26)) + 1)))] zqq fun j => ?_)))
     obtain ⟨y37, g38, hF⟩ := bind_some hF
     refine zdQ (T := Ty.u8) r24 rfl rfl rfl g38 fun _ r39 => ?_
     obtain ⟨A40, c41, rfl, -⟩ := r39.form
     refine zkC (l := y37) (r39.le hO.base) rfl ?_
     obtain ⟨y42, g43, hF⟩ := bind_some hF
     refine zde (znx g43) ?_
     refine zc hO [] [(0, .slice A0 p0.length c0), (7, .int .u8 c3.1), (8, zqz c3.2.1), (10, .string y42), (11, zqz x26)] zqn fun j => ?_
     refine zg (zP (zj (zA (zc hO [] [(0, .slice A0 p0.length c0), (7, .int .u8 c3.1), (8, zqz c3.2.1), (10, .string y42), (11, zqz (IntKind.i64.wrap (x26 + 1)))] zqn fun j => ?_))))
     refine zg (zj ?_)
     exact ⟨n35, Nat.lt_succ_self _, y42, (IntKind.i64.wrap (x26 + 1)), _, zqy zqm, hO, hL, r24, hF⟩
    ·refine zl (congrArg Value.bool hb36) ?_
     refine zU (zY (z0 (zj (zc hO [] [(4, .string x25), (5, zqz (IntKind.i64.wrap (c3.2.1 + (IntKind.i64.wrap c3.1)))), (6, zqz 0)] zql fun j => ?_))))
     refine zK ?_
     injection hF with hF
     subst hF
     exact hQ _ _ _ _ _ rfl hO hL ⟨rfl, rfl⟩
theorem zhi {τ : Hp} {q0 : zI} {bm0 : Nat} {vm0_0 : Value} (rm0_0 : RdT Ty.u8 τ vm0_0 q0.B) {rr : ByteArray × zI} (hF : zdc q0 = some rr) :
  Ctr Tryz.prog 52 #[.pointer (some ⟨bm0, 0, none⟩)] τ [some (bm0, ⟨[vm0_0, .int .i64 q0.At, .bool q0.Failed], 96, 3, true⟩)] (fun v τ' vs' => ∃ (u0_0 : Value), v = .string rr.1 ∧ vs' = [some (bm0, ⟨[u0_0, .int .i64 rr.2.At, .bool rr.2.Failed], 96, 3, true⟩)] ∧ RdT Ty.u8 τ' u0_0 rr.2.B) := by
 obtain ⟨Am0_0, cm0_0, rfl, -⟩ := rm0_0.form
 refine zM (args := [.pointer (some ⟨bm0, 0, none⟩)]) hm Tryz.func52 s52 rfl fun w0 σ hO Q hQ => ?_
 unfold zdc at hF
 have hL := Hp.le.refl τ
 show wpn _ _ a52.body _ _ _
 unfold a52
 dsimp only
 refine zc hO [] [(0, zqA bm0)] zqj fun j => ?_
 refine zbr (zd hO 8 [0, 0] [(0, zqA bm0), (10, .slice Am0_0 q0.B.length cm0_0), (14, zqz q0.At)] (And.intro (And.intro rfl rfl) (And.intro (And.intro rfl rfl) zql)) fun j => ?_)
 obtain ⟨c2, h3, hF⟩ := bind_some hF
 refine zD hO (zmB rm0_0 h3) rfl fun _ σ _ _ hO h4 h5 => ?_
 have hL := hL.trans h4
 have rm0_0 := rm0_0.le h4
 obtain ⟨rfl, rfl⟩ := h5
 have hO : Obs _ _ [_] := hO
 refine zc hO [] [(0, zqA bm0), (3, .string c2.1), (4, zqz c2.2.1), (5, zqz c2.2.2)] zqm fun j => ?_
 refine ze (zc hO [0] [(0, zqA bm0), (3, .string c2.1), (4, zqz c2.2.1), (26, .bool (q0.Failed || (c2.2.2 != 0)))] (And.intro (And.intro rfl rfl) (And.intro (And.intro rfl rfl) (fun _ => zqy zql))) fun j => ?_)
 rcases zi hF with ⟨hb6, hF⟩ | ⟨hb6, hF⟩
 ·refine zk (congrArg Value.bool hb6) ?_
  refine ze (zd hO 3 [] [(0, zqA bm0), (29, .pointer (some ⟨bm0, 2, none⟩))] zqk fun j => ?_)
  refine zO hO (i := 0) rfl (off := 2) rfl rfl rfl rfl (Nat.le_of_ble_eq_true rfl) rfl fun σ hO => ?_
  have hO : Obs _ _ [_] := hO
  refine zh (ze (zc hO [] [(0, zqA bm0), (2, .string (⟨#[]⟩ : ByteArray))] zqk fun j => ?_))
  refine zu ?_
  injection hF with hF
  subst hF
  exact hQ _ _ _ _ _ rfl hO hL ⟨_, rfl, rfl, rm0_0⟩
 ·refine zl (congrArg Value.bool hb6) ?_
  refine zm (zd hO 4 [] [(0, zqA bm0), (3, .string c2.1), (31, zqz c2.2.1), (33, .pointer (some ⟨bm0, 1, none⟩))] zqm fun j => ?_)
  refine zO hO (i := 0) rfl (off := 1) rfl rfl rfl rfl (Nat.le_of_ble_eq_true rfl) rfl fun σ hO => ?_
  have hO : Obs _ _ [_] := hO
  refine zh (zc hO [] [(0, zqA bm0), (2, .string c2.1)] zqk fun j => ?_)
  refine zK ?_
  injection hF with hF
  subst hF
  exact hQ _ _ _ _ _ rfl hO hL ⟨_, rfl, rfl, rm0_0⟩
theorem zng {τ : Hp} {q0 : zI} {bm0 : Nat} {vm0_0 : Value} (rm0_0 : RdT Ty.u8 τ vm0_0 q0.B) {rr : Int × zI} (hF : zeG q0 = some rr) :
  Ctr Tryz.prog 76 #[.pointer (some ⟨bm0, 0, none⟩)] τ [some (bm0, ⟨[vm0_0, .int .i64 q0.At, .bool q0.Failed], 96, 3, true⟩)] (fun v τ' vs' => ∃ (u0_0 : Value), v = .int .u8 rr.1 ∧ vs' = [some (bm0, ⟨[u0_0, .int .i64 rr.2.At, .bool rr.2.Failed], 96, 3, true⟩)] ∧ RdT Ty.u8 τ' u0_0 rr.2.B) := by
 obtain ⟨Am0_0, cm0_0, rfl, -⟩ := rm0_0.form
 refine zM (args := [.pointer (some ⟨bm0, 0, none⟩)]) hm Tryz.func76 s76 rfl fun w0 σ hO Q hQ => ?_
 unfold zeG at hF
 have hL := Hp.le.refl τ
 show wpn _ _ a76.body _ _ _
 unfold a76
 dsimp only
 refine zc hO [] [(0, zqA bm0)] zqj fun j => ?_
 refine ze (zbr (zc hO [0, 0, 0] [(0, zqA bm0), (18, .bool (q0.Failed || (decide (q0.At ≥ (q0.B.length : Int)))))] (And.intro (And.intro rfl rfl) (And.intro (And.intro rfl rfl) (And.intro (And.intro rfl rfl) (And.intro (And.intro rfl rfl) (fun _ => zqy zqj))))) fun j => ?_))
 rcases zi hF with ⟨hb2, hF⟩ | ⟨hb2, hF⟩
 ·refine zk (congrArg Value.bool hb2) ?_
  refine ze (zd hO 3 [] [(0, zqA bm0), (21, .pointer (some ⟨bm0, 2, none⟩))] zqk fun j => ?_)
  refine zO hO (i := 0) rfl (off := 2) rfl rfl rfl rfl (Nat.le_of_ble_eq_true rfl) rfl fun σ hO => ?_
  have hO : Obs _ _ [_] := hO
  refine zh (ze (zc hO [] [(0, zqA bm0), (2, .int .u8 0)] zqk fun j => ?_))
  refine zu ?_
  injection hF with hF
  subst hF
  exact hQ _ _ _ _ _ rfl hO hL ⟨_, rfl, rfl, rm0_0⟩
 ·refine zl (congrArg Value.bool hb2) ?_
  refine zm (zd hO 7 [0] [(0, zqA bm0), (26, zqz (IntKind.i64.wrap (q0.At + 1))), (28, .pointer (some ⟨bm0, 1, none⟩))] (And.intro (And.intro rfl rfl) zql) fun j => ?_)
  refine zO hO (i := 0) rfl (off := 1) rfl rfl rfl rfl (Nat.le_of_ble_eq_true rfl) rfl fun σ hO => ?_
  have hO : Obs _ _ [_] := hO
  refine zh (zbr (zd hO 9 [0, 0] [(0, zqA bm0), (32, .slice Am0_0 q0.B.length cm0_0), (37, zqz (IntKind.i64.wrap ((IntKind.i64.wrap (q0.At + 1)) - 1)))] (And.intro (And.intro rfl rfl) (And.intro (And.intro rfl rfl) zql)) fun j => ?_))
  obtain ⟨y3, g4, hF⟩ := bind_some hF
  refine zC (T := Ty.u8) rm0_0 hO.base rfl rfl g4 (by decide) fun a5 _ k6 m7 => ?_
  obtain rfl : _ = ([.int .u8 y3.toNat] : List Value) := k6
  refine zy rfl (m7.le hO.base).fst ?_
  refine zc hO [] [(0, zqA bm0), (2, .int .u8 (y3.toNat : Int))] zqk fun j => ?_
  refine zK ?_
  injection hF with hF
  subst hF
  exact hQ _ _ _ _ _ rfl hO hL ⟨_, rfl, rfl, rm0_0⟩
theorem zoW {τ : Hp} {q0 : zI} {bm0 : Nat} {vm0_0 : Value} (rm0_0 : RdT Ty.u8 τ vm0_0 q0.B) {rr : zG × zI} (hF : zeY q0 = some rr) :
  Ctr Tryz.prog 53 #[.pointer (some ⟨bm0, 0, none⟩)] τ [some (bm0, ⟨[vm0_0, .int .i64 q0.At, .bool q0.Failed], 96, 3, true⟩)] (fun v τ' vs' => ∃ (v0_5 : Value) (u0_0 : Value), v = .agg #[.string rr.1.Name, .int .u8 rr.1.Type_.Kind.toNat, .int .i64 rr.1.Type_.N, .string rr.1.Type_.Name, .int .i64 rr.1.Words, v0_5] ∧ vs' = [some (bm0, ⟨[u0_0, .int .i64 rr.2.At, .bool rr.2.Failed], 96, 3, true⟩)] ∧ RdT Ty.str τ' v0_5 rr.1.Fields ∧ RdT Ty.u8 τ' u0_0 rr.2.B) := by
 obtain ⟨Am0_0, cm0_0, rfl, -⟩ := rm0_0.form
 refine zM (args := [.pointer (some ⟨bm0, 0, none⟩)]) hm Tryz.func53 s53 rfl fun w0 σ hO Q hQ => ?_
 unfold zeY at hF
 have hL := Hp.le.refl τ
 show wpn _ _ a53.body _ _ _
 unfold a53
 dsimp only
 refine zbq hO fun b2 σ hO => ?_
 have hO : Obs _ _ [_, _] := hO
 refine zh (zd hO 1 [] [(0, zqA bm0), (2, zqA b2), (5, zqA bm0)] zql fun j => ?_)
 obtain ⟨c3, h4, hF⟩ := bind_some hF
 have hO := hO.sel [1, 0] (by decide)
 refine zX (hs := [_]) (vs := [_]) hO (zhi (q0 := (⟨q0.B, q0.At, q0.Failed⟩ : zI)) rm0_0 h4) rfl fun _ σ _ _ hO h5 h6 => ?_
 have hL := hL.trans h5
 obtain ⟨v7, rfl, rfl, r10⟩ := h6
 obtain ⟨A8, c9, rfl, -⟩ := r10.form
 have hO : Obs _ _ [_, _] := hO
 refine zd hO 1 [] [(0, zqA bm0), (2, zqA b2), (6, .string c3.1), (7, zqA bm0)] zqm fun j => ?_
 obtain ⟨c11, h12, hF⟩ := bind_some hF
 refine zX (hs := [_]) (vs := [_]) hO (zng (q0 := (⟨c3.2.B, c3.2.At, c3.2.Failed⟩ : zI)) r10 h12) rfl fun _ σ _ _ hO h13 h14 => ?_
 have hL := hL.trans h13
 obtain ⟨v15, rfl, rfl, r18⟩ := h14
 obtain ⟨A16, c17, rfl, -⟩ := r18.form
 have hO : Obs _ _ [_, _] := hO
 refine zd hO 2 [] [(0, zqA bm0), (2, zqA b2), (10, .agg #[(.string c3.1), (.int .u8 c11.1), (.int .i64 0), (.string (⟨#[]⟩ : ByteArray)), (.int .i64 1), (.slice none 0 0)])] zql fun j => ?_
 refine zbq hO fun b19 σ hO => ?_
 have hO : Obs _ _ [_, _, _] := hO
 refine zO hO (i := 2) rfl (off := 0) rfl rfl rfl rfl (Nat.le_of_ble_eq_true rfl) rfl fun σ hO => ?_
 have hO : Obs _ _ [_, _, _] := hO
 refine zh (ze (zc hO [2] [(0, zqA bm0), (2, zqA b2), (3, zqA b19), (13, .int .u8 c11.1)] (And.intro (And.intro rfl rfl) zqm) fun j => ?_))
 refine zt (zc hO [] [(0, zqA bm0), (2, zqA b2), (3, zqA b19), (13, .int .u8 c11.1), (14, .bool (c11.1 == 3))] zqn fun j => ?_)
 refine zbl ?_
 rcases zi hF with ⟨hb20, hF⟩ | ⟨hb20, hF⟩
 ·refine zk (congrArg Value.bool hb20) ?_
  refine ze (zd hO 1 [] [(0, zqA bm0), (2, zqA b2), (3, zqA b19), (16, zqA bm0)] zqm fun j => ?_)
  obtain ⟨c21, h22, hF⟩ := bind_some hF
  have hO := hO.sel [0, 2, 1] (by decide)
  refine zX (hs := [_, _]) (vs := [_]) hO (zcv (q0 := (⟨c11.2.B, c11.2.At, c11.2.Failed⟩ : zI)) r18 h22) rfl fun _ σ _ _ hO h23 h24 => ?_
  have hL := hL.trans h23
  obtain ⟨v25, rfl, rfl, r28⟩ := h24
  obtain ⟨A26, c27, rfl, -⟩ := r28.form
  have hO : Obs _ _ [_, _, _] := hO
  refine zd hO 2 [] [(0, zqA bm0), (2, zqA b2), (3, zqA b19), (17, zqz c21.1), (19, .pointer (some ⟨b19, 2, none⟩))] zqn fun j => ?_
  refine zO hO (i := 1) rfl (off := 2) rfl rfl rfl rfl (Nat.le_of_ble_eq_true rfl) rfl fun σ hO => ?_
  have hO : Obs _ _ [_, _, _] := hO
  refine zh (zd hO 4 [1] [(0, zqA bm0), (2, zqA b2), (3, zqA b19), (22, zqz c21.1), (23, .pointer (some ⟨b19, 4, none⟩))] (And.intro (And.intro rfl rfl) zqn) fun j => ?_)
  refine zO hO (i := 1) rfl (off := 4) rfl rfl rfl rfl (Nat.le_of_ble_eq_true rfl) rfl fun σ hO => ?_
  have hO : Obs _ _ [_, _, _] := hO
  refine zh (zg (zP (zj (zd hO 1 [1] [(0, zqA bm0), (2, zqA b2), (53, .agg #[(.string c3.1), (.int .u8 c11.1), (.int .i64 c21.1), (.string (⟨#[]⟩ : ByteArray)), (.int .i64 c21.1), (.slice none 0 0)])] (And.intro (And.intro rfl rfl) zql) fun j => ?_))))
  refine zO hO (i := 0) rfl (off := 0) rfl rfl rfl rfl (Nat.le_of_ble_eq_true rfl) rfl fun σ hO => ?_
  have hO : Obs _ _ [_, _, _] := hO
  refine zh (zK ?_)
  obtain ⟨z29, hz29, hF⟩ := bind_some hF
  injection hF with hF
  subst hF
  have hV0 := hO.val (i := 0) rfl (off := 0) (agg := true) (n := 6) rfl
  have hO := hO.sel [2] (by decide)
  exact hQ _ _ _ _ _ (zce rfl (hV0) rfl) hO hL ⟨_, _, (by first | rfl | (simp only [zbE hz29]; done) | (simp only [← zbE hz29]; try rfl)), (by first | rfl | (simp only [zbE hz29]; done) | (simp only [← zbE hz29]; try rfl)), (RdT.nil _ _), r28⟩
 ·refine zl (congrArg Value.bool hb20) ?_
  refine ze (zc hO [] [(0, zqA bm0), (2, zqA b2), (3, zqA b19), (24, .bool (c11.1 == 4))] zqm fun j => ?_)
  rcases zi hF with ⟨hb30, hF⟩ | ⟨hb30, hF⟩
  ·refine zk (congrArg Value.bool hb30) ?_
   refine ze (zd hO 1 [] [(0, zqA bm0), (2, zqA b2), (3, zqA b19), (26, zqA bm0)] zqm fun j => ?_)
   obtain ⟨c31, h32, hF⟩ := bind_some hF
   have hO := hO.sel [0, 2, 1] (by decide)
   refine zX (hs := [_, _]) (vs := [_]) hO (zhi (q0 := (⟨c11.2.B, c11.2.At, c11.2.Failed⟩ : zI)) r18 h32) rfl fun _ σ _ _ hO h33 h34 => ?_
   have hL := hL.trans h33
   obtain ⟨v35, rfl, rfl, r38⟩ := h34
   obtain ⟨A36, c37, rfl, -⟩ := r38.form
   have hO : Obs _ _ [_, _, _] := hO
   refine zd hO 2 [] [(0, zqA bm0), (2, zqA b2), (3, zqA b19), (27, .string c31.1), (29, .pointer (some ⟨b19, 3, none⟩))] zqn fun j => ?_
   refine zO hO (i := 1) rfl (off := 3) rfl rfl rfl rfl (Nat.le_of_ble_eq_true rfl) rfl fun σ hO => ?_
   have hO : Obs _ _ [_, _, _] := hO
   refine zh (ze (zd hO 1 [] [(0, zqA bm0), (2, zqA b2), (3, zqA b19), (30, zqA bm0)] zqm fun j => ?_))
   obtain ⟨c39, h40, hF⟩ := bind_some hF
   refine zX (hs := [_, _]) (vs := [_]) hO (zcv (q0 := (⟨c31.2.B, c31.2.At, c31.2.Failed⟩ : zI)) r38 h40) rfl fun _ σ _ _ hO h41 h42 => ?_
   have hL := hL.trans h41
   obtain ⟨v43, rfl, rfl, r46⟩ := h42
   obtain ⟨A44, c45, rfl, -⟩ := r46.form
   have hO : Obs _ _ [_, _, _] := hO
   refine zd hO 1 [] [(0, zqA bm0), (2, zqA b2), (3, zqA b19), (31, zqz c39.1), (32, .pointer (some ⟨b19, 4, none⟩))] zqn fun j => ?_
   refine zO hO (i := 1) rfl (off := 4) rfl rfl rfl rfl (Nat.le_of_ble_eq_true rfl) rfl fun σ hO => ?_
   have hO : Obs _ _ [_, _, _] := hO
   refine zh (ze (zc hO [] [(0, zqA bm0), (2, zqA b2), (3, zqA b19), (4, zqz 0)] zqm fun j => ?_))
   refine zt ?_
   have hO := hO.no
   have hO : Obs _ _ [_, _, _, _] := hO
   have hO := hO.sel [2, 0, 1, 3] (by decide)
   refine zZ (fun (n : Nat) e' σ' => ∃ (A68 : Option Addr) (c69 : Nat) (x70 : List UInt8) (x72 : Int) (x73 : Bool) (A74 : Option Addr) (c75 : Nat) (o76 : Ob) (x77 : List ByteArray) (x79 : Int) (τ' : Hp), agr [(0, zqA bm0), (2, zqA b2), (3, zqA b19), (4, zqz x79)] e' ∧ Obs τ' σ' [some (bm0, ⟨[.slice A68 x70.length c69, .int .i64 x72, .bool x73], 96, 3, true⟩), some (b2, ⟨[.string (⟨#[]⟩ : ByteArray), .int .u8 0, .int .i64 0, .string (⟨#[]⟩ : ByteArray), .int .i64 0, .slice none 0 0], 53, 6, true⟩), some (b19, ⟨[.string c3.1, .int .u8 c11.1, .int .i64 0, .string c31.1, .int .i64 c39.1, .slice A74 x77.length c75], 53, 6, true⟩), o76] ∧ Hp.le τ τ' ∧ RdT Ty.u8 τ' (.slice A68 x70.length c69) x70 ∧ zr Ty.str 9 τ' (.slice A74 x77.length c75) x77 o76 ∧ zfY c3 c11 c31 c39 n x70 x72 x73 x77 x79 = some rr) big ⟨A44, c45, c39.2.B, c39.2.At, c39.2.Failed, none, 0, none, [], 0, _, zqy zql, hO, hL, r46, zr.nil _ _ _, hF⟩ ?_
   clear hF hO hL
   rintro n101 e σ ⟨A68, c69, x70, x72, x73, A74, c75, o76, x77, x79, _, hA, hO, hL, r71, w78, hF⟩
   rw [← zL _ _ hA]
   cases n101 with
   | zero => exact nomatch (show none = some rr from hF)
   | succ n101 =>
    replace hF : zi3 (zfY c3 c11 c31 c39 n101) c3 c11 c31 c39 x70 x72 x73 x77 x79 = some rr := hF
    unfold zi3 at hF
    refine ze (zc hO [2, 0] [(0, zqA bm0), (2, zqA b2), (3, zqA b19), (4, zqz x79), (43, .bool ((decide (x79 < c39.1)) && (!x73)))] (And.intro (And.intro rfl rfl) (And.intro (And.intro rfl rfl) (And.intro (And.intro rfl rfl) (fun _ => zqy zqm)))) fun j => ?_)
    rcases zi hF with ⟨hb102, hF⟩ | ⟨hb102, hF⟩
    ·refine zk (congrArg Value.bool hb102) ?_
     refine zm (zt (zfw (zd hO 3 [2] [(0, zqA bm0), (2, zqA b2), (3, zqA b19), (4, zqz x79), (46, .pointer (some ⟨b19, 5, none⟩)), (47, .slice A74 x77.length c75), (48, zqA bm0)] (And.intro (And.intro rfl rfl) zqp) fun j => ?_)))
     refine zbz ?_
     obtain ⟨c103, h104, hF⟩ := bind_some hF
     have hO := hO.sel [1, 2, 3, 0] (by decide)
     refine zX (hs := [_, _, _]) (vs := [_]) hO (zhi (q0 := (⟨x70, x72, x73⟩ : zI)) r71 h104) rfl fun _ σ _ _ hO h105 h106 => ?_
     have hL := hL.trans h105
     have w78 := w78.le h105
     obtain ⟨v107, rfl, rfl, r110⟩ := h106
     obtain ⟨A108, c109, rfl, -⟩ := r110.form
     have hO : Obs _ _ [_, _, _, _] := hO
     refine zh (zbx ⟨(zbi rfl (hO.val (i := 1) (off := 5) (agg := false) (n := 1) rfl rfl) rfl), trivial⟩ ?_)
     refine zbz (zbX (T := Ty.str) (l := ([c103.1] : List ByteArray)) (cs := [.string c103.1]) hO rfl ⟨[.string c103.1], _, rfl, rfl, rfl⟩ rfl (by decide) fun _ σ o113 w114 hO => ?_)
     obtain ⟨A111, c112, rfl, -⟩ := w114.form
     have hO : Obs _ _ [_, _, _, _, _] := hO
     refine zh (zbx ⟨(zbi rfl (hO.val (i := 1) (off := 5) (agg := false) (n := 1) rfl rfl) rfl), trivial⟩ ?_)
     obtain ⟨_, hr119, hF⟩ := bind_some hF
     refine zjt (T := Ty.str) (Ty.sc_flat _ _) hO w78 (i := 2) rfl rfl rfl (w114.rd hO (i := 4) rfl) hr119 (by decide) fun _ σ o117 w118 hO => ?_
     obtain ⟨A115, c116, rfl, -⟩ := w118.form
     have hO : Obs _ _ [_, _, _, _, _] := hO
     refine zd hO 1 [] [(0, zqA bm0), (2, zqA b2), (3, zqA b19), (4, zqz x79), (51, .slice A115 (x77 ++ ([c103.1] : List ByteArray)).length c116), (52, .pointer (some ⟨b19, 5, none⟩))] zqo fun j => ?_
     refine zO hO (i := 1) rfl (off := 5) rfl rfl rfl rfl (Nat.le_of_ble_eq_true rfl) rfl fun σ hO => ?_
     have hO : Obs _ _ [_, _, _, _, _] := hO
     refine zh (zg (zP (zj (zA (zc hO [] [(0, zqA bm0), (2, zqA b2), (3, zqA b19), (4, zqz (IntKind.i64.wrap (x79 + 1)))] zqm fun j => ?_)))))
     refine zg (zj ?_)
     have hO := hO.sel [3, 0, 1, 2] (by decide)
     exact ⟨n101, Nat.lt_succ_self _, A108, c109, c103.2.B, c103.2.At, c103.2.Failed, A115, c116, o117, (x77 ++ ([c103.1] : List ByteArray)), (IntKind.i64.wrap (x79 + 1)), _, zqy zql, hO, hL, r110, w118, hF⟩
    ·refine zl (congrArg Value.bool hb102) ?_
     refine zU (zY (z0 (zj (zg (zP (zj ?_))))))
     refine zd hO 1 [2] [(0, zqA bm0), (2, zqA b2), (53, .agg #[(.string c3.1), (.int .u8 c11.1), (.int .i64 0), (.string c31.1), (.int .i64 c39.1), (.slice A74 x77.length c75)])] (And.intro (And.intro rfl rfl) zql) fun j => ?_
     refine zO hO (i := 1) rfl (off := 0) rfl rfl rfl rfl (Nat.le_of_ble_eq_true rfl) rfl fun σ hO => ?_
     have hO : Obs _ _ [_, _, _, _] := hO
     refine zh (zK ?_)
     obtain ⟨_, h121, r120, hO⟩ := w78.share hO (i := 3) rfl
     have hL := hL.trans h121
     have r71 := r71.le h121
     have hO : Obs _ _ [_, _, _, _] := hO
     obtain ⟨z122, hz122, hF⟩ := bind_some hF
     injection hF with hF
     subst hF
     have hV0 := hO.val (i := 1) rfl (off := 0) (agg := true) (n := 6) rfl
     have hO := hO.sel [0] (by decide)
     exact hQ _ _ _ _ _ (zce rfl (hV0) rfl) hO hL ⟨_, _, (by first | rfl | (simp only [zbE hz122]; done) | (simp only [← zbE hz122]; try rfl)), (by first | rfl | (simp only [zbE hz122]; done) | (simp only [← zbE hz122]; try rfl)), r120, r71⟩
  ·refine zl (congrArg Value.bool hb30) ?_
   refine zm (zg (zP (zj (zd hO 1 [2] [(0, zqA bm0), (2, zqA b2), (53, .agg #[(.string c3.1), (.int .u8 c11.1), (.int .i64 0), (.string (⟨#[]⟩ : ByteArray)), (.int .i64 1), (.slice none 0 0)])] (And.intro (And.intro rfl rfl) zql) fun j => ?_))))
   refine zO hO (i := 0) rfl (off := 0) rfl rfl rfl rfl (Nat.le_of_ble_eq_true rfl) rfl fun σ hO => ?_
   have hO : Obs _ _ [_, _, _] := hO
   refine zh (zK ?_)
   obtain ⟨z123, hz123, hF⟩ := bind_some hF
   injection hF with hF
   subst hF
   have hV0 := hO.val (i := 0) rfl (off := 0) (agg := true) (n := 6) rfl
   have hO := hO.sel [1] (by decide)
   exact hQ _ _ _ _ _ (zce rfl (hV0) rfl) hO hL ⟨_, _, (by first | rfl | (simp only [zbE hz123]; done) | (simp only [← zbE hz123]; try rfl)), (by first | rfl | (simp only [zbE hz123]; done) | (simp only [← zbE hz123]; try rfl)), (RdT.nil _ _), r18⟩
theorem ziP {τ : Hp} {v0 : Value} {p0 : (List UInt8)} {p1 : Int} (r0 : RdT Ty.u8 τ v0 p0) {rr : Int × Int × Bool} (hF : zc4 p0 p1 = some rr) :
  Ctr Tryz.prog 95 #[v0, .int .i64 p1] τ [] (fun v τ' vs' => v = .tuple #[.int .i64 rr.1, .int .i64 rr.2.1, .bool rr.2.2] ∧ vs' = []) := by
 obtain ⟨A0, c0, rfl, -⟩ := r0.form
 refine zM (args := [.slice A0 p0.length c0, .int .i64 p1]) hm Tryz.func95 s95 rfl fun w0 σ hO Q hQ => ?_
 unfold zc4 at hF
 have hL := Hp.le.refl τ
 show wpn _ _ a95.body _ _ _
 unfold a95
 dsimp only
 refine zc hO [] [(0, .slice A0 p0.length c0), (1, zqz p1)] zqk fun j => ?_
 refine zd hO 2 [] [(11, .slice A0 p0.length c0), (12, zqz p1)] zqk fun j => ?_
 obtain ⟨c3, h4, hF⟩ := bind_some hF
 refine zD hO (zh4 r0 h4) rfl fun _ σ _ _ hO h5 h6 => ?_
 have hL := hL.trans h5
 have r0 := r0.le h5
 obtain ⟨rfl, rfl⟩ := h6
 have hO : Obs _ _ [] := hO
 refine zc hO [] [(7, .int .u64 c3.1), (8, zqz c3.2.1), (9, zqz c3.2.2)] zql fun j => ?_
 refine ze (zc hO [] [(7, .int .u64 c3.1), (8, zqz c3.2.1), (22, .bool ((c3.2.2 != 0) || (decide (c3.1 > 16777216))))] (And.intro (And.intro rfl rfl) (fun _ => zqy zqk)) fun j => ?_)
 rcases zi hF with ⟨hb7, hF⟩ | ⟨hb7, hF⟩
 ·refine zk (congrArg Value.bool hb7) ?_
  refine ze (zc hO [] [(4, zqz 0), (5, zqz 0), (6, .bool false)] zql fun j => ?_)
  refine zu ?_
  injection hF with hF
  subst hF
  exact hQ _ _ _ _ _ rfl hO hL ⟨rfl, rfl⟩
 ·refine zl (congrArg Value.bool hb7) ?_
  refine zm (zc hO [] [(4, zqz (IntKind.i64.wrap c3.1)), (5, zqz c3.2.1), (6, .bool true)] zql fun j => ?_)
  refine zK ?_
  injection hF with hF
  subst hF
  exact hQ _ _ _ _ _ rfl hO hL ⟨rfl, rfl⟩
theorem zqb {τ : Hp} {v0 : Value} {p0 : (List UInt8)} {p1 : Int} (r0 : RdT Ty.u8 τ v0 p0) {rr : Int × Int × Int} (hF : zei p0 p1 = some rr) :
  Ctr Tryz.prog 104 #[v0, .int .i64 p1] τ [] (fun v τ' vs' => v = .tuple #[.int .i64 rr.1, .int .i64 rr.2.1, .int .i64 rr.2.2] ∧ vs' = []) := by
 obtain ⟨A0, c0, rfl, -⟩ := r0.form
 refine zM (args := [.slice A0 p0.length c0, .int .i64 p1]) hm Tryz.func104 zmU rfl fun w0 σ hO Q hQ => ?_
 unfold zei at hF
 have hL := Hp.le.refl τ
 show wpn _ _ zh7.body _ _ _
 unfold zh7
 dsimp only
 refine zc hO [] [(0, .slice A0 p0.length c0), (1, zqz p1)] zqk fun j => ?_
 refine ze (zc hO [] [(0, .slice A0 p0.length c0), (1, zqz p1), (16, .bool ((decide (p1 < 0)) || (decide (p1 > (p0.length : Int)))))] (And.intro (And.intro rfl rfl) (fun _ => zqy zqk)) fun j => ?_)
 rcases zi hF with ⟨hb3, hF⟩ | ⟨hb3, hF⟩
 ·refine zk (congrArg Value.bool hb3) ?_
  refine ze (zc hO [] [(4, zqz 0), (5, zqz 0), (6, zqz 1)] zql fun j => ?_)
  refine zu ?_
  injection hF with hF
  subst hF
  exact hQ _ _ _ _ _ rfl hO hL ⟨rfl, rfl⟩
 ·refine zl (congrArg Value.bool hb3) ?_
  refine zm (zd hO 2 [] [(0, .slice A0 p0.length c0), (1, zqz p1), (17, .slice A0 p0.length c0), (18, zqz p1)] zqm fun j => ?_)
  obtain ⟨c4, h5, hF⟩ := bind_some hF
  refine zD hO (zkA r0 h5) rfl fun _ σ _ _ hO h6 h7 => ?_
  have hL := hL.trans h6
  have r0 := r0.le h6
  obtain ⟨rfl, rfl⟩ := h7
  have hO : Obs _ _ [] := hO
  refine zc hO [] [(0, .slice A0 p0.length c0), (1, zqz p1), (7, zqz c4)] zql fun j => ?_
  refine ze (zc hO [] [(0, .slice A0 p0.length c0), (1, zqz p1), (7, zqz c4), (21, .bool (c4 == 0))] zqm fun j => ?_)
  rcases zi hF with ⟨hb8, hF⟩ | ⟨hb8, hF⟩
  ·refine zk (congrArg Value.bool hb8) ?_
   refine ze (zc hO [] [(4, zqz 0), (5, zqz 0), (6, zqz 5)] zql fun j => ?_)
   refine zu ?_
   injection hF with hF
   subst hF
   exact hQ _ _ _ _ _ rfl hO hL ⟨rfl, rfl⟩
  ·refine zl (congrArg Value.bool hb8) ?_
   refine zm (zd hO 3 [] [(0, .slice A0 p0.length c0), (1, zqz p1), (7, zqz c4), (22, .slice A0 p0.length c0), (23, zqz p1), (24, zqz c4)] zqo fun j => ?_)
   obtain ⟨c9, h10, hF⟩ := bind_some hF
   refine zD hO (zl1 r0 h10) rfl fun _ σ _ _ hO h11 h12 => ?_
   have hL := hL.trans h11
   have r0 := r0.le h11
   obtain ⟨rfl, rfl⟩ := h12
   have hO : Obs _ _ [] := hO
   refine zc hO [] [(0, .slice A0 p0.length c0), (1, zqz p1), (7, zqz c4), (8, .int .u64 c9)] zqm fun j => ?_
   refine ze (zd hO 5 [] [(0, .slice A0 p0.length c0), (1, zqz p1), (7, zqz c4), (8, .int .u64 c9), (26, .slice A0 p0.length c0), (30, zqz (IntKind.i64.wrap ((IntKind.i64.wrap (p1 + c4)) - 1)))] zqo fun j => ?_)
   obtain ⟨y13, g14, hF⟩ := bind_some hF
   refine zC (T := Ty.u8) r0 hO.base rfl rfl g14 (by decide) fun a15 _ k16 m17 => ?_
   obtain rfl : _ = ([.int .u8 y13.toNat] : List Value) := k16
   refine zy rfl (m17.le hO.base).fst ?_
   refine zc hO [] [(0, .slice A0 p0.length c0), (1, zqz p1), (7, zqz c4), (8, .int .u64 c9), (37, .bool ((decide ((y13.toNat : Int) ≥ 64)) && (decide (c4 < 10))))] (And.intro (And.intro rfl rfl) (fun _ => zqy zqm)) fun j => ?_
   refine zco (fun e' σ' => ∃ (x22 : Int) (τ' : Hp), agr [(0, .slice A0 p0.length c0), (1, zqz p1), (7, zqz c4), (8, .int .u64 x22)] e' ∧ Obs τ' σ' [] ∧ Hp.le τ τ' ∧ RdT Ty.u8 τ' (.slice A0 p0.length c0) p0 ∧ zeh p0 p1 c4 x22 = some rr) ?_ ?_
   ·refine zbl ?_
    rcases zi hF with ⟨hb39, hF⟩ | ⟨hb39, hF⟩
    ·refine zk (congrArg Value.bool hb39) ?_
     refine zd hO 4 [] [(0, .slice A0 p0.length c0), (1, zqz p1), (7, zqz c4), (38, .int .u64 c9), (41, .int .u64 (IntKind.u64.wrap (IntKind.i64.wrap (7 * c4))))] zqn fun j => ?_
     obtain ⟨y40, g41, hF⟩ := bind_some hF
     refine zde (zen g41) ?_
     refine zc hO [] [(0, .slice A0 p0.length c0), (1, zqz p1), (7, zqz c4), (8, .int .u64 (IntKind.u64.wrap (c9 - y40)))] zqm fun j => ?_
     refine zg (zj ?_)
     exact ⟨(IntKind.u64.wrap (c9 - y40)), _, zqy zql, hO, hL, r0, hF⟩
    ·refine zl (congrArg Value.bool hb39) ?_
     refine zm (zg (zj ?_))
     exact ⟨c9, _, zqy zql, hO, hL, r0, hF⟩
   ·rintro e σ ⟨x22, _, hA, hO, hL, r21, hF⟩
    rw [← zL _ _ hA]
    unfold zeh at hF
    refine ze (zd hO 4 [] [(1, zqz p1), (7, zqz c4), (8, .int .u64 x22), (44, .slice A0 p0.length c0), (45, zqz p1), (47, zqz (IntKind.i64.wrap x22))] zqo fun j => ?_)
    obtain ⟨c23, h24, hF⟩ := bind_some hF
    refine zD hO (zp8 (RdT.nil Ty.u8 _) h24) rfl fun _ σ _ _ hO h25 h26 => ?_
    have hL := hL.trans h25
    have r21 := r21.le h25
    obtain ⟨v27, o30, rfl, rfl, w31⟩ := h26
    obtain ⟨A28, c29, rfl, -⟩ := w31.form
    have hO : Obs _ _ [_] := hO
    obtain ⟨_, h33, r32, hO⟩ := w31.share hO (i := 0) rfl
    have hL := hL.trans h33
    have r21 := r21.le h33
    have hO : Obs _ _ [_] := hO
    obtain ⟨c34, h35, hF⟩ := bind_some hF
    refine zD hO (zl6 r21 r32 h35) rfl fun _ σ _ _ hO h36 h37 => ?_
    have hL := hL.trans h36
    have r21 := r21.le h36
    have r32 := r32.le h36
    obtain ⟨rfl, rfl⟩ := h37
    have hO : Obs _ _ [_] := hO
    refine zc hO [] [(1, zqz p1), (7, zqz c4), (8, .int .u64 x22), (50, .bool (!c34))] zqm fun j => ?_
    rcases zi hF with ⟨hb38, hF⟩ | ⟨hb38, hF⟩
    ·refine zk (congrArg Value.bool hb38) ?_
     refine ze (zc hO [] [(4, zqz 0), (5, zqz 0), (6, zqz 5)] zql fun j => ?_)
     refine zu ?_
     injection hF with hF
     subst hF
     have hO := hO.sel [] (by decide)
     exact hQ _ _ _ _ _ rfl hO hL ⟨rfl, rfl⟩
    ·refine zl (congrArg Value.bool hb38) ?_
     refine zm (zc hO [] [(4, zqz (IntKind.i64.wrap x22)), (5, zqz (IntKind.i64.wrap (p1 + c4))), (6, zqz 0)] zql fun j => ?_)
     refine zK ?_
     injection hF with hF
     subst hF
     have hO := hO.sel [] (by decide)
     exact hQ _ _ _ _ _ rfl hO hL ⟨rfl, rfl⟩
theorem zmr {τ : Hp} {v0 : Value} {p0 : (List UInt8)} {p1 : Int} (r0 : RdT Ty.u8 τ v0 p0) {rr : (List zE) × Int × Int} (hF : zgM p0 p1 = some rr) :
  Ctr Tryz.prog 96 #[v0, .int .i64 p1] τ [] (fun v τ' vs' => ∃ (v0 : Value), v = .tuple #[v0, .int .i64 rr.2.1, .int .i64 rr.2.2] ∧ vs' = [] ∧ RdT zbs τ' v0 rr.1) := by
 obtain ⟨A0, c0, rfl, -⟩ := r0.form
 refine zM (args := [.slice A0 p0.length c0, .int .i64 p1]) hm Tryz.func96 s96 rfl fun w0 σ hO Q hQ => ?_
 unfold zgM at hF
 have hL := Hp.le.refl τ
 show wpn _ _ a96.body _ _ _
 unfold a96
 dsimp only
 refine zc hO [] [(0, .slice A0 p0.length c0), (1, zqz p1)] zqk fun j => ?_
 refine ze (zc hO [] [(0, .slice A0 p0.length c0), (1, zqz p1), (20, .bool ((decide (p1 < 0)) || (decide (p1 > (p0.length : Int)))))] (And.intro (And.intro rfl rfl) (fun _ => zqy zqk)) fun j => ?_)
 rcases zi hF with ⟨hb3, hF⟩ | ⟨hb3, hF⟩
 ·refine zk (congrArg Value.bool hb3) ?_
  refine ze (zc hO [] [(4, .slice none 0 0), (5, zqz 0), (6, zqz 1)] zql fun j => ?_)
  refine zu ?_
  injection hF with hF
  subst hF
  exact hQ _ _ _ _ _ rfl hO hL ⟨_, rfl, rfl, (RdT.nil _ _)⟩
 ·refine zl (congrArg Value.bool hb3) ?_
  refine zm (zd hO 2 [] [(0, .slice A0 p0.length c0), (22, .slice A0 p0.length c0), (23, zqz p1)] zql fun j => ?_)
  obtain ⟨c4, h5, hF⟩ := bind_some hF
  refine zD hO (zh4 r0 h5) rfl fun _ σ _ _ hO h6 h7 => ?_
  have hL := hL.trans h6
  have r0 := r0.le h6
  obtain ⟨rfl, rfl⟩ := h7
  have hO : Obs _ _ [] := hO
  refine zc hO [] [(0, .slice A0 p0.length c0), (7, .int .u64 c4.1), (8, zqz c4.2.1), (9, zqz c4.2.2)] zqm fun j => ?_
  refine ze (zc hO [] [(0, .slice A0 p0.length c0), (7, .int .u64 c4.1), (8, zqz c4.2.1), (33, .bool ((c4.2.2 != 0) || (decide (c4.1 > 16))))] (And.intro (And.intro rfl rfl) (fun _ => zqy zql)) fun j => ?_)
  rcases zi hF with ⟨hb8, hF⟩ | ⟨hb8, hF⟩
  ·refine zk (congrArg Value.bool hb8) ?_
   refine ze (zc hO [] [(4, .slice none 0 0), (5, zqz 0), (6, zqz 5)] zql fun j => ?_)
   refine zu ?_
   injection hF with hF
   subst hF
   exact hQ _ _ _ _ _ rfl hO hL ⟨_, rfl, rfl, (RdT.nil _ _)⟩
  ·refine zl (congrArg Value.bool hb8) ?_
   refine zm (zc hO [] [(0, .slice A0 p0.length c0), (7, .int .u64 c4.1), (8, zqz c4.2.1), (10, .slice none 0 0)] zqm fun j => ?_)
   refine ze (zc hO [] [(0, .slice A0 p0.length c0), (7, .int .u64 c4.1), (8, zqz c4.2.1), (10, .slice none 0 0), (11, zqz 0)] zqn fun j => ?_)
   refine zt ?_
   have hO := hO.no
   have hO : Obs _ _ [_] := hO
   refine zZ (fun (n : Nat) e' σ' => ∃ (x42 : Int) (A43 : Option Addr) (c44 : Nat) (o45 : Ob) (x46 : List zE) (x48 : Int) (τ' : Hp), agr [(0, .slice A0 p0.length c0), (7, .int .u64 c4.1), (8, zqz x42), (10, .slice A43 x46.length c44), (11, zqz x48)] e' ∧ Obs τ' σ' [o45] ∧ Hp.le τ τ' ∧ RdT Ty.u8 τ' (.slice A0 p0.length c0) p0 ∧ zr zbs 101 τ' (.slice A43 x46.length c44) x46 o45 ∧ zgU p0 c4 n x42 x46 x48 = some rr) big ⟨c4.2.1, none, 0, none, [], 0, _, zqy zqm, hO, hL, r0, zr.nil _ _ _, hF⟩ ?_
   clear hF hO hL
   rintro n80 e σ ⟨x42, A43, c44, o45, x46, x48, _, hA, hO, hL, r41, w47, hF⟩
   rw [← zL _ _ hA]
   cases n80 with
   | zero => exact nomatch (show none = some rr from hF)
   | succ n80 =>
    replace hF : zd1 (zgU p0 c4 n80) p0 c4 x42 x46 x48 = some rr := hF
    unfold zd1 at hF
    refine ze (zc hO [] [(0, .slice A0 p0.length c0), (7, .int .u64 c4.1), (8, zqz x42), (10, .slice A43 x46.length c44), (11, zqz x48), (37, .bool (decide (x48 < (IntKind.i64.wrap c4.1))))] zqo fun j => ?_)
    rcases zi hF with ⟨hb81, hF⟩ | ⟨hb81, hF⟩
    ·refine zk (congrArg Value.bool hb81) ?_
     refine zm (zt (ze (zc hO [] [(0, .slice A0 p0.length c0), (7, .int .u64 c4.1), (8, zqz x42), (10, .slice A43 x46.length c44), (11, zqz x48), (43, .bool (decide (x42 ≥ (p0.length : Int))))] zqo fun j => ?_)))
     rcases zi hF with ⟨hb82, hF⟩ | ⟨hb82, hF⟩
     ·refine zk (congrArg Value.bool hb82) ?_
      refine ze (zc hO [] [(4, .slice none 0 0), (5, zqz 0), (6, zqz 5)] zql fun j => ?_)
      refine zu (zw (zn (zn (zw (zn ?_)))))
      injection hF with hF
      subst hF
      have hO := hO.sel [] (by decide)
      exact hQ _ _ _ _ _ rfl hO hL ⟨_, rfl, rfl, (RdT.nil _ _)⟩
     ·refine zl (congrArg Value.bool hb82) ?_
      refine zm (zd hO 2 [] [(0, .slice A0 p0.length c0), (7, .int .u64 c4.1), (8, zqz x42), (10, .slice A43 x46.length c44), (11, zqz x48), (44, .slice A0 p0.length c0), (45, zqz x42)] zqp fun j => ?_)
      obtain ⟨y83, g84, hF⟩ := bind_some hF
      refine zC (T := Ty.u8) r41 hO.base rfl rfl g84 (by decide) fun a85 _ k86 m87 => ?_
      obtain rfl : _ = ([.int .u8 y83.toNat] : List Value) := k86
      refine zy rfl (m87.le hO.base).fst ?_
      refine zd hO 1 [] [(0, .slice A0 p0.length c0), (7, .int .u64 c4.1), (8, zqz x42), (10, .slice A43 x46.length c44), (11, zqz x48), (48, .agg #[(.int .u8 (y83.toNat : Int)), (.int .i64 0)])] zqo fun j => ?_
      refine zbq hO fun b88 σ hO => ?_
      have hO : Obs _ _ [_, _] := hO
      refine zO hO (i := 1) rfl (off := 0) rfl rfl rfl rfl (Nat.le_of_ble_eq_true rfl) rfl fun σ hO => ?_
      have hO : Obs _ _ [_, _] := hO
      refine zh (zc hO [] [(0, .slice A0 p0.length c0), (7, .int .u64 c4.1), (8, zqz (IntKind.i64.wrap (x42 + 1))), (10, .slice A43 x46.length c44), (11, zqz x48), (12, zqA b88)] zqo fun j => ?_)
      refine ze (zc hO [1, 1, 1] [(0, .slice A0 p0.length c0), (7, .int .u64 c4.1), (8, zqz (IntKind.i64.wrap (x42 + 1))), (10, .slice A43 x46.length c44), (11, zqz x48), (12, zqA b88), (63, .bool ((((y83.toNat : Int) == 1) || ((y83.toNat : Int) == 2)) || ((y83.toNat : Int) == 3)))] (And.intro (And.intro rfl rfl) (And.intro (And.intro rfl rfl) (And.intro (And.intro rfl rfl) (fun _ => And.intro (And.intro rfl rfl) (And.intro (And.intro rfl rfl) (fun _ => zqy zqo)))))) fun j => ?_)
      rcases zi hF with ⟨hb89, hF⟩ | ⟨hb89, hF⟩
      ·refine zk (congrArg Value.bool hb89) ?_
       refine ze (zd hO 2 [] [(0, .slice A0 p0.length c0), (7, .int .u64 c4.1), (10, .slice A43 x46.length c44), (11, zqz x48), (12, zqA b88), (65, .slice A0 p0.length c0), (66, zqz (IntKind.i64.wrap (x42 + 1)))] zqp fun j => ?_)
       obtain ⟨c90, h91, hF⟩ := bind_some hF
       refine zD hO (zqb r41 h91) rfl fun _ σ _ _ hO h92 h93 => ?_
       have hL := hL.trans h92
       have r41 := r41.le h92
       have w47 := w47.le h92
       obtain ⟨rfl, rfl⟩ := h93
       have hO : Obs _ _ [_, _] := hO
       refine zd hO 5 [] [(0, .slice A0 p0.length c0), (7, .int .u64 c4.1), (10, .slice A43 x46.length c44), (11, zqz x48), (12, zqA b88), (68, zqz c90.1), (69, zqz c90.2.1), (70, zqz c90.2.2), (71, .pointer (some ⟨b88, 1, none⟩))] zqr fun j => ?_
       refine zO hO (i := 1) rfl (off := 1) rfl rfl rfl rfl (Nat.le_of_ble_eq_true rfl) rfl fun σ hO => ?_
       have hO : Obs _ _ [_, _] := hO
       refine zc hO [] [(0, .slice A0 p0.length c0), (7, .int .u64 c4.1), (8, zqz c90.2.1), (9, zqz c90.2.2), (10, .slice A43 x46.length c44), (11, zqz x48), (12, zqA b88)] zqp fun j => ?_
       refine ze (zc hO [] [(0, .slice A0 p0.length c0), (7, .int .u64 c4.1), (8, zqz c90.2.1), (10, .slice A43 x46.length c44), (11, zqz x48), (12, zqA b88), (73, .bool (c90.2.2 != 0))] zqp fun j => ?_)
       rcases zi hF with ⟨hb94, hF⟩ | ⟨hb94, hF⟩
       ·refine zk (congrArg Value.bool hb94) ?_
        refine ze (zc hO [] [(4, .slice none 0 0), (5, zqz 0), (6, zqz 5)] zql fun j => ?_)
        refine zu (zw (zn (zn (zw (zn ?_)))))
        injection hF with hF
        subst hF
        have hO := hO.sel [] (by decide)
        exact hQ _ _ _ _ _ rfl hO hL ⟨_, rfl, rfl, (RdT.nil _ _)⟩
       ·refine zl (congrArg Value.bool hb94) ?_
        refine zm (zA (zd hO 2 [1] [(0, .slice A0 p0.length c0), (7, .int .u64 c4.1), (8, zqz c90.2.1), (11, zqz x48), (74, .slice A43 x46.length c44), (75, .agg #[(.int .u8 (y83.toNat : Int)), (.int .i64 c90.1)])] (And.intro (And.intro rfl rfl) zqo) fun j => ?_))
        obtain ⟨_, hr99, hF⟩ := bind_some hF
        refine zbN (T := zbs) (y := (⟨y83, c90.1⟩ : zE)) hO w47 (i := 0) rfl rfl (fun _ => rfl) rfl rfl rfl hr99 (by decide) fun u _ σ o97 w98 hO => ?_
        obtain ⟨A95, c96, rfl, -⟩ := w98.form
        have hO : Obs _ _ [_, _] := hO
        refine zc hO [] [(0, .slice A0 p0.length c0), (7, .int .u64 c4.1), (8, zqz c90.2.1), (10, .slice A95 (x46 ++ [(⟨y83, c90.1⟩ : zE)]).length c96), (11, zqz x48)] zqn fun j => ?_
        refine zg (zP (zj (zA (zc hO [] [(0, .slice A0 p0.length c0), (7, .int .u64 c4.1), (8, zqz c90.2.1), (10, .slice A95 (x46 ++ [(⟨y83, c90.1⟩ : zE)]).length c96), (11, zqz (IntKind.i64.wrap (x48 + 1)))] zqn fun j => ?_))))
        refine zg (zj ?_)
        have hO := hO.sel [0] (by decide)
        exact ⟨n80, Nat.lt_succ_self _, c90.2.1, A95, c96, o97, (x46 ++ [(⟨y83, c90.1⟩ : zE)]), (IntKind.i64.wrap (x48 + 1)), _, zqy zqm, hO, hL, r41, w98, hF⟩
      ·refine zl (congrArg Value.bool hb89) ?_
       refine zm (zA (zd hO 2 [1] [(0, .slice A0 p0.length c0), (7, .int .u64 c4.1), (8, zqz (IntKind.i64.wrap (x42 + 1))), (11, zqz x48), (74, .slice A43 x46.length c44), (75, .agg #[(.int .u8 (y83.toNat : Int)), (.int .i64 0)])] (And.intro (And.intro rfl rfl) zqo) fun j => ?_))
       obtain ⟨_, hr104, hF⟩ := bind_some hF
       refine zbN (T := zbs) (y := (⟨y83, 0⟩ : zE)) hO w47 (i := 0) rfl rfl (fun _ => rfl) rfl rfl rfl hr104 (by decide) fun u _ σ o102 w103 hO => ?_
       obtain ⟨A100, c101, rfl, -⟩ := w103.form
       have hO : Obs _ _ [_, _] := hO
       refine zc hO [] [(0, .slice A0 p0.length c0), (7, .int .u64 c4.1), (8, zqz (IntKind.i64.wrap (x42 + 1))), (10, .slice A100 (x46 ++ [(⟨y83, 0⟩ : zE)]).length c101), (11, zqz x48)] zqn fun j => ?_
       refine zg (zP (zj (zA (zc hO [] [(0, .slice A0 p0.length c0), (7, .int .u64 c4.1), (8, zqz (IntKind.i64.wrap (x42 + 1))), (10, .slice A100 (x46 ++ [(⟨y83, 0⟩ : zE)]).length c101), (11, zqz (IntKind.i64.wrap (x48 + 1)))] zqn fun j => ?_))))
       refine zg (zj ?_)
       have hO := hO.sel [0] (by decide)
       exact ⟨n80, Nat.lt_succ_self _, (IntKind.i64.wrap (x42 + 1)), A100, c101, o102, (x46 ++ [(⟨y83, 0⟩ : zE)]), (IntKind.i64.wrap (x48 + 1)), _, zqy zqm, hO, hL, r41, w103, hF⟩
    ·refine zl (congrArg Value.bool hb81) ?_
     refine zU (zY (z0 (zj (ze (zd hO 1 [] [(8, zqz x42), (10, .slice A43 x46.length c44), (78, .slice A43 x46.length c44)] zql fun j => ?_)))))
     obtain ⟨_, h106, r105, hO⟩ := w47.share hO (i := 0) rfl
     have hL := hL.trans h106
     have hO : Obs _ _ [_] := hO
     obtain ⟨c107, h108, hF⟩ := bind_some hF
     refine zD hO (zlP r105 h108) rfl fun _ σ _ _ hO h109 h110 => ?_
     have hL := hL.trans h109
     have r105 := r105.le h109
     obtain ⟨rfl, rfl⟩ := h110
     have hO : Obs _ _ [_] := hO
     refine zc hO [] [(8, zqz x42), (10, .slice A43 x46.length c44), (80, .bool (!c107))] zql fun j => ?_
     rcases zi hF with ⟨hb111, hF⟩ | ⟨hb111, hF⟩
     ·refine zk (congrArg Value.bool hb111) ?_
      refine ze (zc hO [] [(4, .slice none 0 0), (5, zqz 0), (6, zqz 5)] zql fun j => ?_)
      refine zu ?_
      injection hF with hF
      subst hF
      have hO := hO.sel [] (by decide)
      exact hQ _ _ _ _ _ rfl hO hL ⟨_, rfl, rfl, (RdT.nil _ _)⟩
     ·refine zl (congrArg Value.bool hb111) ?_
      refine zm (zc hO [] [(4, .slice A43 x46.length c44), (5, zqz x42), (6, zqz 0)] zql fun j => ?_)
      refine zK ?_
      injection hF with hF
      subst hF
      have hO := hO.sel [] (by decide)
      exact hQ _ _ _ _ _ rfl hO hL ⟨_, rfl, rfl, r105⟩
end Go.Proofs.YtckcngkkofemjaaGreat
