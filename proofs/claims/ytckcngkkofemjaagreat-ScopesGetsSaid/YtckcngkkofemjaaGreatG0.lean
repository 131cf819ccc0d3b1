import Derived.Test.YtckcngkkofemjaaGreatF
import Derived.Test.YtckcngkkofemjaaGreatM00
import Derived.Test.YtckcngkkofemjaaGreatM01
namespace Go.Proofs.YtckcngkkofemjaaGreat
open Go.Ab Go.RowKit
set_option linter.unusedVariables false
set_option linter.unusedSimpArgs false
set_option maxRecDepth 10000
set_option maxHeartbeats 1000000
theorem zhV {τ : Hp} {p0 : ByteArray}  {rr : Bool} (hF : zdT p0 = some rr) :
  Ctr Tryz.prog 64 #[.string p0] τ [] (fun v τ' vs' => v = .bool rr ∧ vs' = []) := by
 refine zM (args := [.string p0]) hm Tryz.func64 s64 rfl fun w0 σ hO Q hQ => ?_
 unfold zdT at hF
 have hL := Hp.le.refl τ
 show wpn _ _ a64.body _ _ _
 unfold a64
 dsimp only
 refine zc hO [] [(0, .string p0)] zqj fun j => ?_
 refine ze (zd hO 1 [] [(0, .string p0), (5, .string p0)] zqk fun j => ?_)
 refine zmi hO rfl fun _ σ _ hO h5 r2 => ?_
 have hL := hL.trans h5
 obtain ⟨A3, c4, rfl, -⟩ := r2.form
 refine zc hO [] [(0, .string p0), (6, .slice A3 (p0.data.toList).length c4), (7, zqz ((p0.data.toList).length : Int)), (8, zqz 0)] zqm fun j => ?_
 refine zt (zZ (fun (n : Nat) e' σ' => ∃ (x21 : Int) (τ' : Hp), agr [(0, .string p0), (6, .slice A3 (p0.data.toList).length c4), (7, zqz ((p0.data.toList).length : Int)), (8, zqz x21)] e' ∧ Obs τ' σ' [] ∧ Hp.le τ τ' ∧ RdT Ty.u8 τ' (.slice A3 (p0.data.toList).length c4) (p0.data.toList) ∧ zfm p0 n x21 = some rr) big ⟨0, _, zqy zql, hO, hL, r2, hF⟩ ?_)
 clear hF hO hL
 rintro n35 e σ ⟨x21, _, hA, hO, hL, r20, hF⟩
 rw [← zL _ _ hA]
 cases n35 with
 | zero => exact nomatch (show none = some rr from hF)
 | succ n35 =>
  replace hF : zgR (zfm p0 n35) p0 x21 = some rr := hF
  unfold zgR at hF
  refine zc hO [] [(0, .string p0), (6, .slice A3 (p0.data.toList).length c4), (7, zqz ((p0.data.toList).length : Int)), (8, zqz x21), (9, .bool (decide (x21 < ((p0.data.toList).length : Int))))] zqn fun j => ?_
  rcases zi hF with ⟨hb36, hF⟩ | ⟨hb36, hF⟩
  ·refine zk (congrArg Value.bool hb36) ?_
   refine zm (zt ?_)
   obtain ⟨y37, g38, hF⟩ := bind_some hF
   refine zC (T := Ty.u8) r20 hO.base rfl rfl g38 (by decide) fun a39 _ k40 m41 => ?_
   obtain rfl : _ = ([.int .u8 y37.toNat] : List Value) := k40
   refine zy rfl (m41.le hO.base).fst ?_
   refine zc hO [] [(0, .string p0), (4, .int .u8 (y37.toNat : Int)), (6, .slice A3 (p0.data.toList).length c4), (7, zqz ((p0.data.toList).length : Int)), (8, zqz x21)] zqn fun j => ?_
   refine zcE (zt (ze (zc hO [] [(0, .string p0), (4, .int .u8 (y37.toNat : Int)), (6, .slice A3 (p0.data.toList).length c4), (7, zqz ((p0.data.toList).length : Int)), (8, zqz x21), (12, .bool ((decide ((y37.toNat : Int) ≥ 97)) && (decide ((y37.toNat : Int) ≤ 122))))] (And.intro (And.intro rfl rfl) (fun _ => zqy zqn)) fun j => ?_)))
   rcases zi hF with ⟨hb42, hF⟩ | ⟨hb42, hF⟩
   ·refine zk (congrArg Value.bool hb42) ?_
    refine zm (zbl ?_)
    rcases zi hF with ⟨hb43, hF⟩ | ⟨hb43, hF⟩
    ·refine zk (congrArg Value.bool hb43) ?_
     refine zm (zg (zP (zj (zg (zP (zj ?_))))))
     refine zA (zc hO [] [(0, .string p0), (6, .slice A3 (p0.data.toList).length c4), (7, zqz ((p0.data.toList).length : Int)), (8, zqz (IntKind.i64.wrap (x21 + 1)))] zqm fun j => ?_)
     refine zg (zj ?_)
     exact ⟨n35, Nat.lt_succ_self _, (IntKind.i64.wrap (x21 + 1)), _, zqy zql, hO, hL, r20, hF⟩
    ·refine zl (congrArg Value.bool hb43) ?_
     refine ze (zc hO [] [(2, .bool false)] zqj fun j => ?_)
     refine zu (zw (zn (zw (zn (zn (zw ?_))))))
     refine zn ?_
     injection hF with hF
     subst hF
     exact hQ _ _ _ _ _ rfl hO hL ⟨rfl, rfl⟩
   ·refine zl (congrArg Value.bool hb42) ?_
    refine ze (zc hO [] [(0, .string p0), (4, .int .u8 (y37.toNat : Int)), (6, .slice A3 (p0.data.toList).length c4), (7, zqz ((p0.data.toList).length : Int)), (8, zqz x21), (12, .bool ((decide ((y37.toNat : Int) ≥ 65)) && (decide ((y37.toNat : Int) ≤ 90))))] (And.intro (And.intro rfl rfl) (fun _ => zqy zqn)) fun j => ?_)
    rcases zi hF with ⟨hb44, hF⟩ | ⟨hb44, hF⟩
    ·refine zk (congrArg Value.bool hb44) ?_
     refine zm (zbl ?_)
     rcases zi hF with ⟨hb45, hF⟩ | ⟨hb45, hF⟩
     ·refine zk (congrArg Value.bool hb45) ?_
      refine zm (zg (zP (zj (zg (zP (zj ?_))))))
      refine zA (zc hO [] [(0, .string p0), (6, .slice A3 (p0.data.toList).length c4), (7, zqz ((p0.data.toList).length : Int)), (8, zqz (IntKind.i64.wrap (x21 + 1)))] zqm fun j => ?_)
      refine zg (zj ?_)
      exact ⟨n35, Nat.lt_succ_self _, (IntKind.i64.wrap (x21 + 1)), _, zqy zql, hO, hL, r20, hF⟩
     ·refine zl (congrArg Value.bool hb45) ?_
      refine ze (zc hO [] [(2, .bool false)] zqj fun j => ?_)
      refine zu (zw (zn (zw (zn (zn (zw ?_))))))
      refine zn ?_
      injection hF with hF
      subst hF
      exact hQ _ _ _ _ _ rfl hO hL ⟨rfl, rfl⟩
    ·refine zl (congrArg Value.bool hb44) ?_
     refine ze (zc hO [] [(0, .string p0), (4, .int .u8 (y37.toNat : Int)), (6, .slice A3 (p0.data.toList).length c4), (7, zqz ((p0.data.toList).length : Int)), (8, zqz x21), (12, .bool ((decide ((y37.toNat : Int) ≥ 48)) && (decide ((y37.toNat : Int) ≤ 57))))] (And.intro (And.intro rfl rfl) (fun _ => zqy zqn)) fun j => ?_)
     rcases zi hF with ⟨hb46, hF⟩ | ⟨hb46, hF⟩
     ·refine zk (congrArg Value.bool hb46) ?_
      refine zm (zbl ?_)
      rcases zi hF with ⟨hb47, hF⟩ | ⟨hb47, hF⟩
      ·refine zk (congrArg Value.bool hb47) ?_
       refine zm (zg (zP (zj (zg (zP (zj ?_))))))
       refine zA (zc hO [] [(0, .string p0), (6, .slice A3 (p0.data.toList).length c4), (7, zqz ((p0.data.toList).length : Int)), (8, zqz (IntKind.i64.wrap (x21 + 1)))] zqm fun j => ?_)
       refine zg (zj ?_)
       exact ⟨n35, Nat.lt_succ_self _, (IntKind.i64.wrap (x21 + 1)), _, zqy zql, hO, hL, r20, hF⟩
      ·refine zl (congrArg Value.bool hb47) ?_
       refine ze (zc hO [] [(2, .bool false)] zqj fun j => ?_)
       refine zu (zw (zn (zw (zn (zn (zw ?_))))))
       refine zn ?_
       injection hF with hF
       subst hF
       exact hQ _ _ _ _ _ rfl hO hL ⟨rfl, rfl⟩
     ·refine zl (congrArg Value.bool hb46) ?_
      refine zc hO [] [(0, .string p0), (6, .slice A3 (p0.data.toList).length c4), (7, zqz ((p0.data.toList).length : Int)), (8, zqz x21), (12, .bool ((y37.toNat : Int) == 95))] zqn fun j => ?_
      refine zbl ?_
      rcases zi hF with ⟨hb48, hF⟩ | ⟨hb48, hF⟩
      ·refine zk (congrArg Value.bool hb48) ?_
       refine zm (zg (zP (zj (zg (zP (zj ?_))))))
       refine zA (zc hO [] [(0, .string p0), (6, .slice A3 (p0.data.toList).length c4), (7, zqz ((p0.data.toList).length : Int)), (8, zqz (IntKind.i64.wrap (x21 + 1)))] zqm fun j => ?_)
       refine zg (zj ?_)
       exact ⟨n35, Nat.lt_succ_self _, (IntKind.i64.wrap (x21 + 1)), _, zqy zql, hO, hL, r20, hF⟩
      ·refine zl (congrArg Value.bool hb48) ?_
       refine ze (zc hO [] [(2, .bool false)] zqj fun j => ?_)
       refine zu (zw (zn (zw (zn (zn (zw ?_))))))
       refine zn ?_
       injection hF with hF
       subst hF
       exact hQ _ _ _ _ _ rfl hO hL ⟨rfl, rfl⟩
  ·refine zl (congrArg Value.bool hb36) ?_
   refine zU (zY (z0 (zj (zc hO [] [(2, .bool ((decide ((p0.size : Int) ≥ 1)) && (decide ((p0.size : Int) ≤ 24))))] (And.intro (And.intro rfl rfl) (fun _ => zqy trivial)) fun j => ?_))))
   refine zK ?_
   injection hF with hF
   subst hF
   exact hQ _ _ _ _ _ rfl hO hL ⟨rfl, rfl⟩
theorem zpa {τ : Hp} {p0 : zG} {v0_5 : Value} (r0_5 : RdT Ty.str τ v0_5 p0.Fields) {rr : Bool} (hF : zej p0 = some rr) :
  Ctr Tryz.prog 65 #[.agg #[.string p0.Name, .int .u8 p0.Type_.Kind.toNat, .int .i64 p0.Type_.N, .string p0.Type_.Name, .int .i64 p0.Words, v0_5]] τ [] (fun v τ' vs' => v = .bool rr ∧ vs' = []) := by
 obtain ⟨A0_5, c0_5, rfl, -⟩ := r0_5.form
 refine zM (args := [.agg #[.string p0.Name, .int .u8 p0.Type_.Kind.toNat, .int .i64 p0.Type_.N, .string p0.Type_.Name, .int .i64 p0.Words, (.slice A0_5 p0.Fields.length c0_5)]]) hm Tryz.func65 s65 rfl fun w0 σ hO Q hQ => ?_
 unfold zej at hF
 have hL := Hp.le.refl τ
 show wpn _ _ a65.body _ _ _
 unfold a65
 dsimp only
 refine zb2 (n := 6) hO rfl rfl fun b2 σ hO => ?_
 have hO : Obs _ _ [_] := hO
 refine zc hO [] [(1, zqA b2)] zqj fun j => ?_
 refine ze (zd hO 2 [0] [(1, zqA b2), (8, .string p0.Name)] (And.intro (And.intro rfl rfl) zqk) fun j => ?_)
 obtain ⟨c3, h4, hF⟩ := bind_some hF
 refine zD hO (zhV h4) rfl fun _ σ _ _ hO h5 h6 => ?_
 have hL := hL.trans h5
 have r0_5 := r0_5.le h5
 obtain ⟨rfl, rfl⟩ := h6
 have hO : Obs _ _ [_] := hO
 refine zc hO [] [(1, zqA b2), (10, .bool (!c3))] zqk fun j => ?_
 rcases zi hF with ⟨hb7, hF⟩ | ⟨hb7, hF⟩
 ·refine zk (congrArg Value.bool hb7) ?_
  refine ze (zc hO [] [(2, .bool false)] zqj fun j => ?_)
  refine zu ?_
  injection hF with hF
  subst hF
  have hO := hO.sel [] (by decide)
  exact hQ _ _ _ _ _ rfl hO hL ⟨rfl, rfl⟩
 ·refine zl (congrArg Value.bool hb7) ?_
  refine zm (zc hO [0, 0] [(1, zqA b2), (3, .bool ((zbu p0.Type_.Name (⟨#[]⟩ : ByteArray)) && ((p0.Fields.length : Int) == 0)))] (And.intro (And.intro rfl rfl) (And.intro (And.intro rfl rfl) (And.intro (And.intro rfl rfl) (fun _ => zqy zqj)))) fun j => ?_)
  refine ze (zc hO [0] [(1, zqA b2), (3, .bool ((zbu p0.Type_.Name (⟨#[]⟩ : ByteArray)) && ((p0.Fields.length : Int) == 0))), (23, .int .u8 (p0.Type_.Kind.toNat : Int))] (And.intro (And.intro rfl rfl) zql) fun j => ?_)
  refine zt (ze (zc hO [] [(1, zqA b2), (3, .bool ((zbu p0.Type_.Name (⟨#[]⟩ : ByteArray)) && ((p0.Fields.length : Int) == 0))), (23, .int .u8 (p0.Type_.Kind.toNat : Int)), (24, .bool ((p0.Type_.Kind.toNat : Int) == 1))] zqm fun j => ?_))
  refine zco (fun e' σ' => ∃ (x10 : Bool) (τ' : Hp), agr [(1, zqA b2), (3, .bool ((zbu p0.Type_.Name (⟨#[]⟩ : ByteArray)) && ((p0.Fields.length : Int) == 0))), (23, .int .u8 (p0.Type_.Kind.toNat : Int)), (24, .bool x10)] e' ∧ Obs τ' σ' [some (b2, ⟨[.string p0.Name, .int .u8 (p0.Type_.Kind.toNat : Int), .int .i64 p0.Type_.N, .string p0.Type_.Name, .int .i64 p0.Words, .slice A0_5 p0.Fields.length c0_5], 53, 6, true⟩)] ∧ Hp.le τ τ' ∧ RdT Ty.str τ' (.slice A0_5 p0.Fields.length c0_5) p0.Fields ∧ ze1 p0 x10 = some rr) ?_ ?_
  ·refine zbl ?_
   rcases zi hF with ⟨hb62, hF⟩ | ⟨hb62, hF⟩
   ·refine zk (congrArg Value.bool hb62) ?_
    refine zm (zg (zj ?_))
    exact ⟨((p0.Type_.Kind.toNat : Int) == 1), _, zqy zql, hO, hL, r0_5, hF⟩
   ·refine zl (congrArg Value.bool hb62) ?_
    refine zc hO [] [(1, zqA b2), (3, .bool ((zbu p0.Type_.Name (⟨#[]⟩ : ByteArray)) && ((p0.Fields.length : Int) == 0))), (23, .int .u8 (p0.Type_.Kind.toNat : Int)), (24, .bool ((p0.Type_.Kind.toNat : Int) == 2))] zqm fun j => ?_
    refine zg (zj ?_)
    exact ⟨((p0.Type_.Kind.toNat : Int) == 2), _, zqy zql, hO, hL, r0_5, hF⟩
  ·rintro e σ ⟨x10, _, hA, hO, hL, r9, hF⟩
   rw [← zL _ _ hA]
   unfold ze1 at hF
   refine zbl ?_
   rcases zi hF with ⟨hb11, hF⟩ | ⟨hb11, hF⟩
   ·refine zk (congrArg Value.bool hb11) ?_
    refine ze (zc hO [0, 0] [(2, .bool ((((zbu p0.Type_.Name (⟨#[]⟩ : ByteArray)) && ((p0.Fields.length : Int) == 0)) && (p0.Type_.N == 0)) && (p0.Words == 1)))] (And.intro (And.intro rfl rfl) (And.intro (And.intro rfl rfl) (fun _ => And.intro (And.intro rfl rfl) (And.intro (And.intro rfl rfl) (fun _ => zqy trivial))))) fun j => ?_)
    refine zu (zw (zn ?_))
    injection hF with hF
    subst hF
    have hO := hO.sel [] (by decide)
    exact hQ _ _ _ _ _ rfl hO hL ⟨rfl, rfl⟩
   ·refine zl (congrArg Value.bool hb11) ?_
    refine ze (zc hO [] [(1, zqA b2), (3, .bool ((zbu p0.Type_.Name (⟨#[]⟩ : ByteArray)) && ((p0.Fields.length : Int) == 0))), (23, .int .u8 (p0.Type_.Kind.toNat : Int)), (39, .bool ((p0.Type_.Kind.toNat : Int) == 3))] zqm fun j => ?_)
    rcases zi hF with ⟨hb12, hF⟩ | ⟨hb12, hF⟩
    ·refine zk (congrArg Value.bool hb12) ?_
     refine ze (zc hO [0, 0, 0, 0] [(2, .bool (((((zbu p0.Type_.Name (⟨#[]⟩ : ByteArray)) && ((p0.Fields.length : Int) == 0)) && (decide (p0.Type_.N ≥ 1))) && (decide (p0.Type_.N ≤ 16))) && (p0.Words == p0.Type_.N)))] (And.intro (And.intro rfl rfl) (And.intro (And.intro rfl rfl) (fun _ => And.intro (And.intro rfl rfl) (And.intro (And.intro rfl rfl) (fun _ => And.intro (And.intro rfl rfl) (And.intro (And.intro rfl rfl) (And.intro (And.intro rfl rfl) (fun _ => zqy trivial)))))))) fun j => ?_)
     refine zu (zw (zn ?_))
     injection hF with hF
     subst hF
     have hO := hO.sel [] (by decide)
     exact hQ _ _ _ _ _ rfl hO hL ⟨rfl, rfl⟩
    ·refine zl (congrArg Value.bool hb12) ?_
     refine ze (zc hO [] [(1, zqA b2), (62, .bool ((p0.Type_.Kind.toNat : Int) == 4))] zqk fun j => ?_)
     rcases zi hF with ⟨hb13, hF⟩ | ⟨hb13, hF⟩
     ·refine zk (congrArg Value.bool hb13) ?_
      refine ze (zd hO 3 [0] [(1, zqA b2), (66, .string p0.Type_.Name)] (And.intro (And.intro rfl rfl) zqk) fun j => ?_)
      obtain ⟨c14, h15, hF⟩ := bind_some hF
      refine zD hO (zhV h15) rfl fun _ σ _ _ hO h16 h17 => ?_
      have hL := hL.trans h16
      have r9 := r9.le h16
      obtain ⟨rfl, rfl⟩ := h17
      have hO : Obs _ _ [_] := hO
      refine zc hO [0, 0, 0, 0, 0] [(1, zqA b2), (4, .bool ((((c14 && (p0.Type_.N == 0)) && (p0.Words == (p0.Fields.length : Int))) && (decide (p0.Words ≥ 1))) && (decide (p0.Words ≤ 8))))] (And.intro (And.intro rfl rfl) (And.intro (And.intro rfl rfl) (fun _ => And.intro (And.intro rfl rfl) (And.intro (And.intro rfl rfl) (And.intro (And.intro rfl rfl) (fun _ => And.intro (And.intro rfl rfl) (And.intro (And.intro rfl rfl) (fun _ => And.intro (And.intro rfl rfl) (And.intro (And.intro rfl rfl) (fun _ => zqy zqj)))))))))) fun j => ?_
      refine ze (ze (zc hO [0] [(4, .bool ((((c14 && (p0.Type_.N == 0)) && (p0.Words == (p0.Fields.length : Int))) && (decide (p0.Words ≥ 1))) && (decide (p0.Words ≤ 8)))), (93, .slice A0_5 p0.Fields.length c0_5), (94, zqz (p0.Fields.length : Int)), (95, zqz 0)] (And.intro (And.intro rfl rfl) zqm) fun j => ?_))
      refine zt ?_
      have hO := hO.sel [] (by decide)
      refine zZ (fun (n : Nat) e' σ' => ∃ (x32 : Bool) (x34 : Int) (τ' : Hp), agr [(4, .bool x32), (93, .slice A0_5 p0.Fields.length c0_5), (94, zqz (p0.Fields.length : Int)), (95, zqz x34)] e' ∧ Obs τ' σ' [] ∧ Hp.le τ τ' ∧ RdT Ty.str τ' (.slice A0_5 p0.Fields.length c0_5) p0.Fields ∧ zgL p0 n x32 x34 = some rr) big ⟨((((c14 && (p0.Type_.N == 0)) && (p0.Words == (p0.Fields.length : Int))) && (decide (p0.Words ≥ 1))) && (decide (p0.Words ≤ 8))), 0, _, zqy zql, hO, hL, r9, hF⟩ ?_
      clear hF hO hL
      rintro n48 e σ ⟨x32, x34, _, hA, hO, hL, r33, hF⟩
      rw [← zL _ _ hA]
      cases n48 with
      | zero => exact nomatch (show none = some rr from hF)
      | succ n48 =>
       replace hF : zfa (zgL p0 n48) p0 x32 x34 = some rr := hF
       unfold zfa at hF
       refine zc hO [] [(4, .bool x32), (93, .slice A0_5 p0.Fields.length c0_5), (94, zqz (p0.Fields.length : Int)), (95, zqz x34), (96, .bool (decide (x34 < (p0.Fields.length : Int))))] zqn fun j => ?_
       rcases zi hF with ⟨hb49, hF⟩ | ⟨hb49, hF⟩
       ·refine zk (congrArg Value.bool hb49) ?_
        refine zm (zt ?_)
        obtain ⟨y50, g51, hF⟩ := bind_some hF
        refine zC (T := Ty.str) r33 hO.base rfl rfl g51 (by decide) fun a52 _ k53 m54 => ?_
        obtain rfl : _ = ([.string y50] : List Value) := k53
        refine zy rfl (m54.le hO.base).fst ?_
        refine zc hO [] [(4, .bool x32), (6, .string y50), (93, .slice A0_5 p0.Fields.length c0_5), (94, zqz (p0.Fields.length : Int)), (95, zqz x34)] zqn fun j => ?_
        refine zA (zd hO 2 [] [(6, .string y50), (93, .slice A0_5 p0.Fields.length c0_5), (94, zqz (p0.Fields.length : Int)), (95, zqz x34), (100, .bool x32)] zqn fun j => ?_)
        obtain ⟨c55, h56, hF⟩ := bind_some hF
        refine zbQ 2 (fun e' σ' => ∃ (τ' : Hp), agr [(103, .bool c55), (93, .slice A0_5 p0.Fields.length c0_5), (94, zqz (p0.Fields.length : Int)), (95, zqz x34)] e' ∧ Obs τ' σ' [] ∧ Hp.le τ τ' ∧ RdT Ty.str τ' (.slice A0_5 p0.Fields.length c0_5) p0.Fields) ?_ ?_
        ·have hF := h56
         rcases zi hF with ⟨hb57, hF⟩ | ⟨hb57, hF⟩
         ·refine z7 (congrArg (fun x => isB (.bool x) true) hb57) ?_
          refine zd hO 1 [] [(93, .slice A0_5 p0.Fields.length c0_5), (94, zqz (p0.Fields.length : Int)), (95, zqz x34), (100, .bool x32), (101, .string y50)] zqn fun j => ?_
          obtain ⟨c58, h59, hF⟩ := bind_some hF
          refine zD hO (zhV h59) rfl fun _ σ _ _ hO h60 h61 => ?_
          have hL := hL.trans h60
          have r33 := r33.le h60
          obtain ⟨rfl, rfl⟩ := h61
          have hO : Obs _ _ [] := hO
          refine zJ (congrArg Value.bool hb57) ?_
          refine zh ?_
          injection hF with hF
          subst hF
          refine zg ?_
          exact ⟨rfl, _, zqy zql, hO, hL, r33⟩
         ·refine z9 (congrArg (fun x => isB (.bool x) true) hb57) ?_
          refine zJ (congrArg Value.bool hb57) ?_
          refine zh ?_
          injection hF with hF
          subst hF
          refine zg ?_
          exact ⟨rfl, _, zqy zql, hO, hL, r33⟩
        ·rintro e σ ⟨_, hA, hO, hL, r33⟩
         rw [← zL _ _ hA]
         refine zc hO [] [(4, .bool c55), (93, .slice A0_5 p0.Fields.length c0_5), (94, zqz (p0.Fields.length : Int)), (95, zqz x34)] zqm fun j => ?_
         refine zg (zP (zj (zA (zc hO [] [(4, .bool c55), (93, .slice A0_5 p0.Fields.length c0_5), (94, zqz (p0.Fields.length : Int)), (95, zqz (IntKind.i64.wrap (x34 + 1)))] zqm fun j => ?_))))
         refine zg (zj ?_)
         exact ⟨n48, Nat.lt_succ_self _, c55, (IntKind.i64.wrap (x34 + 1)), _, zqy zql, hO, hL, r33, hF⟩
       ·refine zl (congrArg Value.bool hb49) ?_
        refine zU (zY (z0 (zj (ze (zc hO [] [(2, .bool x32)] zqj fun j => ?_)))))
        refine zu (zw (zn ?_))
        injection hF with hF
        subst hF
        exact hQ _ _ _ _ _ rfl hO hL ⟨rfl, rfl⟩
     ·refine zl (congrArg Value.bool hb13) ?_
      refine zm (zg (zP (zj (zc hO [] [(2, .bool false)] zqj fun j => ?_))))
      refine zK ?_
      injection hF with hF
      subst hF
      have hO := hO.sel [] (by decide)
      exact hQ _ _ _ _ _ rfl hO hL ⟨rfl, rfl⟩
theorem zpK {τ : Hp} {p0 : zE}  {rr : zbw × Bool} (hF : zfn p0 = some rr) :
  Ctr Tryz.prog 108 #[.agg #[.int .u8 p0.Kind.toNat, .int .i64 p0.N]] τ [] (fun v τ' vs' => v = .tuple #[zbT rr.1, .bool rr.2] ∧ vs' = []) := by
 refine zM (args := [.agg #[.int .u8 p0.Kind.toNat, .int .i64 p0.N]]) hm Tryz.func108 zmD rfl fun w0 σ hO Q hQ => ?_
 unfold zfn at hF
 have hL := Hp.le.refl τ
 show wpn _ _ ziQ.body _ _ _
 unfold ziQ
 dsimp only
 refine zb2 (n := 2) hO rfl rfl fun b2 σ hO => ?_
 have hO : Obs _ _ [_] := hO
 refine zc hO [] [(1, zqA b2)] zqj fun j => ?_
 refine ze (zc hO [0] [(1, zqA b2), (5, .int .u8 (p0.Kind.toNat : Int))] (And.intro (And.intro rfl rfl) zqk) fun j => ?_)
 refine zt (zc hO [] [(1, zqA b2), (5, .int .u8 (p0.Kind.toNat : Int)), (6, .bool ((p0.Kind.toNat : Int) == 1))] zql fun j => ?_)
 refine zbl ?_
 rcases zi hF with ⟨hb3, hF⟩ | ⟨hb3, hF⟩
 ·refine zk (congrArg Value.bool hb3) ?_
  refine ze (zc hO [0] [(2, .iface 154 (.int .i64 p0.N)), (3, .bool true)] (And.intro (And.intro rfl rfl) zqk) fun j => ?_)
  refine zu (zw (zn ?_))
  injection hF with hF
  subst hF
  have hO := hO.sel [] (by decide)
  exact hQ _ _ _ _ _ rfl hO hL ⟨rfl, rfl⟩
 ·refine zl (congrArg Value.bool hb3) ?_
  refine ze (zc hO [] [(1, zqA b2), (5, .int .u8 (p0.Kind.toNat : Int)), (11, .bool ((p0.Kind.toNat : Int) == 2))] zql fun j => ?_)
  rcases zi hF with ⟨hb4, hF⟩ | ⟨hb4, hF⟩
  ·refine zk (congrArg Value.bool hb4) ?_
   refine ze (zbr (zc hO [0, 0, 0] [(2, .iface 155 (.int .i64 p0.N)), (3, .bool ((decide (p0.N ≥ 0)) && (decide (p0.N < 16))))] (And.intro (And.intro rfl rfl) (And.intro (And.intro rfl rfl) (And.intro (And.intro rfl rfl) (And.intro (And.intro rfl rfl) (fun _ => zqy zqj))))) fun j => ?_))
   refine zu (zw (zn ?_))
   injection hF with hF
   subst hF
   have hO := hO.sel [] (by decide)
   exact hQ _ _ _ _ _ rfl hO hL ⟨rfl, rfl⟩
  ·refine zl (congrArg Value.bool hb4) ?_
   refine ze (zc hO [] [(1, zqA b2), (5, .int .u8 (p0.Kind.toNat : Int)), (24, .bool ((p0.Kind.toNat : Int) == 3))] zql fun j => ?_)
   rcases zi hF with ⟨hb5, hF⟩ | ⟨hb5, hF⟩
   ·refine zk (congrArg Value.bool hb5) ?_
    refine ze (zc hO [0] [(2, .iface 156 (.int .i64 p0.N)), (3, .bool true)] (And.intro (And.intro rfl rfl) zqk) fun j => ?_)
    refine zu (zw (zn ?_))
    injection hF with hF
    subst hF
    have hO := hO.sel [] (by decide)
    exact hQ _ _ _ _ _ rfl hO hL ⟨rfl, rfl⟩
   ·refine zl (congrArg Value.bool hb5) ?_
    refine ze (zc hO [] [(1, zqA b2), (5, .int .u8 (p0.Kind.toNat : Int)), (29, .bool ((p0.Kind.toNat : Int) == 4))] zql fun j => ?_)
    rcases zi hF with ⟨hb6, hF⟩ | ⟨hb6, hF⟩
    ·refine zk (congrArg Value.bool hb6) ?_
     refine ze (zbr (zc hO [0] [(2, .iface 158 (.agg #[])), (3, .bool (p0.N == 0))] (And.intro (And.intro rfl rfl) zqk) fun j => ?_))
     refine zu (zw (zn ?_))
     injection hF with hF
     subst hF
     have hO := hO.sel [] (by decide)
     exact hQ _ _ _ _ _ rfl hO hL ⟨rfl, rfl⟩
    ·refine zl (congrArg Value.bool hb6) ?_
     refine ze (zc hO [] [(1, zqA b2), (5, .int .u8 (p0.Kind.toNat : Int)), (36, .bool ((p0.Kind.toNat : Int) == 5))] zql fun j => ?_)
     rcases zi hF with ⟨hb7, hF⟩ | ⟨hb7, hF⟩
     ·refine zk (congrArg Value.bool hb7) ?_
      refine ze (zbr (zc hO [0] [(2, .iface 159 (.agg #[])), (3, .bool (p0.N == 0))] (And.intro (And.intro rfl rfl) zqk) fun j => ?_))
      refine zu (zw (zn ?_))
      injection hF with hF
      subst hF
      have hO := hO.sel [] (by decide)
      exact hQ _ _ _ _ _ rfl hO hL ⟨rfl, rfl⟩
     ·refine zl (congrArg Value.bool hb7) ?_
      refine ze (zc hO [] [(1, zqA b2), (43, .bool ((p0.Kind.toNat : Int) == 6))] zqk fun j => ?_)
      rcases zi hF with ⟨hb8, hF⟩ | ⟨hb8, hF⟩
      ·refine zk (congrArg Value.bool hb8) ?_
       refine ze (zbr (zc hO [0] [(2, .iface 160 (.agg #[])), (3, .bool (p0.N == 0))] (And.intro (And.intro rfl rfl) zqk) fun j => ?_))
       refine zu (zw (zn ?_))
       injection hF with hF
       subst hF
       have hO := hO.sel [] (by decide)
       exact hQ _ _ _ _ _ rfl hO hL ⟨rfl, rfl⟩
      ·refine zl (congrArg Value.bool hb8) ?_
       refine zm (zg (zP (zj (zc hO [] [(2, .nilIface), (3, .bool false)] zqk fun j => ?_))))
       refine zK ?_
       injection hF with hF
       subst hF
       have hO := hO.sel [] (by decide)
       exact hQ _ _ _ _ _ rfl hO hL ⟨rfl, rfl⟩
theorem zo0 {τ : Hp} {p0 : Int}  {rr : Int} (hF : zg5 p0 = some rr) :
  Ctr Tryz.prog 129 #[.int .i64 p0] τ [] (fun v τ' vs' => v = .int .i64 rr ∧ vs' = []) := by
 refine zM (args := [.int .i64 p0]) hm Tryz.func129 zmo rfl fun w0 σ hO Q hQ => ?_
 unfold zg5 at hF
 have hL := Hp.le.refl τ
 show wpn _ _ zji.body _ _ _
 unfold zji
 dsimp only
 refine zc hO [] [] (trivial) fun j => ?_
 refine zc hO [] [(2, zqz 0)] zqj fun j => ?_
 refine zK ?_
 injection hF with hF
 subst hF
 exact hQ _ _ _ _ _ rfl hO hL ⟨rfl, rfl⟩
theorem zm9 {τ : Hp} {p0 : Int}  {rr : Int} (hF : zhm p0 = some rr) :
  Ctr Tryz.prog 131 #[.int .i64 p0] τ [] (fun v τ' vs' => v = .int .i64 rr ∧ vs' = []) := by
 refine zM (args := [.int .i64 p0]) hm Tryz.func131 zni rfl fun w0 σ hO Q hQ => ?_
 unfold zhm at hF
 have hL := Hp.le.refl τ
 show wpn _ _ zii.body _ _ _
 unfold zii
 dsimp only
 refine zc hO [] [] (trivial) fun j => ?_
 refine zc hO [] [(2, zqz 0)] zqj fun j => ?_
 refine zK ?_
 injection hF with hF
 subst hF
 exact hQ _ _ _ _ _ rfl hO hL ⟨rfl, rfl⟩
theorem zpQ {τ : Hp} {p0 : Int}  {rr : Int} (hF : zhQ p0 = some rr) :
  Ctr Tryz.prog 133 #[.int .i64 p0] τ [] (fun v τ' vs' => v = .int .i64 rr ∧ vs' = []) := by
 refine zM (args := [.int .i64 p0]) hm Tryz.func133 znW rfl fun w0 σ hO Q hQ => ?_
 unfold zhQ at hF
 have hL := Hp.le.refl τ
 show wpn _ _ zi8.body _ _ _
 unfold zi8
 dsimp only
 refine zc hO [] [] (trivial) fun j => ?_
 refine zc hO [] [(2, zqz 0)] zqj fun j => ?_
 refine zK ?_
 injection hF with hF
 subst hF
 exact hQ _ _ _ _ _ rfl hO hL ⟨rfl, rfl⟩
theorem zpJ {τ : Hp} {p0 : zhv}  {rr : Int} (hF : zg2 p0 = some rr) :
  Ctr Tryz.prog 135 #[.agg #[]] τ [] (fun v τ' vs' => v = .int .i64 rr ∧ vs' = []) := by
 refine zM (args := [.agg #[]]) hm Tryz.func135 zpH rfl fun w0 σ hO Q hQ => ?_
 unfold zg2 at hF
 have hL := Hp.le.refl τ
 show wpn _ _ zg7.body _ _ _
 unfold zg7
 dsimp only
 refine zb2 (n := 0) hO rfl rfl fun b2 σ hO => ?_
 have hO : Obs _ _ [_] := hO
 refine zc hO [] [] (trivial) fun j => ?_
 refine zc hO [] [(2, zqz 1)] zqj fun j => ?_
 refine zK ?_
 injection hF with hF
 subst hF
 have hO := hO.sel [] (by decide)
 exact hQ _ _ _ _ _ rfl hO hL ⟨rfl, rfl⟩
theorem zp9 {τ : Hp} {p0 : zhU}  {rr : Int} (hF : zhB p0 = some rr) :
  Ctr Tryz.prog 137 #[.agg #[]] τ [] (fun v τ' vs' => v = .int .i64 rr ∧ vs' = []) := by
 refine zM (args := [.agg #[]]) hm Tryz.func137 zod rfl fun w0 σ hO Q hQ => ?_
 unfold zhB at hF
 have hL := Hp.le.refl τ
 show wpn _ _ ziS.body _ _ _
 unfold ziS
 dsimp only
 refine zb2 (n := 0) hO rfl rfl fun b2 σ hO => ?_
 have hO : Obs _ _ [_] := hO
 refine zc hO [] [] (trivial) fun j => ?_
 refine zc hO [] [(2, zqz 2)] zqj fun j => ?_
 refine zK ?_
 injection hF with hF
 subst hF
 have hO := hO.sel [] (by decide)
 exact hQ _ _ _ _ _ rfl hO hL ⟨rfl, rfl⟩
theorem zqc {τ : Hp} {p0 : zhK}  {rr : Int} (hF : zhM p0 = some rr) :
  Ctr Tryz.prog 139 #[.agg #[]] τ [] (fun v τ' vs' => v = .int .i64 rr ∧ vs' = []) := by
 refine zM (args := [.agg #[]]) hm Tryz.func139 znY rfl fun w0 σ hO Q hQ => ?_
 unfold zhM at hF
 have hL := Hp.le.refl τ
 show wpn _ _ ziF.body _ _ _
 unfold ziF
 dsimp only
 refine zb2 (n := 0) hO rfl rfl fun b2 σ hO => ?_
 have hO : Obs _ _ [_] := hO
 refine zc hO [] [] (trivial) fun j => ?_
 refine zc hO [] [(2, zqz 1)] zqj fun j => ?_
 refine zK ?_
 injection hF with hF
 subst hF
 have hO := hO.sel [] (by decide)
 exact hQ _ _ _ _ _ rfl hO hL ⟨rfl, rfl⟩
theorem zlV {τ : Hp} {x : zbw}   {rr : Int} (hF : zgy x  = some rr) :
  zis Tryz.prog (zbT x) "theodolite/expr.takes" #[] τ [] (fun v τ' vs' => v = .int .i64 rr ∧ vs' = []) := by
 cases x with
 | nil => exact nomatch (show none = some rr from hF)
 | c_number a => exact ⟨154, _, 129, rfl, fun w => by kernel_rfl, by kernel_rfl, zo0 (p0 := a)  hF⟩
 | c_reg a => exact ⟨155, _, 131, rfl, fun w => by kernel_rfl, by kernel_rfl, zm9 (p0 := a)  hF⟩
 | c_base a => exact ⟨156, _, 133, rfl, fun w => by kernel_rfl, by kernel_rfl, zpQ (p0 := a)  hF⟩
 | c_word a => exact ⟨158, _, 135, rfl, fun w => by kernel_rfl, by kernel_rfl, zpJ (p0 := a)  hF⟩
 | c_add a => exact ⟨159, _, 137, rfl, fun w => by kernel_rfl, by kernel_rfl, zp9 (p0 := a)  hF⟩
 | c_neg a => exact ⟨160, _, 139, rfl, fun w => by kernel_rfl, by kernel_rfl, zqc (p0 := a)  hF⟩
theorem znI {τ : Hp} {v0 : Value} {p0 : (List zE)} (r0 : RdT zbs τ v0 p0) {rr : (List zbw) × Bool} (hF : zfh p0 = some rr) :
  Ctr Tryz.prog 100 #[v0] τ [] (fun v τ' vs' => ∃ (v0 : Value) (o0 : Ob), v = .tuple #[v0, .bool rr.2] ∧ vs' = [o0] ∧ zr zhY 151 τ' v0 rr.1 o0) := by
 obtain ⟨A0, c0, rfl, -⟩ := r0.form
 refine zM (args := [.slice A0 p0.length c0]) hm Tryz.func100 zpp rfl fun w0 σ hO Q hQ => ?_
 unfold zfh at hF
 have hL := Hp.le.refl τ
 show wpn _ _ ziO.body _ _ _
 unfold ziO
 dsimp only
 refine zc hO [] [(0, .slice A0 p0.length c0)] zqj fun j => ?_
 refine zc hO [] [(0, .slice A0 p0.length c0), (4, .slice none 0 0)] zqk fun j => ?_
 refine zc hO [] [(0, .slice A0 p0.length c0), (4, .slice none 0 0), (5, zqz 0)] zql fun j => ?_
 refine ze (zc hO [] [(0, .slice A0 p0.length c0), (4, .slice none 0 0), (5, zqz 0), (10, .slice A0 p0.length c0), (11, zqz (p0.length : Int)), (12, zqz 0)] zqo fun j => ?_)
 refine zt ?_
 have hO := hO.no
 have hO : Obs _ _ [_] := hO
 refine zZ (fun (n : Nat) e' σ' => ∃ (A39 : Option Addr) (c40 : Nat) (o41 : Ob) (x42 : List zbw) (x44 : Int) (x46 : Int) (τ' : Hp), agr [(0, .slice A0 p0.length c0), (4, .slice A39 x42.length c40), (5, zqz x44), (10, .slice A0 p0.length c0), (11, zqz (p0.length : Int)), (12, zqz x46)] e' ∧ Obs τ' σ' [o41] ∧ Hp.le τ τ' ∧ RdT zbs τ' (.slice A0 p0.length c0) p0 ∧ zr zhY 151 τ' (.slice A39 x42.length c40) x42 o41 ∧ RdT zbs τ' (.slice A0 p0.length c0) p0 ∧ zfZ p0 n x42 x44 x46 = some rr) big ⟨none, 0, none, [], 0, 0, _, zqy zqn, hO, hL, r0, zr.nil _ _ _, r0, hF⟩ ?_
 clear hF hO hL
 rintro n80 e σ ⟨A39, c40, o41, x42, x44, x46, _, hA, hO, hL, r38, w43, r45, hF⟩
 rw [← zL _ _ hA]
 cases n80 with
 | zero => exact nomatch (show none = some rr from hF)
 | succ n80 =>
  replace hF : zfW (zfZ p0 n80) p0 x42 x44 x46 = some rr := hF
  unfold zfW at hF
  refine zc hO [] [(0, .slice A0 p0.length c0), (4, .slice A39 x42.length c40), (5, zqz x44), (10, .slice A0 p0.length c0), (11, zqz (p0.length : Int)), (12, zqz x46), (13, .bool (decide (x46 < (p0.length : Int))))] zqp fun j => ?_
  rcases zi hF with ⟨hb81, hF⟩ | ⟨hb81, hF⟩
  ·refine zk (congrArg Value.bool hb81) ?_
   refine zm (zt ?_)
   obtain ⟨y82, g83, hF⟩ := bind_some hF
   refine zC (T := zbs) r45 hO.base rfl rfl g83 (by decide) fun a84 _ k85 m86 => ?_
   obtain rfl : _ = ([.int .u8 y82.Kind.toNat, .int .i64 y82.N] : List Value) := k85
   refine zy rfl ((m86.le hO.base).all rfl) ?_
   refine zbq hO fun b87 σ hO => ?_
   have hO : Obs _ _ [_, _] := hO
   refine zO hO (i := 1) rfl (off := 0) rfl rfl rfl rfl (Nat.le_of_ble_eq_true rfl) rfl fun σ hO => ?_
   have hO : Obs _ _ [_, _] := hO
   refine zh (zd hO 1 [1] [(0, .slice A0 p0.length c0), (4, .slice A39 x42.length c40), (5, zqz x44), (10, .slice A0 p0.length c0), (11, zqz (p0.length : Int)), (12, zqz x46), (17, .agg #[(.int .u8 (y82.Kind.toNat : Int)), (.int .i64 y82.N)])] (And.intro (And.intro rfl rfl) zqp) fun j => ?_)
   obtain ⟨c88, h89, hF⟩ := bind_some hF
   refine zD hO (zpK (p0 := (⟨y82.Kind, y82.N⟩ : zE)) h89) rfl fun _ σ _ _ hO h90 h91 => ?_
   have hL := hL.trans h90
   have r38 := r38.le h90
   have w43 := w43.le h90
   have r45 := r45.le h90
   obtain ⟨rfl, rfl⟩ := h91
   have hO : Obs _ _ [_, _] := hO
   refine zc hO [] [(0, .slice A0 p0.length c0), (4, .slice A39 x42.length c40), (5, zqz x44), (8, zbT c88.1), (9, .bool c88.2), (10, .slice A0 p0.length c0), (11, zqz (p0.length : Int)), (12, zqz x46)] zqq fun j => ?_
   refine ze (zd hO 3 [] [(0, .slice A0 p0.length c0), (4, .slice A39 x42.length c40), (5, zqz x44), (8, zbT c88.1), (10, .slice A0 p0.length c0), (11, zqz (p0.length : Int)), (12, zqz x46), (23, .bool (!c88.2))] zqq fun j => ?_)
   have hO := hO.sel [0] (by decide)
   have hO : Obs _ _ [_] := hO
   obtain ⟨c92, h93, hF⟩ := bind_some hF
   refine zbQ 2 (fun e' σ' => ∃ (τ' : Hp), agr [(28, .bool c92), (0, .slice A0 p0.length c0), (4, .slice A39 x42.length c40), (5, zqz x44), (8, zbT c88.1), (10, .slice A0 p0.length c0), (11, zqz (p0.length : Int)), (12, zqz x46)] e' ∧ Obs τ' σ' [o41] ∧ Hp.le τ τ' ∧ RdT zbs τ' (.slice A0 p0.length c0) p0 ∧ zr zhY 151 τ' (.slice A39 x42.length c40) x42 o41 ∧ RdT zbs τ' (.slice A0 p0.length c0) p0) ?_ ?_
   ·have hF := h93
    rcases zi hF with ⟨hb94, hF⟩ | ⟨hb94, hF⟩
    ·refine z9 (congrArg (fun x => isB (.bool x) false) hb94) ?_
     refine zJ (congrArg Value.bool hb94) ?_
     refine zh ?_
     injection hF with hF
     subst hF
     refine zg ?_
     exact ⟨rfl, _, zqy zqp, hO, hL, r38, w43, r45⟩
    ·refine z7 (congrArg (fun x => isB (.bool x) false) hb94) ?_
     refine zd hO 1 [] [(0, .slice A0 p0.length c0), (4, .slice A39 x42.length c40), (5, zqz x44), (8, zbT c88.1), (10, .slice A0 p0.length c0), (11, zqz (p0.length : Int)), (12, zqz x46), (23, .bool (!c88.2)), (24, zbT c88.1)] zqr fun j => ?_
     obtain ⟨c95, h96, hF⟩ := bind_some hF
     refine zkS rfl hO (zlV h96) rfl fun _ σ _ _ hO h97 h98 => ?_
     have hL := hL.trans h97
     have r38 := r38.le h97
     have w43 := w43.le h97
     have r45 := r45.le h97
     obtain ⟨rfl, rfl⟩ := h98
     have hO : Obs _ _ [_] := hO
     refine zd hO 2 [] [(0, .slice A0 p0.length c0), (4, .slice A39 x42.length c40), (5, zqz x44), (8, zbT c88.1), (10, .slice A0 p0.length c0), (11, zqz (p0.length : Int)), (12, zqz x46), (23, .bool (!c88.2)), (27, .bool (decide (c95 > x44)))] zqr fun j => ?_
     refine zJ (congrArg Value.bool hb94) ?_
     refine zh ?_
     injection hF with hF
     subst hF
     refine zg ?_
     exact ⟨rfl, _, zqy zqp, hO, hL, r38, w43, r45⟩
   ·rintro e σ ⟨_, hA, hO, hL, r38, w43, r45⟩
    rw [← zL _ _ hA]
    refine zh ?_
    rcases zi hF with ⟨hb99, hF⟩ | ⟨hb99, hF⟩
    ·refine zk (congrArg Value.bool hb99) ?_
     refine ze (zc hO [] [(2, .slice none 0 0), (3, .bool false)] zqk fun j => ?_)
     refine zu (zw (zn (zn (zw (zn ?_)))))
     have hO := hO.no
     have hO : Obs _ _ [_, _] := hO
     injection hF with hF
     subst hF
     have hO := hO.sel [1] (by decide)
     exact hQ _ _ _ _ _ rfl hO hL ⟨_, _, rfl, rfl, (zr.nil _ _ _)⟩
    ·refine zl (congrArg Value.bool hb99) ?_
     refine zm (zd hO 2 [] [(0, .slice A0 p0.length c0), (4, .slice A39 x42.length c40), (8, zbT c88.1), (10, .slice A0 p0.length c0), (11, zqz (p0.length : Int)), (12, zqz x46), (29, zqz x44), (30, zbT c88.1)] zqq fun j => ?_)
     obtain ⟨c100, h101, hF⟩ := bind_some hF
     refine zkS rfl hO (zlV h101) rfl fun _ σ _ _ hO h102 h103 => ?_
     have hL := hL.trans h102
     have r38 := r38.le h102
     have w43 := w43.le h102
     have r45 := r45.le h102
     obtain ⟨rfl, rfl⟩ := h103
     have hO : Obs _ _ [_] := hO
     refine zc hO [] [(0, .slice A0 p0.length c0), (4, .slice A39 x42.length c40), (5, zqz (IntKind.i64.wrap (x44 + (IntKind.i64.wrap (1 - c100))))), (8, zbT c88.1), (10, .slice A0 p0.length c0), (11, zqz (p0.length : Int)), (12, zqz x46)] zqp fun j => ?_
     refine ze (zc hO [] [(0, .slice A0 p0.length c0), (4, .slice A39 x42.length c40), (5, zqz (IntKind.i64.wrap (x44 + (IntKind.i64.wrap (1 - c100))))), (8, zbT c88.1), (10, .slice A0 p0.length c0), (11, zqz (p0.length : Int)), (12, zqz x46), (35, .bool (decide ((IntKind.i64.wrap (x44 + (IntKind.i64.wrap (1 - c100)))) > 8)))] zqq fun j => ?_)
     rcases zi hF with ⟨hb104, hF⟩ | ⟨hb104, hF⟩
     ·refine zk (congrArg Value.bool hb104) ?_
      refine ze (zc hO [] [(2, .slice none 0 0), (3, .bool false)] zqk fun j => ?_)
      refine zu (zw (zn (zn (zw (zn ?_)))))
      have hO := hO.no
      have hO : Obs _ _ [_, _] := hO
      injection hF with hF
      subst hF
      have hO := hO.sel [1] (by decide)
      exact hQ _ _ _ _ _ rfl hO hL ⟨_, _, rfl, rfl, (zr.nil _ _ _)⟩
     ·refine zl (congrArg Value.bool hb104) ?_
      refine zm (zA (zd hO 2 [] [(0, .slice A0 p0.length c0), (5, zqz (IntKind.i64.wrap (x44 + (IntKind.i64.wrap (1 - c100))))), (10, .slice A0 p0.length c0), (11, zqz (p0.length : Int)), (12, zqz x46), (36, .slice A39 x42.length c40), (37, zbT c88.1)] zqp fun j => ?_))
      obtain ⟨_, hr109, hF⟩ := bind_some hF
      refine zbN (T := zhY) (y := c88.1) hO w43 (i := 0) rfl rfl (fun _ => rfl) (show (zbT c88.1).cells.toList = _ from zpE _) (show _ = _ from rfl) rfl hr109 (by decide) fun u _ σ o107 w108 hO => ?_
      obtain ⟨A105, c106, rfl, -⟩ := w108.form
      have hO : Obs _ _ [_] := hO
      refine zc hO [] [(0, .slice A0 p0.length c0), (4, .slice A105 (x42 ++ [c88.1]).length c106), (5, zqz (IntKind.i64.wrap (x44 + (IntKind.i64.wrap (1 - c100))))), (10, .slice A0 p0.length c0), (11, zqz (p0.length : Int)), (12, zqz x46)] zqo fun j => ?_
      refine zg (zP (zj (zA (zc hO [] [(0, .slice A0 p0.length c0), (4, .slice A105 (x42 ++ [c88.1]).length c106), (5, zqz (IntKind.i64.wrap (x44 + (IntKind.i64.wrap (1 - c100))))), (10, .slice A0 p0.length c0), (11, zqz (p0.length : Int)), (12, zqz (IntKind.i64.wrap (x46 + 1)))] zqo fun j => ?_))))
      refine zg (zj ?_)
      exact ⟨n80, Nat.lt_succ_self _, A105, c106, o107, (x42 ++ [c88.1]), (IntKind.i64.wrap (x44 + (IntKind.i64.wrap (1 - c100)))), (IntKind.i64.wrap (x46 + 1)), _, zqy zqn, hO, hL, r38, w108, r45, hF⟩
  ·refine zl (congrArg Value.bool hb81) ?_
   refine zU (zY (z0 (zj (zd hO 5 [] [(0, .slice A0 p0.length c0), (5, zqz x44), (41, .slice A39 x42.length c40), (45, .bool (decide ((p0.length : Int) ≤ 16)))] zqm fun j => ?_))))
   obtain ⟨c110, h111, hF⟩ := bind_some hF
   refine zbK 4 [(53, .bool c110), (41, .slice A39 x42.length c40)] (fun Q hQ => ?_) fun j => ?_
   ·have hF := h111
    rcases zi hF with ⟨hb112, hF⟩ | ⟨hb112, hF⟩
    ·refine z7 (congrArg (fun x => isB (.bool x) true) hb112) ?_
     refine zd hO 4 [] [(5, zqz x44), (41, .slice A39 x42.length c40), (45, .bool (decide ((p0.length : Int) ≤ 16))), (49, .bool ((p0.length : Int) == 0))] zqm fun j => ?_
     rcases zi hF with ⟨hb113, hF⟩ | ⟨hb113, hF⟩
     ·refine z9 (congrArg (fun x => isB (.bool x) false) hb113) ?_
      refine z7 (congrArg (fun x => isB (.bool x) true) hb112) ?_
      refine zJ (congrArg Value.bool hb113) ?_
      refine zJ (congrArg Value.bool hb112) ?_
      refine zh ?_
      injection hF with hF
      subst hF
      refine zg ?_
      exact hQ _ zqk
     ·refine z7 (congrArg (fun x => isB (.bool x) false) hb113) ?_
      refine zd hO 2 [] [(41, .slice A39 x42.length c40), (45, .bool (decide ((p0.length : Int) ≤ 16))), (49, .bool ((p0.length : Int) == 0)), (51, .bool (x44 == 1))] zqm fun j => ?_
      refine z7 (congrArg (fun x => isB (.bool x) true) hb112) ?_
      refine zJ (congrArg Value.bool hb113) ?_
      refine zJ (congrArg Value.bool hb112) ?_
      refine zh ?_
      injection hF with hF
      subst hF
      refine zg ?_
      exact hQ _ zqk
    ·refine z9 (congrArg (fun x => isB (.bool x) true) hb112) ?_
     refine z9 rfl ?_
     refine z9 (congrArg (fun x => isB (.bool x) true) hb112) ?_
     refine zJ (congrArg Value.bool hb112) ?_
     refine zh ?_
     injection hF with hF
     subst hF
     refine zg ?_
     exact hQ _ zqk
   ·refine zc hO [] [(2, .slice A39 x42.length c40), (3, .bool c110)] zqk fun j => ?_
    refine zK ?_
    injection hF with hF
    subst hF
    exact hQ _ _ _ _ _ rfl hO hL ⟨_, _, rfl, rfl, w43⟩
theorem zjf {τ : Hp} {v0 : Value} {p0 : (List zE)} (r0 : RdT zbs τ v0 p0) {rr : Bool} (hF : zd4 p0 = some rr) :
  Ctr Tryz.prog 84 #[v0] τ [] (fun v τ' vs' => v = .bool rr ∧ vs' = []) := by
 obtain ⟨A0, c0, rfl, -⟩ := r0.form
 refine zM (args := [.slice A0 p0.length c0]) hm Tryz.func84 s84 rfl fun w0 σ hO Q hQ => ?_
 unfold zd4 at hF
 have hL := Hp.le.refl τ
 show wpn _ _ a84.body _ _ _
 unfold a84
 dsimp only
 refine zc hO [] [(0, .slice A0 p0.length c0)] zqj fun j => ?_
 refine zd hO 1 [] [(6, .slice A0 p0.length c0)] zqj fun j => ?_
 obtain ⟨c2, h3, hF⟩ := bind_some hF
 refine zD hO (znI r0 h3) rfl fun _ σ _ _ hO h4 h5 => ?_
 have hL := hL.trans h4
 have r0 := r0.le h4
 obtain ⟨v6, o9, rfl, rfl, w10⟩ := h5
 obtain ⟨A7, c8, rfl, -⟩ := w10.form
 have hO : Obs _ _ [_] := hO
 refine zc hO [] [(4, .bool c2.2)] zqj fun j => ?_
 refine zc hO [] [(2, .bool c2.2)] zqj fun j => ?_
 refine zK ?_
 injection hF with hF
 subst hF
 have hO := hO.sel [] (by decide)
 exact hQ _ _ _ _ _ rfl hO hL ⟨rfl, rfl⟩
theorem zib {τ : Hp} {v0 : Value} {p0 : (List zq)} (r0 : RdT zT τ v0 p0) {rr : Bool} (hF : zeA p0 = some rr) :
  Ctr Tryz.prog 66 #[v0] τ [] (fun v τ' vs' => v = .bool rr ∧ vs' = []) := by
 obtain ⟨A0, c0, rfl, -⟩ := r0.form
 refine zM (args := [.slice A0 p0.length c0]) hm Tryz.func66 s66 rfl fun w0 σ hO Q hQ => ?_
 unfold zeA at hF
 have hL := Hp.le.refl τ
 show wpn _ _ a66.body _ _ _
 unfold a66
 dsimp only
 refine zc hO [] [(0, .slice A0 p0.length c0)] zqj fun j => ?_
 refine zc hO [] [(0, .slice A0 p0.length c0), (3, zqz 0)] zqk fun j => ?_
 refine ze (zc hO [] [(0, .slice A0 p0.length c0), (3, zqz 0), (6, .slice A0 p0.length c0), (7, zqz (p0.length : Int)), (8, zqz 0)] zqn fun j => ?_)
 refine zt (zZ (fun (n : Nat) e' σ' => ∃ (x24 : Int) (x26 : Int) (τ' : Hp), agr [(0, .slice A0 p0.length c0), (3, zqz x24), (6, .slice A0 p0.length c0), (7, zqz (p0.length : Int)), (8, zqz x26)] e' ∧ Obs τ' σ' [] ∧ Hp.le τ τ' ∧ RdT zT τ' (.slice A0 p0.length c0) p0 ∧ RdT zT τ' (.slice A0 p0.length c0) p0 ∧ zfs p0 n x24 x26 = some rr) big ⟨0, 0, _, zqy zqm, hO, hL, r0, r0, hF⟩ ?_)
 clear hF hO hL
 rintro n46 e σ ⟨x24, x26, _, hA, hO, hL, r23, r25, hF⟩
 rw [← zL _ _ hA]
 cases n46 with
 | zero => exact nomatch (show none = some rr from hF)
 | succ n46 =>
  replace hF : zfT (zfs p0 n46) p0 x24 x26 = some rr := hF
  unfold zfT at hF
  refine zc hO [] [(0, .slice A0 p0.length c0), (3, zqz x24), (6, .slice A0 p0.length c0), (7, zqz (p0.length : Int)), (8, zqz x26), (9, .bool (decide (x26 < (p0.length : Int))))] zqo fun j => ?_
  rcases zi hF with ⟨hb47, hF⟩ | ⟨hb47, hF⟩
  ·refine zk (congrArg Value.bool hb47) ?_
   refine zm (zt ?_)
   obtain ⟨y48, g49, hF⟩ := bind_some hF
   refine zC (T := zT) r25 hO.base rfl rfl g49 (by decide) fun a50 _ k51 m52 => ?_
   obtain ⟨v53, rfl, r54⟩ := k51
   obtain ⟨A55, c56, rfl, -⟩ := r54.form
   refine zy rfl ((m52.le hO.base).all rfl) ?_
   refine zbq hO fun b57 σ hO => ?_
   have hO : Obs _ _ [_] := hO
   refine zO hO (i := 0) rfl (off := 0) rfl rfl rfl rfl (Nat.le_of_ble_eq_true rfl) rfl fun σ hO => ?_
   have hO : Obs _ _ [_] := hO
   refine zh (ze (zd hO 14 [0, 0, 0, 0, 0] [(0, .slice A0 p0.length c0), (5, zqA b57), (6, .slice A0 p0.length c0), (7, zqz (p0.length : Int)), (8, zqz x26), (34, .bool ((((decide (y48.From < x24)) || (decide (y48.To ≤ y48.From))) || (decide (y48.To > 16777216))) || ((y48.At.length : Int) == 0)))] (And.intro (And.intro rfl rfl) (And.intro (And.intro rfl rfl) (And.intro (And.intro rfl rfl) (And.intro (And.intro rfl rfl) (fun _ => And.intro (And.intro rfl rfl) (And.intro (And.intro rfl rfl) (fun _ => And.intro (And.intro rfl rfl) (And.intro (And.intro rfl rfl) (fun _ => zqy zqn))))))))) fun j => ?_))
   obtain ⟨c58, h59, hF⟩ := bind_some hF
   refine zbQ 2 (fun e' σ' => ∃ (τ' : Hp), agr [(39, .bool c58), (0, .slice A0 p0.length c0), (5, zqA b57), (6, .slice A0 p0.length c0), (7, zqz (p0.length : Int)), (8, zqz x26)] e' ∧ Obs τ' σ' [some (b57, ⟨[.int .i64 y48.From, .int .i64 y48.To, .slice A55 y48.At.length c56], 99, 3, true⟩)] ∧ Hp.le τ τ' ∧ RdT zT τ' (.slice A0 p0.length c0) p0 ∧ RdT zT τ' (.slice A0 p0.length c0) p0 ∧ RdT zbs τ' (.slice A55 y48.At.length c56) y48.At) ?_ ?_
   ·have hF := h59
    rcases zi hF with ⟨hb60, hF⟩ | ⟨hb60, hF⟩
    ·refine z9 (congrArg (fun x => isB (.bool x) false) hb60) ?_
     refine zJ (congrArg Value.bool hb60) ?_
     refine zh ?_
     injection hF with hF
     subst hF
     refine zg ?_
     exact ⟨rfl, _, zqy zqn, hO, hL, r23, r25, r54⟩
    ·refine z7 (congrArg (fun x => isB (.bool x) false) hb60) ?_
     refine zd hO 2 [0] [(0, .slice A0 p0.length c0), (5, zqA b57), (6, .slice A0 p0.length c0), (7, zqz (p0.length : Int)), (8, zqz x26), (34, .bool ((((decide (y48.From < x24)) || (decide (y48.To ≤ y48.From))) || (decide (y48.To > 16777216))) || ((y48.At.length : Int) == 0))), (36, .slice A55 y48.At.length c56)] (And.intro (And.intro rfl rfl) zqp) fun j => ?_
     obtain ⟨c61, h62, hF⟩ := bind_some hF
     refine zD hO (zjf r54 h62) rfl fun _ σ _ _ hO h63 h64 => ?_
     have hL := hL.trans h63
     have r23 := r23.le h63
     have r25 := r25.le h63
     have r54 := r54.le h63
     obtain ⟨rfl, rfl⟩ := h64
     have hO : Obs _ _ [_] := hO
     refine zd hO 1 [] [(0, .slice A0 p0.length c0), (5, zqA b57), (6, .slice A0 p0.length c0), (7, zqz (p0.length : Int)), (8, zqz x26), (34, .bool ((((decide (y48.From < x24)) || (decide (y48.To ≤ y48.From))) || (decide (y48.To > 16777216))) || ((y48.At.length : Int) == 0))), (38, .bool (!c61))] zqp fun j => ?_
     refine zJ (congrArg Value.bool hb60) ?_
     refine zh ?_
     injection hF with hF
     subst hF
     refine zg ?_
     exact ⟨rfl, _, zqy zqn, hO, hL, r23, r25, r54⟩
   ·rintro e σ ⟨_, hA, hO, hL, r23, r25, r54⟩
    rw [← zL _ _ hA]
    refine zh ?_
    rcases zi hF with ⟨hb65, hF⟩ | ⟨hb65, hF⟩
    ·refine zk (congrArg Value.bool hb65) ?_
     refine ze (zc hO [] [(2, .bool false)] zqj fun j => ?_)
     refine zu (zw (zn (zn (zw (zn ?_)))))
     injection hF with hF
     subst hF
     have hO := hO.sel [] (by decide)
     exact hQ _ _ _ _ _ rfl hO hL ⟨rfl, rfl⟩
    ·refine zl (congrArg Value.bool hb65) ?_
     refine zm (zA (zc hO [0] [(0, .slice A0 p0.length c0), (3, zqz y48.To), (6, .slice A0 p0.length c0), (7, zqz (p0.length : Int)), (8, zqz x26)] (And.intro (And.intro rfl rfl) zqn) fun j => ?_))
     refine zg (zP (zj (zA (zc hO [] [(0, .slice A0 p0.length c0), (3, zqz y48.To), (6, .slice A0 p0.length c0), (7, zqz (p0.length : Int)), (8, zqz (IntKind.i64.wrap (x26 + 1)))] zqn fun j => ?_))))
     refine zg (zj ?_)
     have hO := hO.sel [] (by decide)
     exact ⟨n46, Nat.lt_succ_self _, y48.To, (IntKind.i64.wrap (x26 + 1)), _, zqy zqm, hO, hL, r23, r25, hF⟩
  ·refine zl (congrArg Value.bool hb47) ?_
   refine zU (zY (z0 (zj (zc hO [] [(2, .bool (decide ((p0.length : Int) ≤ 4000)))] zqj fun j => ?_))))
   refine zK ?_
   injection hF with hF
   subst hF
   exact hQ _ _ _ _ _ rfl hO hL ⟨rfl, rfl⟩
theorem znl {τ : Hp} {p0 : zo} {v0_3 : Value} {v0_4 : Value} {p1 : Int} (r0_3 : RdT zby τ v0_3 p0.Vars) (r0_4 : RdT (Ty.slice zT) τ v0_4 p0.Spans) {rr : Bool} (hF : zeD p0 p1 = some rr) :
  Ctr Tryz.prog 34 #[.agg #[.string p0.Name, .int .i64 p0.From, .int .i64 p0.To, v0_3, v0_4], .int .i64 p1] τ [] (fun v τ' vs' => v = .bool rr ∧ vs' = []) := by
 obtain ⟨A0_3, c0_3, rfl, -⟩ := r0_3.form
 obtain ⟨A0_4, c0_4, rfl, -⟩ := r0_4.form
 refine zM (args := [.agg #[.string p0.Name, .int .i64 p0.From, .int .i64 p0.To, (.slice A0_3 p0.Vars.length c0_3), (.slice A0_4 p0.Spans.length c0_4)], .int .i64 p1]) hm Tryz.func34 s34 rfl fun w0 σ hO Q hQ => ?_
 unfold zeD at hF
 have hL := Hp.le.refl τ
 show wpn _ _ a34.body _ _ _
 unfold a34
 dsimp only
 refine zb2 (n := 5) hO rfl rfl fun b3 σ hO => ?_
 have hO : Obs _ _ [_] := hO
 refine zc hO [] [(1, zqz p1), (2, zqA b3)] zqk fun j => ?_
 refine ze (zd hO 2 [0] [(1, zqz p1), (2, zqA b3), (10, .string p0.Name)] (And.intro (And.intro rfl rfl) zql) fun j => ?_)
 obtain ⟨c4, h5, hF⟩ := bind_some hF
 refine zD hO (zhV h5) rfl fun _ σ _ _ hO h6 h7 => ?_
 have hL := hL.trans h6
 have r0_3 := r0_3.le h6
 have r0_4 := r0_4.le h6
 obtain ⟨rfl, rfl⟩ := h7
 have hO : Obs _ _ [_] := hO
 refine zc hO [0, 0, 0, 0, 0, 0, 0] [(2, zqA b3), (45, .bool ((((((!c4) || (decide (p0.From < p1))) || (decide (p0.To ≤ p0.From))) || (decide (p0.To > 16777216))) || (decide ((p0.Vars.length : Int) > 64))) || ((p0.Spans.length : Int) != (p0.Vars.length : Int))))] (And.intro (And.intro rfl rfl) (And.intro (And.intro rfl rfl) (fun _ => And.intro (And.intro rfl rfl) (And.intro (And.intro rfl rfl) (And.intro (And.intro rfl rfl) (fun _ => And.intro (And.intro rfl rfl) (And.intro (And.intro rfl rfl) (fun _ => And.intro (And.intro rfl rfl) (And.intro (And.intro rfl rfl) (fun _ => And.intro (And.intro rfl rfl) (And.intro (And.intro rfl rfl) (And.intro (And.intro rfl rfl) (fun _ => zqy zqj))))))))))))) fun j => ?_
 rcases zi hF with ⟨hb8, hF⟩ | ⟨hb8, hF⟩
 ·refine zk (congrArg Value.bool hb8) ?_
  refine ze (zc hO [] [(4, .bool false)] zqj fun j => ?_)
  refine zu ?_
  injection hF with hF
  subst hF
  have hO := hO.sel [] (by decide)
  exact hQ _ _ _ _ _ rfl hO hL ⟨rfl, rfl⟩
 ·refine zl (congrArg Value.bool hb8) ?_
  refine zm (ze (zc hO [0] [(2, zqA b3), (47, .slice A0_3 p0.Vars.length c0_3), (48, zqz (p0.Vars.length : Int)), (49, zqz 0)] (And.intro (And.intro rfl rfl) zqm) fun j => ?_))
  refine zt (zZ (fun (n : Nat) e' σ' => ∃ (x70 : Int) (τ' : Hp), agr [(2, zqA b3), (47, .slice A0_3 p0.Vars.length c0_3), (48, zqz (p0.Vars.length : Int)), (49, zqz x70)] e' ∧ Obs τ' σ' [some (b3, ⟨[.string p0.Name, .int .i64 p0.From, .int .i64 p0.To, .slice A0_3 p0.Vars.length c0_3, .slice A0_4 p0.Spans.length c0_4], 48, 5, true⟩)] ∧ Hp.le τ τ' ∧ RdT zby τ' (.slice A0_3 p0.Vars.length c0_3) p0.Vars ∧ RdT (Ty.slice zT) τ' (.slice A0_4 p0.Spans.length c0_4) p0.Spans ∧ RdT zby τ' (.slice A0_3 p0.Vars.length c0_3) p0.Vars ∧ zfy p0 n x70 = some rr) big ⟨0, _, zqy zql, hO, hL, r0_3, r0_4, r0_3, hF⟩ ?_)
  clear hF hO hL
  rintro n126 e σ ⟨x70, _, hA, hO, hL, r67, r68, r69, hF⟩
  rw [← zL _ _ hA]
  cases n126 with
  | zero => exact nomatch (show none = some rr from hF)
  | succ n126 =>
   replace hF : zgq (zfy p0 n126) p0 x70 = some rr := hF
   unfold zgq at hF
   refine zc hO [] [(2, zqA b3), (47, .slice A0_3 p0.Vars.length c0_3), (48, zqz (p0.Vars.length : Int)), (49, zqz x70), (50, .bool (decide (x70 < (p0.Vars.length : Int))))] zqn fun j => ?_
   rcases zi hF with ⟨hb127, hF⟩ | ⟨hb127, hF⟩
   ·refine zk (congrArg Value.bool hb127) ?_
    refine zm (zt (zd hO 1 [] [(2, zqA b3), (47, .slice A0_3 p0.Vars.length c0_3), (48, zqz (p0.Vars.length : Int)), (49, zqz x70), (51, zqz x70)] zqn fun j => ?_))
    obtain ⟨y128, g129, hF⟩ := bind_some hF
    refine zC (T := zby) r69 hO.base rfl rfl g129 (by decide) fun a130 _ k131 m132 => ?_
    obtain ⟨v133, rfl, r134⟩ := k131
    obtain ⟨A135, c136, rfl, -⟩ := r134.form
    refine zy rfl ((m132.le hO.base).all rfl) ?_
    refine zbq hO fun b137 σ hO => ?_
    have hO : Obs _ _ [_, _] := hO
    refine zd hO 1 [] [(2, zqA b3), (5, zqz x70), (6, zqA b137), (47, .slice A0_3 p0.Vars.length c0_3), (48, zqz (p0.Vars.length : Int)), (49, zqz x70), (53, .agg #[(.string y128.Name), (.int .u8 (y128.Type_.Kind.toNat : Int)), (.int .i64 y128.Type_.N), (.string y128.Type_.Name), (.int .i64 y128.Words), (.slice A135 y128.Fields.length c136)])] zqp fun j => ?_
    refine zO hO (i := 1) rfl (off := 0) rfl rfl rfl rfl (Nat.le_of_ble_eq_true rfl) rfl fun σ hO => ?_
    have hO : Obs _ _ [_, _] := hO
    refine zh (zd hO 3 [0] [(2, zqA b3), (6, zqA b137), (47, .slice A0_3 p0.Vars.length c0_3), (48, zqz (p0.Vars.length : Int)), (49, zqz x70), (55, .slice A0_4 p0.Spans.length c0_4), (56, zqz x70)] (And.intro (And.intro rfl rfl) zqp) fun j => ?_)
    obtain ⟨y138, g139, hF⟩ := bind_some hF
    refine zC (T := (Ty.slice zT)) r68 hO.base rfl rfl g139 (by decide) fun a140 _ k141 m142 => ?_
    obtain ⟨v143, rfl, r144⟩ := k141
    obtain ⟨A145, c146, rfl, -⟩ := r144.form
    refine zy rfl (m142.le hO.base).fst ?_
    refine zc hO [] [(2, zqA b3), (6, zqA b137), (7, .slice A145 y138.length c146), (47, .slice A0_3 p0.Vars.length c0_3), (48, zqz (p0.Vars.length : Int)), (49, zqz x70)] zqo fun j => ?_
    refine ze (zd hO 1 [1] [(2, zqA b3), (7, .slice A145 y138.length c146), (47, .slice A0_3 p0.Vars.length c0_3), (48, zqz (p0.Vars.length : Int)), (49, zqz x70), (59, .agg #[(.string y128.Name), (.int .u8 (y128.Type_.Kind.toNat : Int)), (.int .i64 y128.Type_.N), (.string y128.Type_.Name), (.int .i64 y128.Words), (.slice A135 y128.Fields.length c136)])] (And.intro (And.intro rfl rfl) zqo) fun j => ?_)
    obtain ⟨c147, h148, hF⟩ := bind_some hF
    refine zD hO (zpa (p0 := (⟨y128.Name, (⟨y128.Type_.Kind, y128.Type_.N, y128.Type_.Name⟩ : zbp), y128.Words, y128.Fields⟩ : zG)) r134 h148) rfl fun _ σ _ _ hO h149 h150 => ?_
    have hL := hL.trans h149
    have r144 := r144.le h149
    have r69 := r69.le h149
    have r134 := r134.le h149
    have r67 := r67.le h149
    have r68 := r68.le h149
    obtain ⟨rfl, rfl⟩ := h150
    have hO : Obs _ _ [_, _] := hO
    refine zd hO 2 [] [(2, zqA b3), (7, .slice A145 y138.length c146), (47, .slice A0_3 p0.Vars.length c0_3), (48, zqz (p0.Vars.length : Int)), (49, zqz x70), (62, .bool (!c147))] zqo fun j => ?_
    have hO := hO.sel [0] (by decide)
    have hO : Obs _ _ [_] := hO
    obtain ⟨c151, h152, hF⟩ := bind_some hF
    refine zbQ 2 (fun e' σ' => ∃ (τ' : Hp), agr [(66, .bool c151), (2, zqA b3), (7, .slice A145 y138.length c146), (47, .slice A0_3 p0.Vars.length c0_3), (48, zqz (p0.Vars.length : Int)), (49, zqz x70)] e' ∧ Obs τ' σ' [some (b3, ⟨[.string p0.Name, .int .i64 p0.From, .int .i64 p0.To, .slice A0_3 p0.Vars.length c0_3, .slice A0_4 p0.Spans.length c0_4], 48, 5, true⟩)] ∧ Hp.le τ τ' ∧ RdT zT τ' (.slice A145 y138.length c146) y138 ∧ RdT zby τ' (.slice A0_3 p0.Vars.length c0_3) p0.Vars ∧ RdT zby τ' (.slice A0_3 p0.Vars.length c0_3) p0.Vars ∧ RdT (Ty.slice zT) τ' (.slice A0_4 p0.Spans.length c0_4) p0.Spans) ?_ ?_
    ·have hF := h152
     rcases zi hF with ⟨hb153, hF⟩ | ⟨hb153, hF⟩
     ·refine z9 (congrArg (fun x => isB (.bool x) false) hb153) ?_
      refine zJ (congrArg Value.bool hb153) ?_
      refine zh ?_
      injection hF with hF
      subst hF
      refine zg ?_
      exact ⟨rfl, _, zqy zqn, hO, hL, r144, r69, r67, r68⟩
     ·refine z7 (congrArg (fun x => isB (.bool x) false) hb153) ?_
      refine zd hO 1 [] [(2, zqA b3), (7, .slice A145 y138.length c146), (47, .slice A0_3 p0.Vars.length c0_3), (48, zqz (p0.Vars.length : Int)), (49, zqz x70), (62, .bool (!c147)), (63, .slice A145 y138.length c146)] zqp fun j => ?_
      obtain ⟨c154, h155, hF⟩ := bind_some hF
      refine zD hO (zib r144 h155) rfl fun _ σ _ _ hO h156 h157 => ?_
      have hL := hL.trans h156
      have r144 := r144.le h156
      have r69 := r69.le h156
      have r67 := r67.le h156
      have r68 := r68.le h156
      obtain ⟨rfl, rfl⟩ := h157
      have hO : Obs _ _ [_] := hO
      refine zd hO 1 [] [(2, zqA b3), (7, .slice A145 y138.length c146), (47, .slice A0_3 p0.Vars.length c0_3), (48, zqz (p0.Vars.length : Int)), (49, zqz x70), (62, .bool (!c147)), (65, .bool (!c154))] zqp fun j => ?_
      refine zJ (congrArg Value.bool hb153) ?_
      refine zh ?_
      injection hF with hF
      subst hF
      refine zg ?_
      exact ⟨rfl, _, zqy zqn, hO, hL, r144, r69, r67, r68⟩
    ·rintro e σ ⟨_, hA, hO, hL, r144, r69, r67, r68⟩
     rw [← zL _ _ hA]
     refine zh ?_
     rcases zi hF with ⟨hb158, hF⟩ | ⟨hb158, hF⟩
     ·refine zk (congrArg Value.bool hb158) ?_
      refine ze (zc hO [] [(4, .bool false)] zqj fun j => ?_)
      refine zu (zw (zn (zn (zw (zn ?_)))))
      injection hF with hF
      subst hF
      have hO := hO.sel [] (by decide)
      exact hQ _ _ _ _ _ rfl hO hL ⟨rfl, rfl⟩
     ·refine zl (congrArg Value.bool hb158) ?_
      refine zm (zc hO [] [(2, zqA b3), (7, .slice A145 y138.length c146), (8, zqz (y138.length : Int)), (47, .slice A0_3 p0.Vars.length c0_3), (48, zqz (p0.Vars.length : Int)), (49, zqz x70)] zqo fun j => ?_)
      refine zbr (zd hO 3 [] [(2, zqA b3), (7, .slice A145 y138.length c146), (8, zqz (y138.length : Int)), (47, .slice A0_3 p0.Vars.length c0_3), (48, zqz (p0.Vars.length : Int)), (49, zqz x70), (71, .bool (decide ((y138.length : Int) > 0)))] zqp fun j => ?_)
      obtain ⟨c159, h160, hF⟩ := bind_some hF
      refine zbK 4 [(90, .bool c159), (2, zqA b3), (47, .slice A0_3 p0.Vars.length c0_3), (48, zqz (p0.Vars.length : Int)), (49, zqz x70)] (fun Q hQ => ?_) fun j => ?_
      ·have hF := h160
       rcases zi hF with ⟨hb161, hF⟩ | ⟨hb161, hF⟩
       ·refine z7 (congrArg (fun x => isB (.bool x) true) hb161) ?_
        refine zd hO 1 [] [(2, zqA b3), (7, .slice A145 y138.length c146), (8, zqz (y138.length : Int)), (47, .slice A0_3 p0.Vars.length c0_3), (48, zqz (p0.Vars.length : Int)), (49, zqz x70), (71, .bool (decide ((y138.length : Int) > 0))), (72, .slice A145 y138.length c146)] zqq fun j => ?_
        obtain ⟨y162, g163, hF⟩ := bind_some hF
        refine zC (T := zT) r144 hO.base rfl rfl g163 (by decide) fun a164 _ k165 m166 => ?_
        obtain ⟨v167, rfl, r168⟩ := k165
        obtain ⟨A169, c170, rfl, -⟩ := r168.form
        refine zd hO 1 [] [(2, zqA b3), (7, .slice A145 y138.length c146), (8, zqz (y138.length : Int)), (47, .slice A0_3 p0.Vars.length c0_3), (48, zqz (p0.Vars.length : Int)), (49, zqz x70), (71, .bool (decide ((y138.length : Int) > 0))), (74, .pointer (some a164))] zqq fun j => ?_
        refine zy rfl (m166.le hO.base).fst ?_
        refine zd hO 4 [0] [(2, zqA b3), (7, .slice A145 y138.length c146), (8, zqz (y138.length : Int)), (47, .slice A0_3 p0.Vars.length c0_3), (48, zqz (p0.Vars.length : Int)), (49, zqz x70), (71, .bool (decide ((y138.length : Int) > 0))), (79, .bool (decide (y162.From < p0.From)))] (And.intro (And.intro rfl rfl) zqq) fun j => ?_
        rcases zi hF with ⟨hb171, hF⟩ | ⟨hb171, hF⟩
        ·refine z9 (congrArg (fun x => isB (.bool x) false) hb171) ?_
         refine z7 (congrArg (fun x => isB (.bool x) true) hb161) ?_
         refine zJ (congrArg Value.bool hb171) ?_
         refine zJ (congrArg Value.bool hb161) ?_
         refine zh ?_
         injection hF with hF
         subst hF
         refine zg ?_
         exact hQ _ zqn
        ·refine z7 (congrArg (fun x => isB (.bool x) false) hb171) ?_
         refine zd hO 3 [] [(2, zqA b3), (47, .slice A0_3 p0.Vars.length c0_3), (48, zqz (p0.Vars.length : Int)), (49, zqz x70), (71, .bool (decide ((y138.length : Int) > 0))), (79, .bool (decide (y162.From < p0.From))), (80, .slice A145 y138.length c146), (82, zqz (IntKind.i64.wrap ((y138.length : Int) - 1)))] zqq fun j => ?_
         obtain ⟨y172, g173, hF⟩ := bind_some hF
         refine zC (T := zT) r144 hO.base rfl rfl g173 (by decide) fun a174 _ k175 m176 => ?_
         obtain ⟨v177, rfl, r178⟩ := k175
         obtain ⟨A179, c180, rfl, -⟩ := r178.form
         refine zd hO 1 [] [(2, zqA b3), (47, .slice A0_3 p0.Vars.length c0_3), (48, zqz (p0.Vars.length : Int)), (49, zqz x70), (71, .bool (decide ((y138.length : Int) > 0))), (79, .bool (decide (y162.From < p0.From))), (84, .pointer (some (a174.add 1)))] zqp fun j => ?_
         refine zy rfl ((m176.le hO.base).one 1 rfl) ?_
         refine zd hO 3 [0] [(2, zqA b3), (47, .slice A0_3 p0.Vars.length c0_3), (48, zqz (p0.Vars.length : Int)), (49, zqz x70), (71, .bool (decide ((y138.length : Int) > 0))), (79, .bool (decide (y162.From < p0.From))), (88, .bool (decide (y172.To > p0.To)))] (And.intro (And.intro rfl rfl) zqp) fun j => ?_
         refine z7 (congrArg (fun x => isB (.bool x) true) hb161) ?_
         refine zJ (congrArg Value.bool hb171) ?_
         refine zJ (congrArg Value.bool hb161) ?_
         refine zh ?_
         injection hF with hF
         subst hF
         refine zg ?_
         exact hQ _ zqn
       ·refine z9 (congrArg (fun x => isB (.bool x) true) hb161) ?_
        refine z9 rfl ?_
        refine z9 (congrArg (fun x => isB (.bool x) true) hb161) ?_
        refine zJ (congrArg Value.bool hb161) ?_
        refine zh ?_
        injection hF with hF
        subst hF
        refine zg ?_
        exact hQ _ zqn
      ·refine zh (zbl ?_)
       rcases zi hF with ⟨hb181, hF⟩ | ⟨hb181, hF⟩
       ·refine zk (congrArg Value.bool hb181) ?_
        refine ze (zc hO [] [(4, .bool false)] zqj fun j => ?_)
        refine zu (zw (zn (zn (zw (zn ?_)))))
        injection hF with hF
        subst hF
        have hO := hO.sel [] (by decide)
        exact hQ _ _ _ _ _ rfl hO hL ⟨rfl, rfl⟩
       ·refine zl (congrArg Value.bool hb181) ?_
        refine zm (zg (zP (zj (zA (zc hO [] [(2, zqA b3), (47, .slice A0_3 p0.Vars.length c0_3), (48, zqz (p0.Vars.length : Int)), (49, zqz (IntKind.i64.wrap (x70 + 1)))] zqm fun j => ?_)))))
        refine zg (zj ?_)
        exact ⟨n126, Nat.lt_succ_self _, (IntKind.i64.wrap (x70 + 1)), _, zqy zql, hO, hL, r67, r68, r69, hF⟩
   ·refine zl (congrArg Value.bool hb127) ?_
    refine zU (zY (z0 (zj (zc hO [] [(4, .bool true)] zqj fun j => ?_))))
    refine zK ?_
    injection hF with hF
    subst hF
    have hO := hO.sel [] (by decide)
    exact hQ _ _ _ _ _ rfl hO hL ⟨rfl, rfl⟩
theorem zm5 {τ : Hp} {p0 : zB} {v0_2 : Value} {v1 : Value} {p1 : (List zo)} (r0_2 : RdT (Ty.int .i64) τ v0_2 p0.Scope) (r1 : RdT zV τ v1 p1) {rr : Bool} (hF : zex p0 p1 = some rr) :
  Ctr Tryz.prog 35 #[.agg #[.int .i64 p0.Func, .int .i64 p0.Line, v0_2], v1] τ [] (fun v τ' vs' => v = .bool rr ∧ vs' = []) := by
 obtain ⟨A0_2, c0_2, rfl, -⟩ := r0_2.form
 obtain ⟨A1, c1, rfl, -⟩ := r1.form
 refine zM (args := [.agg #[.int .i64 p0.Func, .int .i64 p0.Line, (.slice A0_2 p0.Scope.length c0_2)], .slice A1 p1.length c1]) hm Tryz.func35 s35 rfl fun w0 σ hO Q hQ => ?_
 unfold zex at hF
 have hL := Hp.le.refl τ
 show wpn _ _ a35.body _ _ _
 unfold a35
 dsimp only
 refine zb2 (n := 3) hO rfl rfl fun b3 σ hO => ?_
 have hO : Obs _ _ [_] := hO
 refine zc hO [] [(1, .slice A1 p1.length c1), (2, zqA b3)] zqk fun j => ?_
 refine ze (zc hO [0, 0, 0, 0] [(1, .slice A1 p1.length c1), (2, zqA b3), (27, .bool ((((decide (p0.Func < 0)) || (decide (p0.Func ≥ (p1.length : Int)))) || (decide (p0.Line < 1))) || (decide (p0.Line > 1048576))))] (And.intro (And.intro rfl rfl) (And.intro (And.intro rfl rfl) (And.intro (And.intro rfl rfl) (fun _ => And.intro (And.intro rfl rfl) (And.intro (And.intro rfl rfl) (fun _ => And.intro (And.intro rfl rfl) (And.intro (And.intro rfl rfl) (fun _ => zqy zqk)))))))) fun j => ?_)
 rcases zi hF with ⟨hb4, hF⟩ | ⟨hb4, hF⟩
 ·refine zk (congrArg Value.bool hb4) ?_
  refine ze (zc hO [] [(4, .bool false)] zqj fun j => ?_)
  refine zu ?_
  injection hF with hF
  subst hF
  have hO := hO.sel [] (by decide)
  exact hQ _ _ _ _ _ rfl hO hL ⟨rfl, rfl⟩
 ·refine zl (congrArg Value.bool hb4) ?_
  refine zm (zc hO [] [(1, .slice A1 p1.length c1), (2, zqA b3), (5, zqz (-1))] zql fun j => ?_)
  refine ze (zc hO [0] [(1, .slice A1 p1.length c1), (2, zqA b3), (5, zqz (-1)), (29, .slice A0_2 p0.Scope.length c0_2), (30, zqz (p0.Scope.length : Int)), (31, zqz 0)] (And.intro (And.intro rfl rfl) zqo) fun j => ?_)
  refine zt (zZ (fun (n : Nat) e' σ' => ∃ (x33 : Int) (x35 : Int) (τ' : Hp), agr [(1, .slice A1 p1.length c1), (2, zqA b3), (5, zqz x33), (29, .slice A0_2 p0.Scope.length c0_2), (30, zqz (p0.Scope.length : Int)), (31, zqz x35)] e' ∧ Obs τ' σ' [some (b3, ⟨[.int .i64 p0.Func, .int .i64 p0.Line, .slice A0_2 p0.Scope.length c0_2], 58, 3, true⟩)] ∧ Hp.le τ τ' ∧ RdT zV τ' (.slice A1 p1.length c1) p1 ∧ RdT (Ty.int .i64) τ' (.slice A0_2 p0.Scope.length c0_2) p0.Scope ∧ RdT (Ty.int .i64) τ' (.slice A0_2 p0.Scope.length c0_2) p0.Scope ∧ zgi p0 p1 n x33 x35 = some rr) big ⟨(-1), 0, _, zqy zqn, hO, hL, r1, r0_2, r0_2, hF⟩ ?_)
  clear hF hO hL
  rintro n59 e σ ⟨x33, x35, _, hA, hO, hL, r31, r32, r34, hF⟩
  rw [← zL _ _ hA]
  cases n59 with
  | zero => exact nomatch (show none = some rr from hF)
  | succ n59 =>
   replace hF : zgJ (zgi p0 p1 n59) p0 p1 x33 x35 = some rr := hF
   unfold zgJ at hF
   refine zc hO [] [(1, .slice A1 p1.length c1), (2, zqA b3), (5, zqz x33), (29, .slice A0_2 p0.Scope.length c0_2), (30, zqz (p0.Scope.length : Int)), (31, zqz x35), (32, .bool (decide (x35 < (p0.Scope.length : Int))))] zqp fun j => ?_
   rcases zi hF with ⟨hb60, hF⟩ | ⟨hb60, hF⟩
   ·refine zk (congrArg Value.bool hb60) ?_
    refine zm (zt ?_)
    obtain ⟨y61, g62, hF⟩ := bind_some hF
    refine zC (T := (Ty.int .i64)) r34 hO.base rfl rfl g62 (by decide) fun a63 _ k64 m65 => ?_
    obtain rfl : _ = ([.int .i64 y61] : List Value) := k64
    refine zy rfl (m65.le hO.base).fst ?_
    refine zc hO [] [(1, .slice A1 p1.length c1), (2, zqA b3), (5, zqz x33), (7, zqz y61), (29, .slice A0_2 p0.Scope.length c0_2), (30, zqz (p0.Scope.length : Int)), (31, zqz x35)] zqp fun j => ?_
    refine ze (zd hO 4 [] [(1, .slice A1 p1.length c1), (2, zqA b3), (7, zqz y61), (29, .slice A0_2 p0.Scope.length c0_2), (30, zqz (p0.Scope.length : Int)), (31, zqz x35), (38, .bool (decide (y61 ≤ x33)))] zqp fun j => ?_)
    obtain ⟨c66, h67, hF⟩ := bind_some hF
    refine zbK 2 [(48, .bool c66), (1, .slice A1 p1.length c1), (2, zqA b3), (7, zqz y61), (29, .slice A0_2 p0.Scope.length c0_2), (30, zqz (p0.Scope.length : Int)), (31, zqz x35)] (fun Q hQ => ?_) fun j => ?_
    ·have hF := h67
     rcases zi hF with ⟨hb68, hF⟩ | ⟨hb68, hF⟩
     ·refine z9 (congrArg (fun x => isB (.bool x) false) hb68) ?_
      refine zJ (congrArg Value.bool hb68) ?_
      refine zh ?_
      injection hF with hF
      subst hF
      refine zg ?_
      exact hQ _ zqp
     ·refine z7 (congrArg (fun x => isB (.bool x) false) hb68) ?_
      refine zd hO 4 [0] [(1, .slice A1 p1.length c1), (2, zqA b3), (7, zqz y61), (29, .slice A0_2 p0.Scope.length c0_2), (30, zqz (p0.Scope.length : Int)), (31, zqz x35), (38, .bool (decide (y61 ≤ x33))), (39, zqz y61), (40, .slice A1 p1.length c1), (42, zqz p0.Func)] (And.intro (And.intro rfl rfl) zqs) fun j => ?_
      obtain ⟨y69, g70, hF⟩ := bind_some hF
      refine zC (T := zV) r31 hO.base rfl rfl g70 (by decide) fun a71 _ k72 m73 => ?_
      obtain ⟨v74, v78, rfl, r75, r79⟩ := k72
      obtain ⟨A76, c77, rfl, -⟩ := r75.form
      obtain ⟨A80, c81, rfl, -⟩ := r79.form
      refine zd hO 1 [] [(1, .slice A1 p1.length c1), (2, zqA b3), (7, zqz y61), (29, .slice A0_2 p0.Scope.length c0_2), (30, zqz (p0.Scope.length : Int)), (31, zqz x35), (38, .bool (decide (y61 ≤ x33))), (39, zqz y61), (44, .pointer (some (a71.add 3)))] zqr fun j => ?_
      refine zy rfl ((m73.le hO.base).one 3 rfl) ?_
      refine zd hO 2 [] [(1, .slice A1 p1.length c1), (2, zqA b3), (7, zqz y61), (29, .slice A0_2 p0.Scope.length c0_2), (30, zqz (p0.Scope.length : Int)), (31, zqz x35), (38, .bool (decide (y61 ≤ x33))), (47, .bool (decide (y61 ≥ (y69.Vars.length : Int))))] zqq fun j => ?_
      refine zJ (congrArg Value.bool hb68) ?_
      refine zh ?_
      injection hF with hF
      subst hF
      refine zg ?_
      exact hQ _ zqp
    ·refine zh ?_
     rcases zi hF with ⟨hb82, hF⟩ | ⟨hb82, hF⟩
     ·refine zk (congrArg Value.bool hb82) ?_
      refine ze (zc hO [] [(4, .bool false)] zqj fun j => ?_)
      refine zu (zw (zn (zn (zw (zn ?_)))))
      injection hF with hF
      subst hF
      have hO := hO.sel [] (by decide)
      exact hQ _ _ _ _ _ rfl hO hL ⟨rfl, rfl⟩
     ·refine zl (congrArg Value.bool hb82) ?_
      refine zm (zA (zc hO [] [(1, .slice A1 p1.length c1), (2, zqA b3), (5, zqz y61), (29, .slice A0_2 p0.Scope.length c0_2), (30, zqz (p0.Scope.length : Int)), (31, zqz x35)] zqo fun j => ?_))
      refine zg (zP (zj (zA (zc hO [] [(1, .slice A1 p1.length c1), (2, zqA b3), (5, zqz y61), (29, .slice A0_2 p0.Scope.length c0_2), (30, zqz (p0.Scope.length : Int)), (31, zqz (IntKind.i64.wrap (x35 + 1)))] zqo fun j => ?_))))
      refine zg (zj ?_)
      exact ⟨n59, Nat.lt_succ_self _, y61, (IntKind.i64.wrap (x35 + 1)), _, zqy zqn, hO, hL, r31, r32, r34, hF⟩
   ·refine zl (congrArg Value.bool hb60) ?_
    refine zU (zY (z0 (zj (zc hO [] [(4, .bool true)] zqj fun j => ?_))))
    refine zK ?_
    injection hF with hF
    subst hF
    have hO := hO.sel [] (by decide)
    exact hQ _ _ _ _ _ rfl hO hL ⟨rfl, rfl⟩
theorem zj8 {τ : Hp} {v0 : Value} {p0 : (List zo)} {v1 : Value} {p1 : (List zB)} (r0 : RdT zV τ v0 p0) (r1 : RdT zbg τ v1 p1) {rr : Bool} (hF : zee p0 p1 = some rr) :
  Ctr Tryz.prog 16 #[v0, v1] τ [] (fun v τ' vs' => v = .bool rr ∧ vs' = []) := by
 obtain ⟨A0, c0, rfl, -⟩ := r0.form
 obtain ⟨A1, c1, rfl, -⟩ := r1.form
 refine zM (args := [.slice A0 p0.length c0, .slice A1 p1.length c1]) hm Tryz.func16 s16 rfl fun w0 σ hO Q hQ => ?_
 unfold zee at hF
 have hL := Hp.le.refl τ
 show wpn _ _ a16.body _ _ _
 unfold a16
 dsimp only
 refine zc hO [] [(0, .slice A0 p0.length c0), (1, .slice A1 p1.length c1)] zqk fun j => ?_
 refine zc hO [] [(0, .slice A0 p0.length c0), (1, .slice A1 p1.length c1), (5, zqz 0)] zql fun j => ?_
 refine ze (zc hO [] [(0, .slice A0 p0.length c0), (1, .slice A1 p1.length c1), (5, zqz 0), (10, .slice A0 p0.length c0), (11, zqz (p0.length : Int)), (12, zqz 0)] zqo fun j => ?_)
 refine zt (zZ (fun (n : Nat) e' σ' => ∃ (x84 : Int) (x86 : Int) (τ' : Hp), agr [(0, .slice A0 p0.length c0), (1, .slice A1 p1.length c1), (5, zqz x84), (10, .slice A0 p0.length c0), (11, zqz (p0.length : Int)), (12, zqz x86)] e' ∧ Obs τ' σ' [] ∧ Hp.le τ τ' ∧ RdT zV τ' (.slice A0 p0.length c0) p0 ∧ RdT zbg τ' (.slice A1 p1.length c1) p1 ∧ RdT zV τ' (.slice A0 p0.length c0) p0 ∧ zgD p0 p1 n x84 x86 = some rr) big ⟨0, 0, _, zqy zqn, hO, hL, r0, r1, r0, hF⟩ ?_)
 clear hF hO hL
 rintro n163 e σ ⟨x84, x86, _, hA, hO, hL, r82, r83, r85, hF⟩
 rw [← zL _ _ hA]
 cases n163 with
 | zero => exact nomatch (show none = some rr from hF)
 | succ n163 =>
  replace hF : ze3 (zgD p0 p1 n163) p0 p1 x84 x86 = some rr := hF
  unfold ze3 at hF
  refine zc hO [] [(0, .slice A0 p0.length c0), (1, .slice A1 p1.length c1), (5, zqz x84), (10, .slice A0 p0.length c0), (11, zqz (p0.length : Int)), (12, zqz x86), (13, .bool (decide (x86 < (p0.length : Int))))] zqp fun j => ?_
  rcases zi hF with ⟨hb164, hF⟩ | ⟨hb164, hF⟩
  ·refine zk (congrArg Value.bool hb164) ?_
   refine zm (zt ?_)
   obtain ⟨y165, g166, hF⟩ := bind_some hF
   refine zC (T := zV) r85 hO.base rfl rfl g166 (by decide) fun a167 _ k168 m169 => ?_
   obtain ⟨v170, v174, rfl, r171, r175⟩ := k168
   obtain ⟨A172, c173, rfl, -⟩ := r171.form
   obtain ⟨A176, c177, rfl, -⟩ := r175.form
   refine zy rfl ((m169.le hO.base).all rfl) ?_
   refine zbq hO fun b178 σ hO => ?_
   have hO : Obs _ _ [_] := hO
   refine zO hO (i := 0) rfl (off := 0) rfl rfl rfl rfl (Nat.le_of_ble_eq_true rfl) rfl fun σ hO => ?_
   have hO : Obs _ _ [_] := hO
   refine zh (ze (zd hO 2 [0] [(0, .slice A0 p0.length c0), (1, .slice A1 p1.length c1), (7, zqA b178), (10, .slice A0 p0.length c0), (11, zqz (p0.length : Int)), (12, zqz x86), (16, .agg #[(.string y165.Name), (.int .i64 y165.From), (.int .i64 y165.To), (.slice A172 y165.Vars.length c173), (.slice A176 y165.Spans.length c177)]), (17, zqz x84)] (And.intro (And.intro rfl rfl) zqq) fun j => ?_))
   obtain ⟨c179, h180, hF⟩ := bind_some hF
   refine zD hO (znl (p0 := (⟨y165.Name, y165.From, y165.To, y165.Vars, y165.Spans⟩ : zo)) r171 r175 h180) rfl fun _ σ _ _ hO h181 h182 => ?_
   have hL := hL.trans h181
   have r82 := r82.le h181
   have r83 := r83.le h181
   have r85 := r85.le h181
   have r171 := r171.le h181
   have r175 := r175.le h181
   obtain ⟨rfl, rfl⟩ := h182
   have hO : Obs _ _ [_] := hO
   refine zc hO [] [(0, .slice A0 p0.length c0), (1, .slice A1 p1.length c1), (7, zqA b178), (10, .slice A0 p0.length c0), (11, zqz (p0.length : Int)), (12, zqz x86), (19, .bool (!c179))] zqp fun j => ?_
   rcases zi hF with ⟨hb183, hF⟩ | ⟨hb183, hF⟩
   ·refine zk (congrArg Value.bool hb183) ?_
    refine ze (zc hO [] [(4, .bool false)] zqj fun j => ?_)
    refine zu (zw (zn (zn (zw (zn ?_)))))
    injection hF with hF
    subst hF
    have hO := hO.sel [] (by decide)
    exact hQ _ _ _ _ _ rfl hO hL ⟨rfl, rfl⟩
   ·refine zl (congrArg Value.bool hb183) ?_
    refine zm (zA (zc hO [0] [(0, .slice A0 p0.length c0), (1, .slice A1 p1.length c1), (5, zqz y165.To), (10, .slice A0 p0.length c0), (11, zqz (p0.length : Int)), (12, zqz x86)] (And.intro (And.intro rfl rfl) zqo) fun j => ?_))
    refine zg (zP (zj (zA (zc hO [] [(0, .slice A0 p0.length c0), (1, .slice A1 p1.length c1), (5, zqz y165.To), (10, .slice A0 p0.length c0), (11, zqz (p0.length : Int)), (12, zqz (IntKind.i64.wrap (x86 + 1)))] zqo fun j => ?_))))
    refine zg (zj ?_)
    have hO := hO.sel [] (by decide)
    exact ⟨n163, Nat.lt_succ_self _, y165.To, (IntKind.i64.wrap (x86 + 1)), _, zqy zqn, hO, hL, r82, r83, r85, hF⟩
  ·refine zl (congrArg Value.bool hb164) ?_
   refine zU (zY (z0 (zj (ze (zc hO [] [(0, .slice A0 p0.length c0), (1, .slice A1 p1.length c1), (23, .slice A1 p1.length c1), (24, zqz (p1.length : Int)), (25, zqz 0)] zqn fun j => ?_)))))
   refine zt (zZ (fun (n : Nat) e' σ' => ∃ (x206 : Int) (τ' : Hp), agr [(0, .slice A0 p0.length c0), (1, .slice A1 p1.length c1), (23, .slice A1 p1.length c1), (24, zqz (p1.length : Int)), (25, zqz x206)] e' ∧ Obs τ' σ' [] ∧ Hp.le τ τ' ∧ RdT zV τ' (.slice A0 p0.length c0) p0 ∧ RdT zbg τ' (.slice A1 p1.length c1) p1 ∧ RdT zbg τ' (.slice A1 p1.length c1) p1 ∧ zgl p0 p1 n x206 = some rr) big ⟨0, _, zqy zqm, hO, hL, r82, r83, r83, hF⟩ ?_)
   clear hF hO hL
   rintro n223 e σ ⟨x206, _, hA, hO, hL, r203, r204, r205, hF⟩
   rw [← zL _ _ hA]
   cases n223 with
   | zero => exact nomatch (show none = some rr from hF)
   | succ n223 =>
    replace hF : zgp (zgl p0 p1 n223) p0 p1 x206 = some rr := hF
    unfold zgp at hF
    refine zc hO [] [(0, .slice A0 p0.length c0), (1, .slice A1 p1.length c1), (23, .slice A1 p1.length c1), (24, zqz (p1.length : Int)), (25, zqz x206), (26, .bool (decide (x206 < (p1.length : Int))))] zqo fun j => ?_
    rcases zi hF with ⟨hb224, hF⟩ | ⟨hb224, hF⟩
    ·refine zk (congrArg Value.bool hb224) ?_
     refine zm (zt ?_)
     obtain ⟨y225, g226, hF⟩ := bind_some hF
     refine zC (T := zbg) r205 hO.base rfl rfl g226 (by decide) fun a227 _ k228 m229 => ?_
     obtain ⟨v230, rfl, r231⟩ := k228
     obtain ⟨A232, c233, rfl, -⟩ := r231.form
     refine zy rfl ((m229.le hO.base).all rfl) ?_
     refine zbq hO fun b234 σ hO => ?_
     have hO : Obs _ _ [_] := hO
     refine zO hO (i := 0) rfl (off := 0) rfl rfl rfl rfl (Nat.le_of_ble_eq_true rfl) rfl fun σ hO => ?_
     have hO : Obs _ _ [_] := hO
     refine zh (zd hO 2 [0] [(0, .slice A0 p0.length c0), (1, .slice A1 p1.length c1), (23, .slice A1 p1.length c1), (24, zqz (p1.length : Int)), (25, zqz x206), (29, .agg #[(.int .i64 y225.Func), (.int .i64 y225.Line), (.slice A232 y225.Scope.length c233)]), (30, .slice A0 p0.length c0)] (And.intro (And.intro rfl rfl) zqp) fun j => ?_)
     obtain ⟨c235, h236, hF⟩ := bind_some hF
     refine zD hO (zm5 (p0 := (⟨y225.Func, y225.Line, y225.Scope⟩ : zB)) r231 r203 h236) rfl fun _ σ _ _ hO h237 h238 => ?_
     have hL := hL.trans h237
     have r203 := r203.le h237
     have r204 := r204.le h237
     have r205 := r205.le h237
     have r231 := r231.le h237
     obtain ⟨rfl, rfl⟩ := h238
     have hO : Obs _ _ [_] := hO
     refine zc hO [] [(0, .slice A0 p0.length c0), (1, .slice A1 p1.length c1), (23, .slice A1 p1.length c1), (24, zqz (p1.length : Int)), (25, zqz x206), (32, .bool (!c235))] zqo fun j => ?_
     refine zbl ?_
     rcases zi hF with ⟨hb239, hF⟩ | ⟨hb239, hF⟩
     ·refine zk (congrArg Value.bool hb239) ?_
      refine ze (zc hO [] [(4, .bool false)] zqj fun j => ?_)
      refine zu (zw (zn (zn (zw (zn ?_)))))
      injection hF with hF
      subst hF
      have hO := hO.sel [] (by decide)
      exact hQ _ _ _ _ _ rfl hO hL ⟨rfl, rfl⟩
     ·refine zl (congrArg Value.bool hb239) ?_
      refine zm (zg (zP (zj (zA (zc hO [] [(0, .slice A0 p0.length c0), (1, .slice A1 p1.length c1), (23, .slice A1 p1.length c1), (24, zqz (p1.length : Int)), (25, zqz (IntKind.i64.wrap (x206 + 1)))] zqn fun j => ?_)))))
      refine zg (zj ?_)
      have hO := hO.sel [] (by decide)
      exact ⟨n223, Nat.lt_succ_self _, (IntKind.i64.wrap (x206 + 1)), _, zqy zqm, hO, hL, r203, r204, r205, hF⟩
    ·refine zl (congrArg Value.bool hb224) ?_
     refine zU (zY (z0 (zj (zc hO [] [(4, .bool ((decide ((p0.length : Int) ≤ 64)) && (decide ((p1.length : Int) ≤ 1000))))] (And.intro (And.intro rfl rfl) (fun _ => zqy trivial)) fun j => ?_))))
     refine zK ?_
     injection hF with hF
     subst hF
     exact hQ _ _ _ _ _ rfl hO hL ⟨rfl, rfl⟩
theorem zlT {τ : Hp} {v0 : Value} {p0 : (List UInt8)} (r0 : RdT Ty.u8 τ v0 p0) {rr : (List UInt8)} (hF : zey p0 = some rr) :
  Ctr Tryz.prog 56 #[v0] τ [] (fun v τ' vs' => ∃ (v0 : Value) (o0 : Ob), v = v0 ∧ vs' = [o0] ∧ zr Ty.u8 5 τ' v0 rr o0) := by
 obtain ⟨A0, c0, rfl, -⟩ := r0.form
 refine zM (args := [.slice A0 p0.length c0]) hm Tryz.func56 s56 rfl fun w0 σ hO Q hQ => ?_
 unfold zey at hF
 obtain ⟨_, hr, hF⟩ := bind_some hF
 injection hF with hF
 subst hF
 have hL := Hp.le.refl τ
 show wpn _ _ a56.body _ _ _
 unfold a56
 dsimp only
 refine zc hO [] [(0, .slice A0 p0.length c0)] zqj fun j => ?_
 refine ze (zc hO [] [(0, .slice A0 p0.length c0), (4, .bool A0.isNone)] zqk fun j => ?_)
 rcases (Bool.eq_false_or_eq_true A0.isNone).symm with hA | hA
 ·refine zl (congrArg Value.bool hA) ?_
  refine zm (zbX (T := Ty.u8) (l := []) (cs := []) hO rfl rfl rfl (by decide) fun _ σ o1 w1 hO => ?_)
  obtain ⟨A1, c1, rfl, -⟩ := w1.form
  refine zd hO 1 [] [(5, .slice A1 0 c1), (6, .slice A0 p0.length c0)] zqk fun j => ?_
  refine zd8 (T := Ty.u8) hO w1 (i := 0) rfl rfl rfl r0 (by simpa using hr) (by decide) fun _ σ o2 w2 hO => ?_
  refine zc hO [] [(2, _)] zqj fun j => ?_
  refine zK ?_
  exact hQ _ _ _ _ _ rfl hO hL ⟨_, _, rfl, rfl, w2⟩
 ·refine zk (congrArg Value.bool hA) ?_
  have := r0.empty (by decide) hA
  subst this
  refine ze (zc hO [] [(2, .slice none 0 0)] zqj fun j => ?_)
  refine zu ?_
  have hO := hO.no
  exact hQ _ _ _ _ _ rfl hO hL ⟨_, _, rfl, rfl, zr.nil _ _ _⟩
theorem zdV {τ : Hp} {v0 : Value} {p0 : (List UInt8)} {p1 : Int} (r0 : RdT Ty.u8 τ v0 p0) {rr : (List UInt8)} (hF : zcu p0 p1 = some rr) :
  Ctr Tryz.prog 26 #[v0, .int .u64 p1] τ [] (fun v τ' vs' => ∃ (v0 : Value) (o0 : Ob), v = v0 ∧ vs' = [o0] ∧ zr Ty.u8 5 τ' v0 rr o0) := by
 obtain ⟨A0, c0, rfl, -⟩ := r0.form
 refine zM (args := [.slice A0 p0.length c0, .int .u64 p1]) hm Tryz.func26 s26 rfl fun w0 σ hO Q hQ => ?_
 unfold zcu at hF
 have hL := Hp.le.refl τ
 show wpn _ _ a26.body _ _ _
 unfold a26
 dsimp only
 refine zc hO [] [(0, .slice A0 p0.length c0), (1, .int .u64 p1)] zqk fun j => ?_
 refine zd hO 1 [] [(1, .int .u64 p1), (6, .slice A0 p0.length c0)] zqk fun j => ?_
 obtain ⟨c3, h4, hF⟩ := bind_some hF
 refine zD hO (zlT r0 h4) rfl fun _ σ _ _ hO h5 h6 => ?_
 have hL := hL.trans h5
 have r0 := r0.le h5
 obtain ⟨v7, o10, rfl, rfl, w11⟩ := h6
 obtain ⟨A8, c9, rfl, -⟩ := w11.form
 have hO : Obs _ _ [_] := hO
 refine zc hO [] [(1, .int .u64 p1), (5, .slice A8 c3.length c9)] zqk fun j => ?_
 refine zt (zZ (fun (n : Nat) e' σ' => ∃ (x30 : Int) (A31 : Option Addr) (c32 : Nat) (o33 : Ob) (x34 : List UInt8) (τ' : Hp), agr [(1, .int .u64 x30), (5, .slice A31 x34.length c32)] e' ∧ Obs τ' σ' [o33] ∧ Hp.le τ τ' ∧ zr Ty.u8 5 τ' (.slice A31 x34.length c32) x34 o33 ∧ zeR  n x30 x34 = some rr) big ⟨p1, A8, c9, o10, c3, _, zqy zqj, hO, hL, w11, hF⟩ ?_)
 clear hF hO hL
 rintro n49 e σ ⟨x30, A31, c32, o33, x34, _, hA, hO, hL, w35, hF⟩
 rw [← zL _ _ hA]
 cases n49 with
 | zero => exact nomatch (show none = some rr from hF)
 | succ n49 =>
  replace hF : zeU (zeR  n49) x30 x34 = some rr := hF
  unfold zeU at hF
  refine ze (zc hO [] [(1, .int .u64 x30), (5, .slice A31 x34.length c32), (9, .bool (decide (x30 > 127)))] zql fun j => ?_)
  rcases zi hF with ⟨hb50, hF⟩ | ⟨hb50, hF⟩
  ·refine zk (congrArg Value.bool hb50) ?_
   refine zm (zcE (zt (zd hO 4 [] [(1, .int .u64 x30), (10, .slice A31 x34.length c32), (13, .int .u8 (orI .u8 (IntKind.u8.wrap x30) 128))] zql fun j => ?_)))
   obtain ⟨z51, hz51, hF⟩ := bind_some hF
   obtain ⟨_, hr56, hF⟩ := bind_some hF
   refine zbN (T := Ty.u8) (y := z51) hO w35 (i := 0) rfl rfl (fun _ => rfl) rfl (u8R hz51) rfl hr56 (by decide) fun u _ σ o54 w55 hO => ?_
   obtain ⟨A52, c53, rfl, -⟩ := w55.form
   have hO : Obs _ _ [_] := hO
   refine zc hO [] [(1, .int .u64 x30), (5, .slice A52 (x34 ++ [z51]).length c53)] zqk fun j => ?_
   refine zA (zc hO [] [(1, .int .u64 (zcy .u64 x30 7)), (5, .slice A52 (x34 ++ [z51]).length c53)] zqk fun j => ?_)
   refine zg (zP (zj (zg (zj ?_))))
   exact ⟨n49, Nat.lt_succ_self _, (zcy .u64 x30 7), A52, c53, o54, (x34 ++ [z51]), _, zqy zqj, hO, hL, w55, hF⟩
  ·refine zl (congrArg Value.bool hb50) ?_
   refine zU (zY (z0 (zj (zd hO 3 [] [(18, .slice A31 x34.length c32), (20, .int .u8 (IntKind.u8.wrap x30))] zqk fun j => ?_))))
   obtain ⟨z57, hz57, hF⟩ := bind_some hF
   obtain ⟨_, hr62, hF⟩ := bind_some hF
   refine zbN (T := Ty.u8) (y := z57) hO w35 (i := 0) rfl rfl (fun _ => rfl) rfl (u8R hz57) rfl hr62 (by decide) fun u _ σ o60 w61 hO => ?_
   obtain ⟨A58, c59, rfl, -⟩ := w61.form
   have hO : Obs _ _ [_] := hO
   refine zc hO [] [(4, .slice A58 (x34 ++ [z57]).length c59)] zqj fun j => ?_
   refine zK ?_
   injection hF with hF
   subst hF
   exact hQ _ _ _ _ _ rfl hO hL ⟨_, _, rfl, rfl, w61⟩
theorem zo3 {τ : Hp} {p1 : Int} (r0 : RdT Ty.u8 τ (.slice none 0 0) []) {rr : (List UInt8)} (hF : zih [] p1 = some rr) :
  Ctr Tryz.prog 105 #[.slice none 0 0, .int .i64 p1] τ [] (fun v τ' vs' => ∃ (v0 : Value) (o0 : Ob), v = v0 ∧ vs' = [o0] ∧ zr Ty.u8 5 τ' v0 rr o0) := by
 refine zM (args := [.slice none 0 0, .int .i64 p1]) hm Tryz.func105 zmN rfl fun w0 σ hO Q hQ => ?_
 unfold zih at hF
 have hL := Hp.le.refl τ
 show wpn _ _ zi7.body _ _ _
 unfold zi7
 dsimp only
 refine zc hO [] [(0, .slice none 0 0), (1, zqz p1)] zqk fun j => ?_
 refine ze (zc hO [] [(0, .slice none 0 0), (1, zqz p1), (6, .bool (decide (p1 < 0)))] zql fun j => ?_)
 refine zco (fun e' σ' => ∃ (τ' : Hp), agr [(0, .slice none 0 0), (1, zqz p1)] e' ∧ Obs τ' σ' [] ∧ Hp.le τ τ' ∧ zjI p1 = some rr) ?_ ?_
 ·refine zbl ?_
  rcases zi hF with ⟨hb15, hF⟩ | ⟨hb15, hF⟩
  ·refine zk (congrArg Value.bool hb15) ?_
   refine zd hO 1 [] [(0, .slice none 0 0), (1, zqz p1), (7, .iface 9 (.string (⟨#[99, 97, 110, 110, 111, 116, 32, 98, 101, 32, 110, 101, 103, 97, 116, 105, 118, 101]⟩ : ByteArray)))] zql fun j => ?_
   exact nomatch (show none = some _ from hF)
  ·refine zl (congrArg Value.bool hb15) ?_
   refine zm (zg (zj ?_))
   exact ⟨_, zqy zqj, hO, hL, hF⟩
 ·rintro e σ ⟨_, hA, hO, hL, hF⟩
  rw [← zL _ _ hA]
  unfold zjI at hF
  refine ze (zc hO [] [(0, .slice none 0 0), (1, zqz (IntKind.i64.wrap (p1 - (IntKind.i64.wrap (0 - 0)))))] zqk fun j => ?_)
  refine ze (zc hO [] [(0, .slice none 0 0), (1, zqz (IntKind.i64.wrap (p1 - (IntKind.i64.wrap (0 - 0))))), (16, .bool (decide ((IntKind.i64.wrap (p1 - (IntKind.i64.wrap (0 - 0)))) > 0)))] zql fun j => ?_)
  rcases zi hF with ⟨hb4, hF⟩ | ⟨hb4, hF⟩
  ·refine zk (congrArg Value.bool hb4) ?_
   refine zd hO 3 [] [(0, .slice none 0 0), (1, zqz (IntKind.i64.wrap (p1 - (IntKind.i64.wrap (0 - 0))))), (17, .slice none 0 0), (19, zqz 0)] zqm fun j => ?_
   refine zpY rfl rfl rfl ?_
   refine zd hO 1 [] [(0, .slice none 0 0), (20, .slice none 0 0), (21, zqz (IntKind.i64.wrap (p1 - (IntKind.i64.wrap (0 - 0)))))] zql fun j => ?_
   have hO := hO.no
   have hO : Obs _ _ [_] := hO
   have w5 := zr.nil0 (T := Ty.u8) (ty := 5) hO
   obtain ⟨_, g10, hF⟩ := bind_some hF
   obtain ⟨_, hr11, hF⟩ := bind_some hF
   refine zoV (T := Ty.u8) (z := (0 : UInt8)) hO w5 (i := 0) rfl rfl rfl (zmY g10) (show _ = _ from rfl) hr11 (by decide) fun _ σ o8 w9 hO => ?_
   obtain ⟨A6, c7, rfl, -⟩ := w9.form
   have hO : Obs _ _ [_] := hO
   refine zd hO 2 [] [(22, .slice A6 (([] : List UInt8) ++ List.replicate (Int.toNat (IntKind.i64.wrap (p1 - (IntKind.i64.wrap (0 - 0))))) (0 : UInt8)).length c7), (24, zqz 0)] zqk fun j => ?_
   obtain ⟨y12, g13, hF⟩ := bind_some hF
   refine zoi (T := Ty.u8) w9 rfl rfl g13 fun w14 => ?_
   refine zc hO [] [(0, .slice A6 y12.length c7)] zqj fun j => ?_
   refine zc hO [] [(4, .slice A6 y12.length c7)] zqj fun j => ?_
   refine zK ?_
   injection hF with hF
   subst hF
   exact hQ _ _ _ _ _ rfl hO hL ⟨_, _, rfl, rfl, w14⟩
  ·refine zl (congrArg Value.bool hb4) ?_
   refine zm (zc hO [] [(4, .slice none 0 0)] zqj fun j => ?_)
   refine zK ?_
   have hO := hO.no
   have hO : Obs _ _ [_] := hO
   injection hF with hF
   subst hF
   exact hQ _ _ _ _ _ rfl hO hL ⟨_, _, rfl, rfl, (zr.nil _ _ _)⟩
theorem zoI {τ : Hp} {v0 : Value} {p0 : (List (List UInt8))} (r0 : RdT (Ty.slice Ty.u8) τ v0 p0) {rr : (List UInt8)} (hF : ziK p0 = some rr) :
  Ctr Tryz.prog 97 #[v0] τ [] (fun v τ' vs' => ∃ (v0 : Value) (o0 : Ob), v = v0 ∧ vs' = [o0] ∧ zr Ty.u8 5 τ' v0 rr o0) := by
 obtain ⟨A0, c0, rfl, -⟩ := r0.form
 refine zM (args := [.slice A0 p0.length c0]) hm Tryz.func97 s97 rfl fun w0 σ hO Q hQ => ?_
 unfold ziK at hF
 have hL := Hp.le.refl τ
 show wpn _ _ a97.body _ _ _
 unfold a97
 dsimp only
 refine zc hO [] [(0, .slice A0 p0.length c0)] zqj fun j => ?_
 refine zc hO [] [(0, .slice A0 p0.length c0), (3, zqz 0)] zqk fun j => ?_
 refine ze (zc hO [] [(0, .slice A0 p0.length c0), (3, zqz 0), (9, .slice A0 p0.length c0), (10, zqz (p0.length : Int)), (11, zqz 0)] zqn fun j => ?_)
 refine zt (zZ (fun (n : Nat) e' σ' => ∃ (x84 : Int) (x86 : Int) (τ' : Hp), agr [(0, .slice A0 p0.length c0), (3, zqz x84), (9, .slice A0 p0.length c0), (10, zqz (p0.length : Int)), (11, zqz x86)] e' ∧ Obs τ' σ' [] ∧ Hp.le τ τ' ∧ RdT (Ty.slice Ty.u8) τ' (.slice A0 p0.length c0) p0 ∧ RdT (Ty.slice Ty.u8) τ' (.slice A0 p0.length c0) p0 ∧ zha p0 n x84 x86 = some rr) big ⟨0, 0, _, zqy zqm, hO, hL, r0, r0, hF⟩ ?_)
 clear hF hO hL
 rintro n166 e σ ⟨x84, x86, _, hA, hO, hL, r83, r85, hF⟩
 rw [← zL _ _ hA]
 cases n166 with
 | zero => exact nomatch (show none = some rr from hF)
 | succ n166 =>
  replace hF : zi9 (zha p0 n166) p0 x84 x86 = some rr := hF
  unfold zi9 at hF
  refine zc hO [] [(0, .slice A0 p0.length c0), (3, zqz x84), (9, .slice A0 p0.length c0), (10, zqz (p0.length : Int)), (11, zqz x86), (12, .bool (decide (x86 < (p0.length : Int))))] zqo fun j => ?_
  rcases zi hF with ⟨hb167, hF⟩ | ⟨hb167, hF⟩
  ·refine zk (congrArg Value.bool hb167) ?_
   refine zm (zt ?_)
   obtain ⟨y168, g169, hF⟩ := bind_some hF
   refine zC (T := (Ty.slice Ty.u8)) r85 hO.base rfl rfl g169 (by decide) fun a170 _ k171 m172 => ?_
   obtain ⟨v173, rfl, r174⟩ := k171
   obtain ⟨A175, c176, rfl, -⟩ := r174.form
   refine zy rfl (m172.le hO.base).fst ?_
   refine zc hO [] [(0, .slice A0 p0.length c0), (3, zqz x84), (5, .slice A175 y168.length c176), (9, .slice A0 p0.length c0), (10, zqz (p0.length : Int)), (11, zqz x86)] zqo fun j => ?_
   refine zc hO [] [(0, .slice A0 p0.length c0), (3, zqz (IntKind.i64.wrap (x84 + (y168.length : Int)))), (9, .slice A0 p0.length c0), (10, zqz (p0.length : Int)), (11, zqz x86)] zqn fun j => ?_
   refine zc hO [] [(0, .slice A0 p0.length c0), (3, zqz (IntKind.i64.wrap (x84 + (y168.length : Int)))), (9, .slice A0 p0.length c0), (10, zqz (p0.length : Int)), (11, zqz x86), (20, .bool (decide ((IntKind.i64.wrap (x84 + (y168.length : Int))) < 0)))] zqo fun j => ?_
   refine zbl ?_
   rcases zi hF with ⟨hb177, hF⟩ | ⟨hb177, hF⟩
   ·refine zk (congrArg Value.bool hb177) ?_
    refine zd hO 1 [] [(0, .slice A0 p0.length c0), (3, zqz (IntKind.i64.wrap (x84 + (y168.length : Int)))), (9, .slice A0 p0.length c0), (10, zqz (p0.length : Int)), (11, zqz x86), (21, .iface 9 (.string (⟨#[108, 101, 110, 32, 111, 117, 116, 32, 111, 102, 32, 114, 97, 110, 103, 101]⟩ : ByteArray)))] zqo fun j => ?_
    exact nomatch (show none = some _ from hF)
   ·refine zl (congrArg Value.bool hb177) ?_
    refine zm (zg (zP (zj (zA (zc hO [] [(0, .slice A0 p0.length c0), (3, zqz (IntKind.i64.wrap (x84 + (y168.length : Int)))), (9, .slice A0 p0.length c0), (10, zqz (p0.length : Int)), (11, zqz (IntKind.i64.wrap (x86 + 1)))] zqn fun j => ?_)))))
    refine zg (zj ?_)
    exact ⟨n166, Nat.lt_succ_self _, (IntKind.i64.wrap (x84 + (y168.length : Int))), (IntKind.i64.wrap (x86 + 1)), _, zqy zqm, hO, hL, r83, r85, hF⟩
  ·refine zl (congrArg Value.bool hb167) ?_
   refine zU (zY (z0 (zj (zd hO 1 [] [(0, .slice A0 p0.length c0), (23, zqz x84)] zqk fun j => ?_))))
   obtain ⟨c178, h179, hF⟩ := bind_some hF
   refine zD hO (zo3 (RdT.nil Ty.u8 _) h179) rfl fun _ σ _ _ hO h180 h181 => ?_
   have hL := hL.trans h180
   have r83 := r83.le h180
   obtain ⟨v182, o185, rfl, rfl, w186⟩ := h181
   obtain ⟨A183, c184, rfl, -⟩ := w186.form
   have hO : Obs _ _ [_] := hO
   refine zc hO [] [(0, .slice A0 p0.length c0), (6, .slice A183 c178.length c184)] zqk fun j => ?_
   refine ze (zc hO [] [(6, .slice A183 c178.length c184), (25, .slice A0 p0.length c0), (26, zqz (p0.length : Int)), (27, zqz 0)] zqm fun j => ?_)
   refine zt (zZ (fun (n : Nat) e' σ' => ∃ (A208 : Option Addr) (c209 : Nat) (o210 : Ob) (x211 : List UInt8) (x214 : Int) (τ' : Hp), agr [(6, .slice A208 x211.length c209), (25, .slice A0 p0.length c0), (26, zqz (p0.length : Int)), (27, zqz x214)] e' ∧ Obs τ' σ' [o210] ∧ Hp.le τ τ' ∧ zr Ty.u8 5 τ' (.slice A208 x211.length c209) x211 o210 ∧ RdT (Ty.slice Ty.u8) τ' (.slice A0 p0.length c0) p0 ∧ zhb p0 n x211 x214 = some rr) big ⟨A183, c184, o185, c178, 0, _, zqy zql, hO, hL, w186, r83, hF⟩ ?_)
   clear hF hO hL
   rintro n230 e σ ⟨A208, c209, o210, x211, x214, _, hA, hO, hL, w212, r213, hF⟩
   rw [← zL _ _ hA]
   cases n230 with
   | zero => exact nomatch (show none = some rr from hF)
   | succ n230 =>
    replace hF : zh6 (zhb p0 n230) p0 x211 x214 = some rr := hF
    unfold zh6 at hF
    refine zc hO [] [(6, .slice A208 x211.length c209), (25, .slice A0 p0.length c0), (26, zqz (p0.length : Int)), (27, zqz x214), (28, .bool (decide (x214 < (p0.length : Int))))] zqn fun j => ?_
    rcases zi hF with ⟨hb231, hF⟩ | ⟨hb231, hF⟩
    ·refine zk (congrArg Value.bool hb231) ?_
     refine zm (zt ?_)
     obtain ⟨y232, g233, hF⟩ := bind_some hF
     refine zC (T := (Ty.slice Ty.u8)) r213 hO.base rfl rfl g233 (by decide) fun a234 _ k235 m236 => ?_
     obtain ⟨v237, rfl, r238⟩ := k235
     obtain ⟨A239, c240, rfl, -⟩ := r238.form
     refine zy rfl (m236.le hO.base).fst ?_
     refine zc hO [] [(6, .slice A208 x211.length c209), (8, .slice A239 y232.length c240), (25, .slice A0 p0.length c0), (26, zqz (p0.length : Int)), (27, zqz x214)] zqn fun j => ?_
     refine zA (zd hO 2 [] [(25, .slice A0 p0.length c0), (26, zqz (p0.length : Int)), (27, zqz x214), (31, .slice A208 x211.length c209), (32, .slice A239 y232.length c240)] zqn fun j => ?_)
     obtain ⟨_, hr245, hF⟩ := bind_some hF
     refine zd8 (T := Ty.u8) hO w212 (i := 0) rfl rfl rfl r238 hr245 (by decide) fun _ σ o243 w244 hO => ?_
     obtain ⟨A241, c242, rfl, -⟩ := w244.form
     have hO : Obs _ _ [_] := hO
     refine zc hO [] [(6, .slice A241 (x211 ++ y232).length c242), (25, .slice A0 p0.length c0), (26, zqz (p0.length : Int)), (27, zqz x214)] zqm fun j => ?_
     refine zg (zP (zj (zA (zc hO [] [(6, .slice A241 (x211 ++ y232).length c242), (25, .slice A0 p0.length c0), (26, zqz (p0.length : Int)), (27, zqz (IntKind.i64.wrap (x214 + 1)))] zqm fun j => ?_))))
     refine zg (zj ?_)
     exact ⟨n230, Nat.lt_succ_self _, A241, c242, o243, (x211 ++ y232), (IntKind.i64.wrap (x214 + 1)), _, zqy zql, hO, hL, w244, r213, hF⟩
    ·refine zl (congrArg Value.bool hb231) ?_
     refine zU (zY (z0 (zj (zc hO [] [(2, .slice A208 x211.length c209)] zqj fun j => ?_))))
     refine zK ?_
     injection hF with hF
     subst hF
     exact hQ _ _ _ _ _ rfl hO hL ⟨_, _, rfl, rfl, w212⟩
theorem zoF {τ : Hp} {v0 : Value} {p0 : (List UInt8)} {p1 : ByteArray} (r0 : RdT Ty.u8 τ v0 p0) {rr : (List UInt8) × Int} (hF : zh9 p0 p1 = some rr) :
  Ctr Tryz.prog 78 #[v0, .string p1] τ [] (fun v τ' vs' => ∃ (v0 : Value) (o0 : Ob), v = .tuple #[v0, .int .i64 rr.2] ∧ vs' = [o0] ∧ zr Ty.u8 5 τ' v0 rr.1 o0) := by
 obtain ⟨A0, c0, rfl, -⟩ := r0.form
 refine zM (args := [.slice A0 p0.length c0, .string p1]) hm Tryz.func78 s78 rfl fun w0 σ hO Q hQ => ?_
 unfold zh9 at hF
 have hL := Hp.le.refl τ
 show wpn _ _ a78.body _ _ _
 unfold a78
 dsimp only
 refine zc hO [] [(0, .slice A0 p0.length c0), (1, .string p1)] zqk fun j => ?_
 refine ze (zc hO [] [(0, .slice A0 p0.length c0), (1, .string p1), (8, .bool (decide ((p1.size : Int) > 255)))] zql fun j => ?_)
 rcases zi hF with ⟨hb3, hF⟩ | ⟨hb3, hF⟩
 ·refine zk (congrArg Value.bool hb3) ?_
  refine ze (zc hO [] [(4, .slice none 0 0), (5, zqz 1)] zqk fun j => ?_)
  refine zu ?_
  have hO := hO.no
  have hO : Obs _ _ [_] := hO
  injection hF with hF
  subst hF
  exact hQ _ _ _ _ _ rfl hO hL ⟨_, _, rfl, rfl, (zr.nil _ _ _)⟩
 ·refine zl (congrArg Value.bool hb3) ?_
  refine zm (zd hO 4 [] [(1, .string p1), (9, .slice A0 p0.length c0), (12, .int .u8 (IntKind.u8.wrap (p1.size : Int)))] zql fun j => ?_)
  obtain ⟨z4, hz4, hF⟩ := bind_some hF
  refine zbX (T := Ty.u8) (l := ([z4] : List UInt8)) (cs := [.int .u8 (IntKind.u8.wrap (p1.size : Int))]) hO rfl ⟨[.int .u8 (IntKind.u8.wrap (p1.size : Int))], _, rfl, (u8R hz4), rfl⟩ rfl (by decide) fun _ σ o7 w8 hO => ?_
  obtain ⟨A5, c6, rfl, -⟩ := w8.form
  have hO : Obs _ _ [_] := hO
  refine zd hO 1 [] [(9, .slice A0 p0.length c0), (13, .slice A5 ([z4] : List UInt8).length c6), (14, .string p1)] zql fun j => ?_
  refine zmi hO rfl fun _ σ _ hO h12 r9 => ?_
  have hL := hL.trans h12
  have r0 := r0.le h12
  have w8 := w8.le h12
  obtain ⟨A10, c11, rfl, -⟩ := r9.form
  obtain ⟨_, h14, r13, hO⟩ := w8.share hO (i := 0) rfl
  have hL := hL.trans h14
  have r0 := r0.le h14
  have r9 := r9.le h14
  have hO : Obs _ _ [_] := hO
  refine zbX (T := (Ty.slice Ty.u8)) (l := ([p0, ([z4] : List UInt8), (p1.data.toList)] : List (List UInt8))) (cs := [.slice A0 p0.length c0, .slice A5 ([z4] : List UInt8).length c6, .slice A10 (p1.data.toList).length c11]) hO rfl ⟨[.slice A0 p0.length c0], _, rfl, ⟨_, rfl, r0⟩, ⟨[.slice A5 ([z4] : List UInt8).length c6], _, rfl, ⟨_, rfl, r13⟩, ⟨[.slice A10 (p1.data.toList).length c11], _, rfl, ⟨_, rfl, r9⟩, rfl⟩⟩⟩ rfl (by decide) fun _ σ o17 w18 hO => ?_
  obtain ⟨A15, c16, rfl, -⟩ := w18.form
  have hO : Obs _ _ [_, _] := hO
  obtain ⟨_, h20, r19, hO⟩ := w18.share hO (i := 1) rfl
  have hL := hL.trans h20
  have r0 := r0.le h20
  have r13 := r13.le h20
  have r9 := r9.le h20
  have hO : Obs _ _ [_, _] := hO
  obtain ⟨c21, h22, hF⟩ := bind_some hF
  refine zD hO (zoI r19 h22) rfl fun _ σ _ _ hO h23 h24 => ?_
  have hL := hL.trans h23
  have r0 := r0.le h23
  have r13 := r13.le h23
  have r9 := r9.le h23
  have r19 := r19.le h23
  obtain ⟨v25, o28, rfl, rfl, w29⟩ := h24
  obtain ⟨A26, c27, rfl, -⟩ := w29.form
  have hO : Obs _ _ [_, _, _] := hO
  refine zc hO [] [(4, .slice A26 c21.length c27), (5, zqz 0)] zqk fun j => ?_
  refine zK ?_
  injection hF with hF
  subst hF
  have hO := hO.sel [2] (by decide)
  exact hQ _ _ _ _ _ rfl hO hL ⟨_, _, rfl, rfl, w29⟩
theorem zjO {τ : Hp} {p0 : Int}  {rr : Bool} (hF : ze5 p0 = some rr) :
  Ctr Tryz.prog 106 #[.int .u8 p0] τ [] (fun v τ' vs' => v = .bool rr ∧ vs' = []) := by
 refine zM (args := [.int .u8 p0]) hm Tryz.func106 zoY rfl fun w0 σ hO Q hQ => ?_
 unfold ze5 at hF
 have hL := Hp.le.refl τ
 show wpn _ _ zi1.body _ _ _
 unfold zi1
 dsimp only
 refine zc hO [] [(0, .int .u8 p0)] zqj fun j => ?_
 refine zc hO [] [(2, .bool ((decide (p0 ≥ 1)) && (decide (p0 ≤ 3))))] (And.intro (And.intro rfl rfl) (fun _ => zqy trivial)) fun j => ?_
 refine zK ?_
 injection hF with hF
 subst hF
 exact hQ _ _ _ _ _ rfl hO hL ⟨rfl, rfl⟩
theorem zlk {τ : Hp} {v0 : Value} {p0 : (List UInt8)} {p1 : Int} (r0 : RdT Ty.u8 τ v0 p0) {rr : (List UInt8)} (hF : zeF p0 p1 = some rr) :
  Ctr Tryz.prog 107 #[v0, .int .i64 p1] τ [] (fun v τ' vs' => ∃ (v0 : Value) (o0 : Ob), v = v0 ∧ vs' = [o0] ∧ zr Ty.u8 5 τ' v0 rr o0) := by
 obtain ⟨A0, c0, rfl, -⟩ := r0.form
 refine zM (args := [.slice A0 p0.length c0, .int .i64 p1]) hm Tryz.func107 zpW rfl fun w0 σ hO Q hQ => ?_
 unfold zeF at hF
 have hL := Hp.le.refl τ
 show wpn _ _ zip.body _ _ _
 unfold zip
 dsimp only
 refine zc hO [] [(0, .slice A0 p0.length c0), (1, zqz p1)] zqk fun j => ?_
 refine zd hO 1 [] [(1, zqz p1), (6, .slice A0 p0.length c0)] zqk fun j => ?_
 obtain ⟨c3, h4, hF⟩ := bind_some hF
 refine zD hO (zlT r0 h4) rfl fun _ σ _ _ hO h5 h6 => ?_
 have hL := hL.trans h5
 have r0 := r0.le h5
 obtain ⟨v7, o10, rfl, rfl, w11⟩ := h6
 obtain ⟨A8, c9, rfl, -⟩ := w11.form
 have hO : Obs _ _ [_] := hO
 refine zc hO [] [(1, zqz p1), (5, .slice A8 c3.length c9)] zqk fun j => ?_
 refine zt (zZ (fun (n : Nat) e' σ' => ∃ (x30 : Int) (A31 : Option Addr) (c32 : Nat) (o33 : Ob) (x34 : List UInt8) (τ' : Hp), agr [(1, zqz x30), (5, .slice A31 x34.length c32)] e' ∧ Obs τ' σ' [o33] ∧ Hp.le τ τ' ∧ zr Ty.u8 5 τ' (.slice A31 x34.length c32) x34 o33 ∧ zf8  n x30 x34 = some rr) big ⟨p1, A8, c9, o10, c3, _, zqy zqj, hO, hL, w11, hF⟩ ?_)
 clear hF hO hL
 rintro n49 e σ ⟨x30, A31, c32, o33, x34, _, hA, hO, hL, w35, hF⟩
 rw [← zL _ _ hA]
 cases n49 with
 | zero => exact nomatch (show none = some rr from hF)
 | succ n49 =>
  replace hF : zff (zf8  n49) x30 x34 = some rr := hF
  unfold zff at hF
  refine ze (zc hO [] [(1, zqz x30), (5, .slice A31 x34.length c32), (13, .bool ((decide (x30 > 63)) || (decide (x30 < (-64)))))] (And.intro (And.intro rfl rfl) (fun _ => zqy zqk)) fun j => ?_)
  rcases zi hF with ⟨hb50, hF⟩ | ⟨hb50, hF⟩
  ·refine zk (congrArg Value.bool hb50) ?_
   refine zm (zcE (zt (zd hO 4 [] [(1, zqz x30), (14, .slice A31 x34.length c32), (17, .int .u8 (orI .u8 (IntKind.u8.wrap x30) 128))] zql fun j => ?_)))
   obtain ⟨z51, hz51, hF⟩ := bind_some hF
   obtain ⟨_, hr56, hF⟩ := bind_some hF
   refine zbN (T := Ty.u8) (y := z51) hO w35 (i := 0) rfl rfl (fun _ => rfl) rfl (u8R hz51) rfl hr56 (by decide) fun u _ σ o54 w55 hO => ?_
   obtain ⟨A52, c53, rfl, -⟩ := w55.form
   have hO : Obs _ _ [_] := hO
   refine zc hO [] [(1, zqz x30), (5, .slice A52 (x34 ++ [z51]).length c53)] zqk fun j => ?_
   refine zA (zc hO [] [(1, zqz (zcy .i64 x30 7)), (5, .slice A52 (x34 ++ [z51]).length c53)] zqk fun j => ?_)
   refine zg (zP (zj (zg (zj ?_))))
   exact ⟨n49, Nat.lt_succ_self _, (zcy .i64 x30 7), A52, c53, o54, (x34 ++ [z51]), _, zqy zqj, hO, hL, w55, hF⟩
  ·refine zl (congrArg Value.bool hb50) ?_
   refine zU (zY (z0 (zj (zd hO 4 [] [(22, .slice A31 x34.length c32), (25, .int .u8 (zdK .u8 (IntKind.u8.wrap x30) 127))] zqk fun j => ?_))))
   obtain ⟨z57, hz57, hF⟩ := bind_some hF
   obtain ⟨_, hr62, hF⟩ := bind_some hF
   refine zbN (T := Ty.u8) (y := z57) hO w35 (i := 0) rfl rfl (fun _ => rfl) rfl (u8R hz57) rfl hr62 (by decide) fun u _ σ o60 w61 hO => ?_
   obtain ⟨A58, c59, rfl, -⟩ := w61.form
   have hO : Obs _ _ [_] := hO
   refine zc hO [] [(4, .slice A58 (x34 ++ [z57]).length c59)] zqj fun j => ?_
   refine zK ?_
   injection hF with hF
   subst hF
   exact hQ _ _ _ _ _ rfl hO hL ⟨_, _, rfl, rfl, w61⟩
theorem zoc {τ : Hp} {v0 : Value} {p0 : (List UInt8)} {v1 : Value} {p1 : (List zE)} (r0 : RdT Ty.u8 τ v0 p0) (r1 : RdT zbs τ v1 p1) {rr : (List UInt8) × Int} (hF : zh8 p0 p1 = some rr) :
  Ctr Tryz.prog 98 #[v0, v1] τ [] (fun v τ' vs' => ∃ (v0 : Value) (o0 : Ob), v = .tuple #[v0, .int .i64 rr.2] ∧ vs' = [o0] ∧ zr Ty.u8 5 τ' v0 rr.1 o0) := by
 obtain ⟨A0, c0, rfl, -⟩ := r0.form
 obtain ⟨A1, c1, rfl, -⟩ := r1.form
 refine zM (args := [.slice A0 p0.length c0, .slice A1 p1.length c1]) hm Tryz.func98 s98 rfl fun w0 σ hO Q hQ => ?_
 unfold zh8 at hF
 have hL := Hp.le.refl τ
 show wpn _ _ a98.body _ _ _
 unfold a98
 dsimp only
 refine zc hO [] [(0, .slice A0 p0.length c0), (1, .slice A1 p1.length c1)] zqk fun j => ?_
 refine ze (zd hO 1 [] [(0, .slice A0 p0.length c0), (1, .slice A1 p1.length c1), (9, .slice A1 p1.length c1)] zql fun j => ?_)
 obtain ⟨c3, h4, hF⟩ := bind_some hF
 refine zD hO (zjf r1 h4) rfl fun _ σ _ _ hO h5 h6 => ?_
 have hL := hL.trans h5
 have r0 := r0.le h5
 have r1 := r1.le h5
 obtain ⟨rfl, rfl⟩ := h6
 have hO : Obs _ _ [] := hO
 refine zc hO [] [(0, .slice A0 p0.length c0), (1, .slice A1 p1.length c1), (11, .bool (!c3))] zql fun j => ?_
 rcases zi hF with ⟨hb7, hF⟩ | ⟨hb7, hF⟩
 ·refine zk (congrArg Value.bool hb7) ?_
  refine ze (zc hO [] [(4, .slice none 0 0), (5, zqz 1)] zqk fun j => ?_)
  refine zu ?_
  have hO := hO.no
  have hO : Obs _ _ [_] := hO
  injection hF with hF
  subst hF
  exact hQ _ _ _ _ _ rfl hO hL ⟨_, _, rfl, rfl, (zr.nil _ _ _)⟩
 ·refine zl (congrArg Value.bool hb7) ?_
  refine zm (zd hO 4 [] [(1, .slice A1 p1.length c1), (12, .slice A0 p0.length c0), (15, .int .u64 (IntKind.u64.wrap (p1.length : Int)))] zql fun j => ?_)
  obtain ⟨c8, h9, hF⟩ := bind_some hF
  refine zD hO (zdV r0 h9) rfl fun _ σ _ _ hO h10 h11 => ?_
  have hL := hL.trans h10
  have r1 := r1.le h10
  have r0 := r0.le h10
  obtain ⟨v12, o15, rfl, rfl, w16⟩ := h11
  obtain ⟨A13, c14, rfl, -⟩ := w16.form
  have hO : Obs _ _ [_] := hO
  refine zc hO [] [(1, .slice A1 p1.length c1), (6, .slice A13 c8.length c14)] zqk fun j => ?_
  refine ze (zc hO [] [(6, .slice A13 c8.length c14), (17, .slice A1 p1.length c1), (18, zqz (p1.length : Int)), (19, zqz 0)] zqm fun j => ?_)
  refine zt (zZ (fun (n : Nat) e' σ' => ∃ (A51 : Option Addr) (c52 : Nat) (o53 : Ob) (x54 : List UInt8) (x57 : Int) (τ' : Hp), agr [(6, .slice A51 x54.length c52), (17, .slice A1 p1.length c1), (18, zqz (p1.length : Int)), (19, zqz x57)] e' ∧ Obs τ' σ' [o53] ∧ Hp.le τ τ' ∧ zr Ty.u8 5 τ' (.slice A51 x54.length c52) x54 o53 ∧ RdT zbs τ' (.slice A1 p1.length c1) p1 ∧ zhF p1 n x54 x57 = some rr) big ⟨A13, c14, o15, c8, 0, _, zqy zql, hO, hL, w16, r1, hF⟩ ?_)
  clear hF hO hL
  rintro n86 e σ ⟨A51, c52, o53, x54, x57, _, hA, hO, hL, w55, r56, hF⟩
  rw [← zL _ _ hA]
  cases n86 with
  | zero => exact nomatch (show none = some rr from hF)
  | succ n86 =>
   replace hF : zjD (zhF p1 n86) p1 x54 x57 = some rr := hF
   unfold zjD at hF
   refine zc hO [] [(6, .slice A51 x54.length c52), (17, .slice A1 p1.length c1), (18, zqz (p1.length : Int)), (19, zqz x57), (20, .bool (decide (x57 < (p1.length : Int))))] zqn fun j => ?_
   rcases zi hF with ⟨hb87, hF⟩ | ⟨hb87, hF⟩
   ·refine zk (congrArg Value.bool hb87) ?_
    refine zm (zt ?_)
    obtain ⟨y88, g89, hF⟩ := bind_some hF
    refine zC (T := zbs) r56 hO.base rfl rfl g89 (by decide) fun a90 _ k91 m92 => ?_
    obtain rfl : _ = ([.int .u8 y88.Kind.toNat, .int .i64 y88.N] : List Value) := k91
    refine zy rfl ((m92.le hO.base).all rfl) ?_
    refine zbq hO fun b93 σ hO => ?_
    have hO : Obs _ _ [_, _] := hO
    refine zO hO (i := 1) rfl (off := 0) rfl rfl rfl rfl (Nat.le_of_ble_eq_true rfl) rfl fun σ hO => ?_
    have hO : Obs _ _ [_, _] := hO
    refine zh (zd hO 3 [1] [(8, zqA b93), (17, .slice A1 p1.length c1), (18, zqz (p1.length : Int)), (19, zqz x57), (23, .slice A51 x54.length c52), (25, .int .u8 (y88.Kind.toNat : Int))] (And.intro (And.intro rfl rfl) zqo) fun j => ?_)
    obtain ⟨_, hr98, hF⟩ := bind_some hF
    refine zbN (T := Ty.u8) (y := y88.Kind) hO w55 (i := 0) rfl rfl (fun _ => rfl) rfl rfl rfl hr98 (by decide) fun u _ σ o96 w97 hO => ?_
    obtain ⟨A94, c95, rfl, -⟩ := w97.form
    have hO : Obs _ _ [_, _] := hO
    refine zc hO [] [(6, .slice A94 (x54 ++ [y88.Kind]).length c95), (8, zqA b93), (17, .slice A1 p1.length c1), (18, zqz (p1.length : Int)), (19, zqz x57)] zqn fun j => ?_
    refine zd hO 2 [1] [(6, .slice A94 (x54 ++ [y88.Kind]).length c95), (8, zqA b93), (17, .slice A1 p1.length c1), (18, zqz (p1.length : Int)), (19, zqz x57), (29, .int .u8 (y88.Kind.toNat : Int))] (And.intro (And.intro rfl rfl) zqo) fun j => ?_
    obtain ⟨c99, h100, hF⟩ := bind_some hF
    refine zD hO (zjO h100) rfl fun _ σ _ _ hO h101 h102 => ?_
    have hL := hL.trans h101
    have w97 := w97.le h101
    have r56 := r56.le h101
    obtain ⟨rfl, rfl⟩ := h102
    have hO : Obs _ _ [_, _] := hO
    refine zh (zbl ?_)
    rcases zi hF with ⟨hb103, hF⟩ | ⟨hb103, hF⟩
    ·refine zk (congrArg Value.bool hb103) ?_
     refine zd hO 3 [1] [(17, .slice A1 p1.length c1), (18, zqz (p1.length : Int)), (19, zqz x57), (31, .slice A94 (x54 ++ [y88.Kind]).length c95), (33, zqz y88.N)] (And.intro (And.intro rfl rfl) zqn) fun j => ?_
     obtain ⟨_, h105, r104, hO⟩ := w97.share hO (i := 0) rfl
     have hL := hL.trans h105
     have r56 := r56.le h105
     have hO : Obs _ _ [_, _] := hO
     obtain ⟨c106, h107, hF⟩ := bind_some hF
     refine zD hO (zlk r104 h107) rfl fun _ σ _ _ hO h108 h109 => ?_
     have hL := hL.trans h108
     have r56 := r56.le h108
     have r104 := r104.le h108
     obtain ⟨v110, o113, rfl, rfl, w114⟩ := h109
     obtain ⟨A111, c112, rfl, -⟩ := w114.form
     have hO : Obs _ _ [_, _, _] := hO
     refine zc hO [] [(6, .slice A111 c106.length c112), (17, .slice A1 p1.length c1), (18, zqz (p1.length : Int)), (19, zqz x57)] zqm fun j => ?_
     refine zg (zP (zj (zA (zc hO [] [(6, .slice A111 c106.length c112), (17, .slice A1 p1.length c1), (18, zqz (p1.length : Int)), (19, zqz (IntKind.i64.wrap (x57 + 1)))] zqm fun j => ?_))))
     refine zg (zj ?_)
     have hO := hO.sel [2] (by decide)
     exact ⟨n86, Nat.lt_succ_self _, A111, c112, o113, c106, (IntKind.i64.wrap (x57 + 1)), _, zqy zql, hO, hL, w114, r56, hF⟩
    ·refine zl (congrArg Value.bool hb103) ?_
     refine zm (zg (zP (zj (zA (zc hO [] [(6, .slice A94 (x54 ++ [y88.Kind]).length c95), (17, .slice A1 p1.length c1), (18, zqz (p1.length : Int)), (19, zqz (IntKind.i64.wrap (x57 + 1)))] zqm fun j => ?_)))))
     refine zg (zj ?_)
     have hO := hO.sel [0] (by decide)
     exact ⟨n86, Nat.lt_succ_self _, A94, c95, o96, (x54 ++ [y88.Kind]), (IntKind.i64.wrap (x57 + 1)), _, zqy zql, hO, hL, w97, r56, hF⟩
   ·refine zl (congrArg Value.bool hb87) ?_
    refine zU (zY (z0 (zj (zc hO [] [(4, .slice A51 x54.length c52), (5, zqz 0)] zqk fun j => ?_))))
    refine zK ?_
    injection hF with hF
    subst hF
    exact hQ _ _ _ _ _ rfl hO hL ⟨_, _, rfl, rfl, w55⟩
end Go.Proofs.YtckcngkkofemjaaGreat
