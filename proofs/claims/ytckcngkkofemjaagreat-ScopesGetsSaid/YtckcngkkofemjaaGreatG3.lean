import Derived.Test.YtckcngkkofemjaaGreatG2
namespace Go.Proofs.YtckcngkkofemjaaGreat
open Go.Ab Go.RowKit
set_option linter.unusedVariables false
set_option linter.unusedSimpArgs false
set_option maxRecDepth 10000
set_option maxHeartbeats 1000000
theorem zlP {τ : Hp} {v0 : Value} {p0 : (List zE)} (r0 : RdT zbs τ v0 p0) {rr : Bool} (hF : zfl p0 = some rr) :
  Ctr Tryz.prog 82 #[v0] τ [] (fun v τ' vs' => v = .bool rr ∧ vs' = []) := by
 obtain ⟨A0, c0, rfl, -⟩ := r0.form
 refine zM (args := [.slice A0 p0.length c0]) hm Tryz.func82 s82 rfl fun w0 σ hO Q hQ => ?_
 unfold zfl at hF
 have hL := Hp.le.refl τ
 show wpn _ _ a82.body _ _ _
 unfold a82
 dsimp only
 refine zc hO [] [(0, .slice A0 p0.length c0)] zqj fun j => ?_
 refine zc hO [] [(0, .slice A0 p0.length c0), (3, zqz 0)] zqk fun j => ?_
 refine ze (zc hO [] [(0, .slice A0 p0.length c0), (3, zqz 0), (4, zqz 0)] zql fun j => ?_)
 refine zt (zZ (fun (n : Nat) e' σ' => ∃ (x78 : Int) (x79 : Int) (τ' : Hp), agr [(0, .slice A0 p0.length c0), (3, zqz x78), (4, zqz x79)] e' ∧ Obs τ' σ' [] ∧ Hp.le τ τ' ∧ RdT zbs τ' (.slice A0 p0.length c0) p0 ∧ zdl p0 n x78 x79 = some rr) big ⟨0, 0, _, zqy zqk, hO, hL, r0, hF⟩ ?_)
 clear hF hO hL
 rintro n154 e σ ⟨x78, x79, _, hA, hO, hL, r77, hF⟩
 rw [← zL _ _ hA]
 cases n154 with
 | zero => exact nomatch (show none = some rr from hF)
 | succ n154 =>
  replace hF : zd5 (zdl p0 n154) p0 x78 x79 = some rr := hF
  unfold zd5 at hF
  refine ze (zc hO [] [(0, .slice A0 p0.length c0), (3, zqz x78), (4, zqz x79), (9, .bool (decide (x79 < (p0.length : Int))))] zqm fun j => ?_)
  rcases zi hF with ⟨hb155, hF⟩ | ⟨hb155, hF⟩
  ·refine zk (congrArg Value.bool hb155) ?_
   refine zm (zt (zc hO [] [(0, .slice A0 p0.length c0), (3, zqz x78), (4, zqz x79), (5, zqz 0)] zqm fun j => ?_))
   refine ze (zd hO 2 [] [(0, .slice A0 p0.length c0), (3, zqz x78), (4, zqz x79), (5, zqz 0), (12, .slice A0 p0.length c0), (13, zqz x79)] zqo fun j => ?_)
   obtain ⟨y156, g157, hF⟩ := bind_some hF
   refine zC (T := zbs) r77 hO.base rfl rfl g157 (by decide) fun a158 _ k159 m160 => ?_
   obtain rfl : _ = ([.int .u8 y156.Kind.toNat, .int .i64 y156.N] : List Value) := k159
   refine zd hO 1 [] [(0, .slice A0 p0.length c0), (3, zqz x78), (4, zqz x79), (5, zqz 0), (15, .pointer (some a158))] zqn fun j => ?_
   refine zy rfl (m160.le hO.base).fst ?_
   refine zh (zjT (fun e' σ' => ∃ (x188 : Int) (τ' : Hp), agr [(0, .slice A0 p0.length c0), (3, zqz x78), (4, zqz x79), (5, zqz x188)] e' ∧ Obs τ' σ' [] ∧ Hp.le τ τ' ∧ RdT zbs τ' (.slice A0 p0.length c0) p0 ∧ zc7 (zdl p0 n154) p0 x78 x79 x188 = some rr) ?_ ?_)
   ·refine ze (zc hO [] [(0, .slice A0 p0.length c0), (3, zqz x78), (4, zqz x79), (5, zqz 0), (16, .int .u8 (y156.Kind.toNat : Int)), (17, .bool ((y156.Kind.toNat : Int) == 1))] zqo fun j => ?_)
    refine zco (fun e' σ' => ∃ (x201 : Bool) (τ' : Hp), agr [(0, .slice A0 p0.length c0), (3, zqz x78), (4, zqz x79), (5, zqz 0), (16, .int .u8 (y156.Kind.toNat : Int)), (17, .bool x201)] e' ∧ Obs τ' σ' [] ∧ Hp.le τ τ' ∧ RdT zbs τ' (.slice A0 p0.length c0) p0 ∧ zeW (zdl p0 n154) p0 x78 x79 y156 x201 = some rr) ?_ ?_
    ·refine zbl ?_
     rcases zi hF with ⟨hb224, hF⟩ | ⟨hb224, hF⟩
     ·refine zk (congrArg Value.bool hb224) ?_
      refine zm (zg (zj ?_))
      exact ⟨((y156.Kind.toNat : Int) == 1), _, zqy zqn, hO, hL, r77, hF⟩
     ·refine zl (congrArg Value.bool hb224) ?_
      refine zc hO [] [(0, .slice A0 p0.length c0), (3, zqz x78), (4, zqz x79), (5, zqz 0), (16, .int .u8 (y156.Kind.toNat : Int)), (17, .bool ((y156.Kind.toNat : Int) == 3))] zqo fun j => ?_
      refine zg (zj ?_)
      exact ⟨((y156.Kind.toNat : Int) == 3), _, zqy zqn, hO, hL, r77, hF⟩
    ·rintro e σ ⟨x201, _, hA, hO, hL, r200, hF⟩
     rw [← zL _ _ hA]
     unfold zeW at hF
     refine zbl ?_
     rcases zi hF with ⟨hb202, hF⟩ | ⟨hb202, hF⟩
     ·refine zk (congrArg Value.bool hb202) ?_
      refine zm (zg (zP (zj ?_)))
      exact ⟨0, _, zqy zql, hO, hL, r200, hF⟩
     ·refine zl (congrArg Value.bool hb202) ?_
      refine ze (zc hO [] [(0, .slice A0 p0.length c0), (3, zqz x78), (4, zqz x79), (5, zqz 0), (16, .int .u8 (y156.Kind.toNat : Int)), (20, .bool ((y156.Kind.toNat : Int) == 2))] zqo fun j => ?_)
      rcases zi hF with ⟨hb203, hF⟩ | ⟨hb203, hF⟩
      ·refine zk (congrArg Value.bool hb203) ?_
       refine ze (zd hO 2 [] [(0, .slice A0 p0.length c0), (3, zqz x78), (4, zqz x79), (5, zqz 0), (22, .slice A0 p0.length c0), (23, zqz x79)] zqo fun j => ?_)
       obtain ⟨y204, g205, hF⟩ := bind_some hF
       refine zC (T := zbs) r200 hO.base rfl rfl g205 (by decide) fun a206 _ k207 m208 => ?_
       obtain rfl : _ = ([.int .u8 y204.Kind.toNat, .int .i64 y204.N] : List Value) := k207
       refine zd hO 1 [] [(0, .slice A0 p0.length c0), (3, zqz x78), (4, zqz x79), (5, zqz 0), (25, .pointer (some (a206.add 1)))] zqn fun j => ?_
       refine zy rfl ((m208.le hO.base).one 1 rfl) ?_
       refine zd hO 2 [] [(0, .slice A0 p0.length c0), (3, zqz x78), (4, zqz x79), (5, zqz 0), (28, .bool (decide (y204.N < 0)))] zqn fun j => ?_
       obtain ⟨c209, h210, hF⟩ := bind_some hF
       refine zbK 2 [(35, .bool c209), (0, .slice A0 p0.length c0), (3, zqz x78), (4, zqz x79), (5, zqz 0)] (fun Q hQ => ?_) fun j => ?_
       ·have hF := h210
        rcases zi hF with ⟨hb211, hF⟩ | ⟨hb211, hF⟩
        ·refine z9 (congrArg (fun x => isB (.bool x) false) hb211) ?_
         refine zJ (congrArg Value.bool hb211) ?_
         refine zh ?_
         injection hF with hF
         subst hF
         refine zg ?_
         exact hQ _ zqn
        ·refine z7 (congrArg (fun x => isB (.bool x) false) hb211) ?_
         refine zd hO 2 [] [(0, .slice A0 p0.length c0), (3, zqz x78), (4, zqz x79), (5, zqz 0), (28, .bool (decide (y204.N < 0))), (29, .slice A0 p0.length c0), (30, zqz x79)] zqp fun j => ?_
         obtain ⟨y212, g213, hF⟩ := bind_some hF
         refine zC (T := zbs) r200 hO.base rfl rfl g213 (by decide) fun a214 _ k215 m216 => ?_
         obtain rfl : _ = ([.int .u8 y212.Kind.toNat, .int .i64 y212.N] : List Value) := k215
         refine zd hO 1 [] [(0, .slice A0 p0.length c0), (3, zqz x78), (4, zqz x79), (5, zqz 0), (28, .bool (decide (y204.N < 0))), (32, .pointer (some (a214.add 1)))] zqo fun j => ?_
         refine zy rfl ((m216.le hO.base).one 1 rfl) ?_
         refine zd hO 1 [] [(0, .slice A0 p0.length c0), (3, zqz x78), (4, zqz x79), (5, zqz 0), (28, .bool (decide (y204.N < 0))), (34, .bool (decide (y212.N > 15)))] zqo fun j => ?_
         refine zJ (congrArg Value.bool hb211) ?_
         refine zh ?_
         injection hF with hF
         subst hF
         refine zg ?_
         exact hQ _ zqn
       ·refine zh ?_
        rcases zi hF with ⟨hb217, hF⟩ | ⟨hb217, hF⟩
        ·refine zk (congrArg Value.bool hb217) ?_
         refine ze (zc hO [] [(2, .bool false)] zqj fun j => ?_)
         refine zu (zw (zn (zw (zn (zn (zw ?_))))))
         refine zn ?_
         injection hF with hF
         subst hF
         exact hQ _ _ _ _ _ rfl hO hL ⟨rfl, rfl⟩
        ·refine zl (congrArg Value.bool hb217) ?_
         refine zm (zg (zP (zj ?_)))
         exact ⟨0, _, zqy zql, hO, hL, r200, hF⟩
      ·refine zl (congrArg Value.bool hb203) ?_
       refine ze (ze (zc hO [] [(0, .slice A0 p0.length c0), (3, zqz x78), (4, zqz x79), (16, .int .u8 (y156.Kind.toNat : Int)), (36, .bool ((y156.Kind.toNat : Int) == 4))] zqn fun j => ?_))
       refine zco (fun e' σ' => ∃ (x220 : Bool) (τ' : Hp), agr [(0, .slice A0 p0.length c0), (3, zqz x78), (4, zqz x79), (16, .int .u8 (y156.Kind.toNat : Int)), (36, .bool x220)] e' ∧ Obs τ' σ' [] ∧ Hp.le τ τ' ∧ RdT zbs τ' (.slice A0 p0.length c0) p0 ∧ zfe (zdl p0 n154) p0 x78 x79 y156 x220 = some rr) ?_ ?_
       ·refine zbl ?_
        rcases zi hF with ⟨hb223, hF⟩ | ⟨hb223, hF⟩
        ·refine zk (congrArg Value.bool hb223) ?_
         refine zm (zg (zj ?_))
         exact ⟨((y156.Kind.toNat : Int) == 4), _, zqy zqm, hO, hL, r200, hF⟩
        ·refine zl (congrArg Value.bool hb223) ?_
         refine zc hO [] [(0, .slice A0 p0.length c0), (3, zqz x78), (4, zqz x79), (16, .int .u8 (y156.Kind.toNat : Int)), (36, .bool ((y156.Kind.toNat : Int) == 6))] zqn fun j => ?_
         refine zg (zj ?_)
         exact ⟨((y156.Kind.toNat : Int) == 6), _, zqy zqm, hO, hL, r200, hF⟩
       ·rintro e σ ⟨x220, _, hA, hO, hL, r219, hF⟩
        rw [← zL _ _ hA]
        unfold zfe at hF
        rcases zi hF with ⟨hb221, hF⟩ | ⟨hb221, hF⟩
        ·refine zk (congrArg Value.bool hb221) ?_
         refine zc hO [] [(0, .slice A0 p0.length c0), (3, zqz x78), (4, zqz x79), (5, zqz 1)] zqm fun j => ?_
         refine zg (zP (zj ?_))
         exact ⟨1, _, zqy zql, hO, hL, r219, hF⟩
        ·refine zl (congrArg Value.bool hb221) ?_
         refine ze (zc hO [] [(0, .slice A0 p0.length c0), (3, zqz x78), (4, zqz x79), (39, .bool ((y156.Kind.toNat : Int) == 5))] zqm fun j => ?_)
         rcases zi hF with ⟨hb222, hF⟩ | ⟨hb222, hF⟩
         ·refine zk (congrArg Value.bool hb222) ?_
          refine zc hO [] [(0, .slice A0 p0.length c0), (3, zqz x78), (4, zqz x79), (5, zqz 2)] zqm fun j => ?_
          refine zg (zP (zj ?_))
          exact ⟨2, _, zqy zql, hO, hL, r219, hF⟩
         ·refine zl (congrArg Value.bool hb222) ?_
          refine ze (zc hO [] [(2, .bool false)] zqj fun j => ?_)
          refine zu (zw (zn (zw (zn (zn (zw ?_))))))
          refine zn ?_
          injection hF with hF
          subst hF
          exact hQ _ _ _ _ _ rfl hO hL ⟨rfl, rfl⟩
   ·rintro e σ ⟨x188, _, hA, hO, hL, r187, hF⟩
    rw [← zL _ _ hA]
    unfold zc7 at hF
    refine ze (zd hO 3 [] [(0, .slice A0 p0.length c0), (3, zqz x78), (4, zqz x79), (5, zqz x188), (43, .bool (decide (x188 > 0)))] zqn fun j => ?_)
    obtain ⟨c189, h190, hF⟩ := bind_some hF
    refine zbK 2 [(50, .bool c189), (0, .slice A0 p0.length c0), (3, zqz x78), (4, zqz x79), (5, zqz x188)] (fun Q hQ => ?_) fun j => ?_
    ·have hF := h190
     rcases zi hF with ⟨hb191, hF⟩ | ⟨hb191, hF⟩
     ·refine z7 (congrArg (fun x => isB (.bool x) true) hb191) ?_
      refine zd hO 2 [] [(0, .slice A0 p0.length c0), (3, zqz x78), (4, zqz x79), (5, zqz x188), (43, .bool (decide (x188 > 0))), (44, .slice A0 p0.length c0), (45, zqz x79)] zqp fun j => ?_
      obtain ⟨y192, g193, hF⟩ := bind_some hF
      refine zC (T := zbs) r187 hO.base rfl rfl g193 (by decide) fun a194 _ k195 m196 => ?_
      obtain rfl : _ = ([.int .u8 y192.Kind.toNat, .int .i64 y192.N] : List Value) := k195
      refine zd hO 1 [] [(0, .slice A0 p0.length c0), (3, zqz x78), (4, zqz x79), (5, zqz x188), (43, .bool (decide (x188 > 0))), (47, .pointer (some (a194.add 1)))] zqo fun j => ?_
      refine zy rfl ((m196.le hO.base).one 1 rfl) ?_
      refine zd hO 1 [] [(0, .slice A0 p0.length c0), (3, zqz x78), (4, zqz x79), (5, zqz x188), (43, .bool (decide (x188 > 0))), (49, .bool (y192.N != 0))] zqo fun j => ?_
      refine zJ (congrArg Value.bool hb191) ?_
      refine zh ?_
      injection hF with hF
      subst hF
      refine zg ?_
      exact hQ _ zqn
     ·refine z9 (congrArg (fun x => isB (.bool x) true) hb191) ?_
      refine zJ (congrArg Value.bool hb191) ?_
      refine zh ?_
      injection hF with hF
      subst hF
      refine zg ?_
      exact hQ _ zqn
    ·refine zc hO [] [(0, .slice A0 p0.length c0), (3, zqz x78), (4, zqz x79), (5, zqz x188), (55, .bool (c189 || (decide (x188 > x78))))] (And.intro (And.intro rfl rfl) (fun _ => zqy zqm)) fun j => ?_
     rcases zi hF with ⟨hb197, hF⟩ | ⟨hb197, hF⟩
     ·refine zk (congrArg Value.bool hb197) ?_
      refine ze (zc hO [] [(2, .bool false)] zqj fun j => ?_)
      refine zu (zw (zn (zn (zw (zn ?_)))))
      injection hF with hF
      subst hF
      exact hQ _ _ _ _ _ rfl hO hL ⟨rfl, rfl⟩
     ·refine zl (congrArg Value.bool hb197) ?_
      refine zm (zc hO [] [(0, .slice A0 p0.length c0), (3, zqz (IntKind.i64.wrap ((IntKind.i64.wrap (x78 - x188)) + 1))), (4, zqz x79)] zql fun j => ?_)
      refine zc hO [] [(0, .slice A0 p0.length c0), (3, zqz (IntKind.i64.wrap ((IntKind.i64.wrap (x78 - x188)) + 1))), (4, zqz x79), (61, .bool (decide ((IntKind.i64.wrap ((IntKind.i64.wrap (x78 - x188)) + 1)) > 8)))] zqm fun j => ?_
      refine zbl ?_
      rcases zi hF with ⟨hb198, hF⟩ | ⟨hb198, hF⟩
      ·refine zk (congrArg Value.bool hb198) ?_
       refine ze (zc hO [] [(2, .bool false)] zqj fun j => ?_)
       refine zu (zw (zn (zn (zw (zn ?_)))))
       injection hF with hF
       subst hF
       exact hQ _ _ _ _ _ rfl hO hL ⟨rfl, rfl⟩
      ·refine zl (congrArg Value.bool hb198) ?_
       refine zm (zg (zP (zj (zA (zc hO [] [(0, .slice A0 p0.length c0), (3, zqz (IntKind.i64.wrap ((IntKind.i64.wrap (x78 - x188)) + 1))), (4, zqz (IntKind.i64.wrap (x79 + 1)))] zql fun j => ?_)))))
       refine zg (zj ?_)
       exact ⟨n154, Nat.lt_succ_self _, (IntKind.i64.wrap ((IntKind.i64.wrap (x78 - x188)) + 1)), (IntKind.i64.wrap (x79 + 1)), _, zqy zqk, hO, hL, r187, hF⟩
  ·refine zl (congrArg Value.bool hb155) ?_
   refine zU (zY (z0 (zj (zd hO 4 [] [(0, .slice A0 p0.length c0), (3, zqz x78), (65, .bool (decide ((p0.length : Int) ≤ 16)))] zql fun j => ?_))))
   obtain ⟨c225, h226, hF⟩ := bind_some hF
   refine zbK 4 [(73, .bool c225)] (fun Q hQ => ?_) fun j => ?_
   ·have hF := h226
    rcases zi hF with ⟨hb227, hF⟩ | ⟨hb227, hF⟩
    ·refine z7 (congrArg (fun x => isB (.bool x) true) hb227) ?_
     refine zd hO 4 [] [(3, zqz x78), (65, .bool (decide ((p0.length : Int) ≤ 16))), (69, .bool ((p0.length : Int) == 0))] zql fun j => ?_
     rcases zi hF with ⟨hb228, hF⟩ | ⟨hb228, hF⟩
     ·refine z9 (congrArg (fun x => isB (.bool x) false) hb228) ?_
      refine z7 (congrArg (fun x => isB (.bool x) true) hb227) ?_
      refine zJ (congrArg Value.bool hb228) ?_
      refine zJ (congrArg Value.bool hb227) ?_
      refine zh ?_
      injection hF with hF
      subst hF
      refine zg ?_
      exact hQ _ (zqy (trivial))
     ·refine z7 (congrArg (fun x => isB (.bool x) false) hb228) ?_
      refine zd hO 2 [] [(65, .bool (decide ((p0.length : Int) ≤ 16))), (69, .bool ((p0.length : Int) == 0)), (71, .bool (x78 == 1))] zql fun j => ?_
      refine z7 (congrArg (fun x => isB (.bool x) true) hb227) ?_
      refine zJ (congrArg Value.bool hb228) ?_
      refine zJ (congrArg Value.bool hb227) ?_
      refine zh ?_
      injection hF with hF
      subst hF
      refine zg ?_
      exact hQ _ (zqy (trivial))
    ·refine z9 (congrArg (fun x => isB (.bool x) true) hb227) ?_
     refine z9 rfl ?_
     refine z9 (congrArg (fun x => isB (.bool x) true) hb227) ?_
     refine zJ (congrArg Value.bool hb227) ?_
     refine zh ?_
     injection hF with hF
     subst hF
     refine zg ?_
     exact hQ _ (zqy (trivial))
   ·refine zc hO [] [(2, .bool c225)] zqj fun j => ?_
    refine zK ?_
    injection hF with hF
    subst hF
    exact hQ _ _ _ _ _ rfl hO hL ⟨rfl, rfl⟩
theorem zle {τ : Hp} {v0 : Value} {p0 : (List zq)} (r0 : RdT zT τ v0 p0) {rr : Bool} (hF : zf1 p0 = some rr) :
  Ctr Tryz.prog 61 #[v0] τ [] (fun v τ' vs' => v = .bool rr ∧ vs' = []) := by
 obtain ⟨A0, c0, rfl, -⟩ := r0.form
 refine zM (args := [.slice A0 p0.length c0]) hm Tryz.func61 s61 rfl fun w0 σ hO Q hQ => ?_
 unfold zf1 at hF
 have hL := Hp.le.refl τ
 show wpn _ _ a61.body _ _ _
 unfold a61
 dsimp only
 refine zc hO [] [(0, .slice A0 p0.length c0)] zqj fun j => ?_
 refine zc hO [] [(0, .slice A0 p0.length c0), (3, zqz 0)] zqk fun j => ?_
 refine ze (zc hO [] [(0, .slice A0 p0.length c0), (3, zqz 0), (4, zqz 0)] zql fun j => ?_)
 refine zt (zZ (fun (n : Nat) e' σ' => ∃ (x85 : Int) (x86 : Int) (τ' : Hp), agr [(0, .slice A0 p0.length c0), (3, zqz x85), (4, zqz x86)] e' ∧ Obs τ' σ' [] ∧ Hp.le τ τ' ∧ RdT zT τ' (.slice A0 p0.length c0) p0 ∧ zf0 p0 n x85 x86 = some rr) big ⟨0, 0, _, zqy zqk, hO, hL, r0, hF⟩ ?_)
 clear hF hO hL
 rintro n168 e σ ⟨x85, x86, _, hA, hO, hL, r84, hF⟩
 rw [← zL _ _ hA]
 cases n168 with
 | zero => exact nomatch (show none = some rr from hF)
 | succ n168 =>
  replace hF : zfD (zf0 p0 n168) p0 x85 x86 = some rr := hF
  unfold zfD at hF
  refine ze (zc hO [] [(0, .slice A0 p0.length c0), (3, zqz x85), (4, zqz x86), (8, .bool (decide (x86 < (p0.length : Int))))] zqm fun j => ?_)
  rcases zi hF with ⟨hb169, hF⟩ | ⟨hb169, hF⟩
  ·refine zk (congrArg Value.bool hb169) ?_
   refine zm (zt (ze (zbr (zd hO 2 [] [(0, .slice A0 p0.length c0), (3, zqz x85), (4, zqz x86), (11, .slice A0 p0.length c0), (12, zqz x86)] zqn fun j => ?_))))
   obtain ⟨y170, g171, hF⟩ := bind_some hF
   refine zC (T := zT) r84 hO.base rfl rfl g171 (by decide) fun a172 _ k173 m174 => ?_
   obtain ⟨v175, rfl, r176⟩ := k173
   obtain ⟨A177, c178, rfl, -⟩ := r176.form
   refine zd hO 1 [] [(0, .slice A0 p0.length c0), (3, zqz x85), (4, zqz x86), (14, .pointer (some a172))] zqm fun j => ?_
   refine zy rfl (m174.le hO.base).fst ?_
   refine zd hO 3 [] [(0, .slice A0 p0.length c0), (4, zqz x86), (18, .bool (decide (y170.From < x85)))] zql fun j => ?_
   obtain ⟨c179, h180, hF⟩ := bind_some hF
   refine zbK 2 [(30, .bool c179), (0, .slice A0 p0.length c0), (4, zqz x86)] (fun Q hQ => ?_) fun j => ?_
   ·have hF := h180
    rcases zi hF with ⟨hb181, hF⟩ | ⟨hb181, hF⟩
    ·refine z9 (congrArg (fun x => isB (.bool x) false) hb181) ?_
     refine zJ (congrArg Value.bool hb181) ?_
     refine zh ?_
     injection hF with hF
     subst hF
     refine zg ?_
     exact hQ _ zql
    ·refine z7 (congrArg (fun x => isB (.bool x) false) hb181) ?_
     refine zd hO 2 [] [(0, .slice A0 p0.length c0), (4, zqz x86), (18, .bool (decide (y170.From < x85))), (19, .slice A0 p0.length c0), (20, zqz x86)] zqn fun j => ?_
     obtain ⟨y182, g183, hF⟩ := bind_some hF
     refine zC (T := zT) r84 hO.base rfl rfl g183 (by decide) fun a184 _ k185 m186 => ?_
     obtain ⟨v187, rfl, r188⟩ := k185
     obtain ⟨A189, c190, rfl, -⟩ := r188.form
     refine zd hO 1 [] [(0, .slice A0 p0.length c0), (4, zqz x86), (18, .bool (decide (y170.From < x85))), (22, .pointer (some (a184.add 1)))] zqm fun j => ?_
     refine zy rfl ((m186.le hO.base).one 1 rfl) ?_
     refine zd hO 2 [] [(0, .slice A0 p0.length c0), (4, zqz x86), (18, .bool (decide (y170.From < x85))), (23, zqz y182.To), (24, .slice A0 p0.length c0), (25, zqz x86)] zqo fun j => ?_
     obtain ⟨y191, g192, hF⟩ := bind_some hF
     refine zC (T := zT) r84 hO.base rfl rfl g192 (by decide) fun a193 _ k194 m195 => ?_
     obtain ⟨v196, rfl, r197⟩ := k194
     obtain ⟨A198, c199, rfl, -⟩ := r197.form
     refine zd hO 1 [] [(0, .slice A0 p0.length c0), (4, zqz x86), (18, .bool (decide (y170.From < x85))), (23, zqz y182.To), (27, .pointer (some a193))] zqn fun j => ?_
     refine zy rfl (m195.le hO.base).fst ?_
     refine zd hO 1 [] [(0, .slice A0 p0.length c0), (4, zqz x86), (18, .bool (decide (y170.From < x85))), (29, .bool (decide (y182.To ≤ y191.From)))] zqm fun j => ?_
     refine zJ (congrArg Value.bool hb181) ?_
     refine zh ?_
     injection hF with hF
     subst hF
     refine zg ?_
     exact hQ _ zql
   ·refine zd hO 1 [] [(0, .slice A0 p0.length c0), (4, zqz x86), (31, .bool c179)] zql fun j => ?_
    obtain ⟨c200, h201, hF⟩ := bind_some hF
    refine zbK 2 [(38, .bool c200), (0, .slice A0 p0.length c0), (4, zqz x86)] (fun Q hQ => ?_) fun j => ?_
    ·have hF := h201
     rcases zi hF with ⟨hb202, hF⟩ | ⟨hb202, hF⟩
     ·refine z9 (congrArg (fun x => isB (.bool x) false) hb202) ?_
      refine zJ (congrArg Value.bool hb202) ?_
      refine zh ?_
      injection hF with hF
      subst hF
      refine zg ?_
      exact hQ _ zql
     ·refine z7 (congrArg (fun x => isB (.bool x) false) hb202) ?_
      refine zd hO 2 [] [(0, .slice A0 p0.length c0), (4, zqz x86), (31, .bool c179), (32, .slice A0 p0.length c0), (33, zqz x86)] zqn fun j => ?_
      obtain ⟨y203, g204, hF⟩ := bind_some hF
      refine zC (T := zT) r84 hO.base rfl rfl g204 (by decide) fun a205 _ k206 m207 => ?_
      obtain ⟨v208, rfl, r209⟩ := k206
      obtain ⟨A210, c211, rfl, -⟩ := r209.form
      refine zd hO 1 [] [(0, .slice A0 p0.length c0), (4, zqz x86), (31, .bool c179), (35, .pointer (some (a205.add 1)))] zqm fun j => ?_
      refine zy rfl ((m207.le hO.base).one 1 rfl) ?_
      refine zd hO 1 [] [(0, .slice A0 p0.length c0), (4, zqz x86), (31, .bool c179), (37, .bool (decide (y203.To > 16777216)))] zqm fun j => ?_
      refine zJ (congrArg Value.bool hb202) ?_
      refine zh ?_
      injection hF with hF
      subst hF
      refine zg ?_
      exact hQ _ zql
    ·refine zd hO 1 [] [(0, .slice A0 p0.length c0), (4, zqz x86), (39, .bool c200)] zql fun j => ?_
     obtain ⟨c212, h213, hF⟩ := bind_some hF
     refine zbK 2 [(47, .bool c212), (0, .slice A0 p0.length c0), (4, zqz x86)] (fun Q hQ => ?_) fun j => ?_
     ·have hF := h213
      rcases zi hF with ⟨hb214, hF⟩ | ⟨hb214, hF⟩
      ·refine z9 (congrArg (fun x => isB (.bool x) false) hb214) ?_
       refine zJ (congrArg Value.bool hb214) ?_
       refine zh ?_
       injection hF with hF
       subst hF
       refine zg ?_
       exact hQ _ zql
      ·refine z7 (congrArg (fun x => isB (.bool x) false) hb214) ?_
       refine zd hO 2 [] [(0, .slice A0 p0.length c0), (4, zqz x86), (39, .bool c200), (40, .slice A0 p0.length c0), (41, zqz x86)] zqn fun j => ?_
       obtain ⟨y215, g216, hF⟩ := bind_some hF
       refine zC (T := zT) r84 hO.base rfl rfl g216 (by decide) fun a217 _ k218 m219 => ?_
       obtain ⟨v220, rfl, r221⟩ := k218
       obtain ⟨A222, c223, rfl, -⟩ := r221.form
       refine zd hO 1 [] [(0, .slice A0 p0.length c0), (4, zqz x86), (39, .bool c200), (43, .pointer (some (a217.add 2)))] zqm fun j => ?_
       refine zy rfl ((m219.le hO.base).one 2 rfl) ?_
       refine zd hO 2 [] [(0, .slice A0 p0.length c0), (4, zqz x86), (39, .bool c200), (46, .bool ((y215.At.length : Int) == 0))] zqm fun j => ?_
       refine zJ (congrArg Value.bool hb214) ?_
       refine zh ?_
       injection hF with hF
       subst hF
       refine zg ?_
       exact hQ _ zql
     ·refine zd hO 1 [] [(0, .slice A0 p0.length c0), (4, zqz x86), (48, .bool c212)] zql fun j => ?_
      obtain ⟨c224, h225, hF⟩ := bind_some hF
      refine zbQ 2 (fun e' σ' => ∃ (τ' : Hp), agr [(56, .bool c224), (0, .slice A0 p0.length c0), (4, zqz x86)] e' ∧ Obs τ' σ' [] ∧ Hp.le τ τ' ∧ RdT zT τ' (.slice A0 p0.length c0) p0) ?_ ?_
      ·have hF := h225
       rcases zi hF with ⟨hb226, hF⟩ | ⟨hb226, hF⟩
       ·refine z9 (congrArg (fun x => isB (.bool x) false) hb226) ?_
        refine zJ (congrArg Value.bool hb226) ?_
        refine zh ?_
        injection hF with hF
        subst hF
        refine zg ?_
        exact ⟨rfl, _, zqy zqk, hO, hL, r84⟩
       ·refine z7 (congrArg (fun x => isB (.bool x) false) hb226) ?_
        refine zd hO 2 [] [(0, .slice A0 p0.length c0), (4, zqz x86), (48, .bool c212), (49, .slice A0 p0.length c0), (50, zqz x86)] zqn fun j => ?_
        obtain ⟨y227, g228, hF⟩ := bind_some hF
        refine zC (T := zT) r84 hO.base rfl rfl g228 (by decide) fun a229 _ k230 m231 => ?_
        obtain ⟨v232, rfl, r233⟩ := k230
        obtain ⟨A234, c235, rfl, -⟩ := r233.form
        refine zd hO 1 [] [(0, .slice A0 p0.length c0), (4, zqz x86), (48, .bool c212), (52, .pointer (some (a229.add 2)))] zqm fun j => ?_
        refine zy rfl ((m231.le hO.base).one 2 rfl) ?_
        obtain ⟨c236, h237, hF⟩ := bind_some hF
        refine zD hO (zlP r233 h237) rfl fun _ σ _ _ hO h238 h239 => ?_
        have hL := hL.trans h238
        have r84 := r84.le h238
        have m231 := m231.le h238
        have r233 := r233.le h238
        obtain ⟨rfl, rfl⟩ := h239
        have hO : Obs _ _ [] := hO
        refine zd hO 1 [] [(0, .slice A0 p0.length c0), (4, zqz x86), (48, .bool c212), (55, .bool (!c236))] zqm fun j => ?_
        refine zJ (congrArg Value.bool hb226) ?_
        refine zh ?_
        injection hF with hF
        subst hF
        refine zg ?_
        exact ⟨rfl, _, zqy zqk, hO, hL, r84⟩
      ·rintro e σ ⟨_, hA, hO, hL, r84⟩
       rw [← zL _ _ hA]
       refine zh ?_
       rcases zi hF with ⟨hb240, hF⟩ | ⟨hb240, hF⟩
       ·refine zk (congrArg Value.bool hb240) ?_
        refine ze (zc hO [] [(2, .bool false)] zqj fun j => ?_)
        refine zu (zw (zn (zn (zw (zn ?_)))))
        injection hF with hF
        subst hF
        exact hQ _ _ _ _ _ rfl hO hL ⟨rfl, rfl⟩
       ·refine zl (congrArg Value.bool hb240) ?_
        refine zm (zA (zd hO 2 [] [(0, .slice A0 p0.length c0), (4, zqz x86), (57, .slice A0 p0.length c0), (58, zqz x86)] zqm fun j => ?_))
        obtain ⟨y241, g242, hF⟩ := bind_some hF
        refine zC (T := zT) r84 hO.base rfl rfl g242 (by decide) fun a243 _ k244 m245 => ?_
        obtain ⟨v246, rfl, r247⟩ := k244
        obtain ⟨A248, c249, rfl, -⟩ := r247.form
        refine zd hO 1 [] [(0, .slice A0 p0.length c0), (4, zqz x86), (60, .pointer (some (a243.add 1)))] zql fun j => ?_
        refine zy rfl ((m245.le hO.base).one 1 rfl) ?_
        refine zc hO [] [(0, .slice A0 p0.length c0), (3, zqz y241.To), (4, zqz x86)] zql fun j => ?_
        refine zg (zP (zj (zA (zc hO [] [(0, .slice A0 p0.length c0), (3, zqz y241.To), (4, zqz (IntKind.i64.wrap (x86 + 1)))] zql fun j => ?_))))
        refine zg (zj ?_)
        exact ⟨n168, Nat.lt_succ_self _, y241.To, (IntKind.i64.wrap (x86 + 1)), _, zqy zqk, hO, hL, r84, hF⟩
  ·refine zl (congrArg Value.bool hb169) ?_
   refine zU (zY (z0 (zj (zc hO [] [(2, .bool (decide ((p0.length : Int) ≤ 4000)))] zqj fun j => ?_))))
   refine zK ?_
   injection hF with hF
   subst hF
   exact hQ _ _ _ _ _ rfl hO hL ⟨rfl, rfl⟩
theorem zhI {τ : Hp} {p0 : ByteArray}  {rr : Bool} (hF : zdO p0 = some rr) :
  Ctr Tryz.prog 67 #[.string p0] τ [] (fun v τ' vs' => v = .bool rr ∧ vs' = []) := by
 refine zM (args := [.string p0]) hm Tryz.func67 s67 rfl fun w0 σ hO Q hQ => ?_
 unfold zdO at hF
 have hL := Hp.le.refl τ
 show wpn _ _ a67.body _ _ _
 unfold a67
 dsimp only
 refine zc hO [] [(0, .string p0)] zqj fun j => ?_
 refine ze (zc hO [] [(0, .string p0), (3, zqz 0)] zqk fun j => ?_)
 refine zt (zZ (fun (n : Nat) e' σ' => ∃ (x14 : Int) (τ' : Hp), agr [(0, .string p0), (3, zqz x14)] e' ∧ Obs τ' σ' [] ∧ Hp.le τ τ' ∧ zfB p0 n x14 = some rr) big ⟨0, _, zqy zqj, hO, hL, hF⟩ ?_)
 clear hF hO hL
 rintro n27 e σ ⟨x14, _, hA, hO, hL, hF⟩
 rw [← zL _ _ hA]
 cases n27 with
 | zero => exact nomatch (show none = some rr from hF)
 | succ n27 =>
  replace hF : zfJ (zfB p0 n27) p0 x14 = some rr := hF
  unfold zfJ at hF
  refine ze (zc hO [] [(0, .string p0), (3, zqz x14), (8, .bool (decide (x14 < (p0.size : Int))))] zql fun j => ?_)
  rcases zi hF with ⟨hb28, hF⟩ | ⟨hb28, hF⟩
  ·refine zk (congrArg Value.bool hb28) ?_
   refine zm (zt (zd hO 2 [] [(0, .string p0), (3, zqz x14), (11, .string p0), (12, zqz x14)] zqm fun j => ?_))
   obtain ⟨y29, g30, hF⟩ := bind_some hF
   refine zmv rfl rfl g30 ?_
   refine zc hO [] [(0, .string p0), (3, zqz x14), (4, .int .u8 (y29.toNat : Int))] zql fun j => ?_
   refine zd hO 6 [] [(0, .string p0), (3, zqz x14), (4, .int .u8 (y29.toNat : Int)), (20, .bool ((decide ((y29.toNat : Int) ≥ 97)) && (decide ((y29.toNat : Int) ≤ 122))))] (And.intro (And.intro rfl rfl) (fun _ => zqy zql)) fun j => ?_
   obtain ⟨c31, h32, hF⟩ := bind_some hF
   refine zbK 4 [(27, .bool c31), (0, .string p0), (3, zqz x14), (4, .int .u8 (y29.toNat : Int))] (fun Q hQ => ?_) fun j => ?_
   ·have hF := h32
    rcases zi hF with ⟨hb33, hF⟩ | ⟨hb33, hF⟩
    ·refine z9 (congrArg (fun x => isB (.bool x) false) hb33) ?_
     refine z9 rfl ?_
     refine z9 (congrArg (fun x => isB (.bool x) false) hb33) ?_
     refine zJ (congrArg Value.bool hb33) ?_
     refine zh ?_
     injection hF with hF
     subst hF
     refine zg ?_
     exact hQ _ zqm
    ·refine z7 (congrArg (fun x => isB (.bool x) false) hb33) ?_
     refine zd hO 3 [] [(0, .string p0), (3, zqz x14), (4, .int .u8 (y29.toNat : Int)), (20, .bool ((decide ((y29.toNat : Int) ≥ 97)) && (decide ((y29.toNat : Int) ≤ 122)))), (23, .bool (decide ((y29.toNat : Int) ≥ 65)))] zqn fun j => ?_
     rcases zi hF with ⟨hb34, hF⟩ | ⟨hb34, hF⟩
     ·refine z7 (congrArg (fun x => isB (.bool x) true) hb34) ?_
      refine zd hO 2 [] [(0, .string p0), (3, zqz x14), (4, .int .u8 (y29.toNat : Int)), (20, .bool ((decide ((y29.toNat : Int) ≥ 97)) && (decide ((y29.toNat : Int) ≤ 122)))), (23, .bool (decide ((y29.toNat : Int) ≥ 65))), (25, .bool (decide ((y29.toNat : Int) ≤ 90)))] zqo fun j => ?_
      refine z7 (congrArg (fun x => isB (.bool x) false) hb33) ?_
      refine zJ (congrArg Value.bool hb34) ?_
      refine zJ (congrArg Value.bool hb33) ?_
      refine zh ?_
      injection hF with hF
      subst hF
      refine zg ?_
      exact hQ _ zqm
     ·refine z9 (congrArg (fun x => isB (.bool x) true) hb34) ?_
      refine z7 (congrArg (fun x => isB (.bool x) false) hb33) ?_
      refine zJ (congrArg Value.bool hb34) ?_
      refine zJ (congrArg Value.bool hb33) ?_
      refine zh ?_
      injection hF with hF
      subst hF
      refine zg ?_
      exact hQ _ zqm
   ·refine zd hO 1 [] [(0, .string p0), (3, zqz x14), (4, .int .u8 (y29.toNat : Int)), (28, .bool c31)] zqm fun j => ?_
    obtain ⟨c35, h36, hF⟩ := bind_some hF
    refine zbK 4 [(35, .bool c35), (0, .string p0), (3, zqz x14), (4, .int .u8 (y29.toNat : Int))] (fun Q hQ => ?_) fun j => ?_
    ·have hF := h36
     rcases zi hF with ⟨hb37, hF⟩ | ⟨hb37, hF⟩
     ·refine z9 (congrArg (fun x => isB (.bool x) false) hb37) ?_
      refine z9 rfl ?_
      refine z9 (congrArg (fun x => isB (.bool x) false) hb37) ?_
      refine zJ (congrArg Value.bool hb37) ?_
      refine zh ?_
      injection hF with hF
      subst hF
      refine zg ?_
      exact hQ _ zqm
     ·refine z7 (congrArg (fun x => isB (.bool x) false) hb37) ?_
      refine zd hO 3 [] [(0, .string p0), (3, zqz x14), (4, .int .u8 (y29.toNat : Int)), (28, .bool c31), (31, .bool (decide ((y29.toNat : Int) ≥ 48)))] zqn fun j => ?_
      rcases zi hF with ⟨hb38, hF⟩ | ⟨hb38, hF⟩
      ·refine z7 (congrArg (fun x => isB (.bool x) true) hb38) ?_
       refine zd hO 2 [] [(0, .string p0), (3, zqz x14), (4, .int .u8 (y29.toNat : Int)), (28, .bool c31), (31, .bool (decide ((y29.toNat : Int) ≥ 48))), (33, .bool (decide ((y29.toNat : Int) ≤ 57)))] zqo fun j => ?_
       refine z7 (congrArg (fun x => isB (.bool x) false) hb37) ?_
       refine zJ (congrArg Value.bool hb38) ?_
       refine zJ (congrArg Value.bool hb37) ?_
       refine zh ?_
       injection hF with hF
       subst hF
       refine zg ?_
       exact hQ _ zqm
      ·refine z9 (congrArg (fun x => isB (.bool x) true) hb38) ?_
       refine z7 (congrArg (fun x => isB (.bool x) false) hb37) ?_
       refine zJ (congrArg Value.bool hb38) ?_
       refine zJ (congrArg Value.bool hb37) ?_
       refine zh ?_
       injection hF with hF
       subst hF
       refine zg ?_
       exact hQ _ zqm
    ·refine zc hO [] [(0, .string p0), (3, zqz x14), (40, .bool (!(c35 || ((y29.toNat : Int) == 95))))] (And.intro (And.intro rfl rfl) (fun _ => zqy zqk)) fun j => ?_
     refine zbl ?_
     rcases zi hF with ⟨hb39, hF⟩ | ⟨hb39, hF⟩
     ·refine zk (congrArg Value.bool hb39) ?_
      refine ze (zc hO [] [(2, .bool false)] zqj fun j => ?_)
      refine zu (zw (zn (zn (zw (zn ?_)))))
      injection hF with hF
      subst hF
      exact hQ _ _ _ _ _ rfl hO hL ⟨rfl, rfl⟩
     ·refine zl (congrArg Value.bool hb39) ?_
      refine zm (zg (zP (zj (zA (zc hO [] [(0, .string p0), (3, zqz (IntKind.i64.wrap (x14 + 1)))] zqk fun j => ?_)))))
      refine zg (zj ?_)
      exact ⟨n27, Nat.lt_succ_self _, (IntKind.i64.wrap (x14 + 1)), _, zqy zqj, hO, hL, hF⟩
  ·refine zl (congrArg Value.bool hb28) ?_
   refine zU (zY (z0 (zj (zc hO [] [(2, .bool ((decide ((p0.size : Int) ≥ 1)) && (decide ((p0.size : Int) ≤ 24))))] (And.intro (And.intro rfl rfl) (fun _ => zqy trivial)) fun j => ?_))))
   refine zK ?_
   injection hF with hF
   subst hF
   exact hQ _ _ _ _ _ rfl hO hL ⟨rfl, rfl⟩
theorem zpo {τ : Hp} {p0 : zG} {v0_5 : Value} (r0_5 : RdT Ty.str τ v0_5 p0.Fields) {rr : Bool} (hF : zem p0 = some rr) :
  Ctr Tryz.prog 68 #[.agg #[.string p0.Name, .int .u8 p0.Type_.Kind.toNat, .int .i64 p0.Type_.N, .string p0.Type_.Name, .int .i64 p0.Words, v0_5]] τ [] (fun v τ' vs' => v = .bool rr ∧ vs' = []) := by
 obtain ⟨A0_5, c0_5, rfl, -⟩ := r0_5.form
 refine zM (args := [.agg #[.string p0.Name, .int .u8 p0.Type_.Kind.toNat, .int .i64 p0.Type_.N, .string p0.Type_.Name, .int .i64 p0.Words, (.slice A0_5 p0.Fields.length c0_5)]]) hm Tryz.func68 s68 rfl fun w0 σ hO Q hQ => ?_
 unfold zem at hF
 have hL := Hp.le.refl τ
 show wpn _ _ a68.body _ _ _
 unfold a68
 dsimp only
 refine zb2 (n := 6) hO rfl rfl fun b2 σ hO => ?_
 have hO : Obs _ _ [_] := hO
 refine zc hO [] [(1, zqA b2)] zqj fun j => ?_
 refine ze (zd hO 2 [0] [(1, zqA b2), (5, .string p0.Name)] (And.intro (And.intro rfl rfl) zqk) fun j => ?_)
 obtain ⟨c3, h4, hF⟩ := bind_some hF
 refine zD hO (zhI h4) rfl fun _ σ _ _ hO h5 h6 => ?_
 have hL := hL.trans h5
 have r0_5 := r0_5.le h5
 obtain ⟨rfl, rfl⟩ := h6
 have hO : Obs _ _ [_] := hO
 refine zc hO [] [(1, zqA b2), (7, .bool (!c3))] zqk fun j => ?_
 rcases zi hF with ⟨hb7, hF⟩ | ⟨hb7, hF⟩
 ·refine zk (congrArg Value.bool hb7) ?_
  refine ze (zc hO [] [(2, .bool false)] zqj fun j => ?_)
  refine zu ?_
  injection hF with hF
  subst hF
  have hO := hO.sel [] (by decide)
  exact hQ _ _ _ _ _ rfl hO hL ⟨rfl, rfl⟩
 ·refine zl (congrArg Value.bool hb7) ?_
  refine zm (ze (zc hO [0] [(1, zqA b2), (10, .int .u8 (p0.Type_.Kind.toNat : Int))] (And.intro (And.intro rfl rfl) zqk) fun j => ?_))
  refine zt (ze (zc hO [] [(1, zqA b2), (10, .int .u8 (p0.Type_.Kind.toNat : Int)), (11, .bool ((p0.Type_.Kind.toNat : Int) == 1))] zql fun j => ?_))
  refine zco (fun e' σ' => ∃ (x10 : Bool) (τ' : Hp), agr [(1, zqA b2), (10, .int .u8 (p0.Type_.Kind.toNat : Int)), (11, .bool x10)] e' ∧ Obs τ' σ' [some (b2, ⟨[.string p0.Name, .int .u8 (p0.Type_.Kind.toNat : Int), .int .i64 p0.Type_.N, .string p0.Type_.Name, .int .i64 p0.Words, .slice A0_5 p0.Fields.length c0_5], 53, 6, true⟩)] ∧ Hp.le τ τ' ∧ RdT Ty.str τ' (.slice A0_5 p0.Fields.length c0_5) p0.Fields ∧ zeJ p0 x10 = some rr) ?_ ?_
  ·refine zbl ?_
   rcases zi hF with ⟨hb72, hF⟩ | ⟨hb72, hF⟩
   ·refine zk (congrArg Value.bool hb72) ?_
    refine zm (zg (zj ?_))
    exact ⟨((p0.Type_.Kind.toNat : Int) == 1), _, zqy zqk, hO, hL, r0_5, hF⟩
   ·refine zl (congrArg Value.bool hb72) ?_
    refine zc hO [] [(1, zqA b2), (10, .int .u8 (p0.Type_.Kind.toNat : Int)), (11, .bool ((p0.Type_.Kind.toNat : Int) == 2))] zql fun j => ?_
    refine zg (zj ?_)
    exact ⟨((p0.Type_.Kind.toNat : Int) == 2), _, zqy zqk, hO, hL, r0_5, hF⟩
  ·rintro e σ ⟨x10, _, hA, hO, hL, r9, hF⟩
   rw [← zL _ _ hA]
   unfold zeJ at hF
   refine zbl ?_
   rcases zi hF with ⟨hb11, hF⟩ | ⟨hb11, hF⟩
   ·refine zk (congrArg Value.bool hb11) ?_
    refine ze (zc hO [0, 0, 0, 0] [(2, .bool ((((p0.Type_.N == 0) && (zbu p0.Type_.Name (⟨#[]⟩ : ByteArray))) && (p0.Words == 1)) && ((p0.Fields.length : Int) == 0)))] (And.intro (And.intro rfl rfl) (And.intro (And.intro rfl rfl) (And.intro (And.intro rfl rfl) (fun _ => And.intro (And.intro rfl rfl) (And.intro (And.intro rfl rfl) (fun _ => And.intro (And.intro rfl rfl) (And.intro (And.intro rfl rfl) (fun _ => zqy trivial)))))))) fun j => ?_)
    refine zu (zw (zn ?_))
    injection hF with hF
    subst hF
    have hO := hO.sel [] (by decide)
    exact hQ _ _ _ _ _ rfl hO hL ⟨rfl, rfl⟩
   ·refine zl (congrArg Value.bool hb11) ?_
    refine ze (zc hO [] [(1, zqA b2), (10, .int .u8 (p0.Type_.Kind.toNat : Int)), (35, .bool ((p0.Type_.Kind.toNat : Int) == 3))] zql fun j => ?_)
    rcases zi hF with ⟨hb12, hF⟩ | ⟨hb12, hF⟩
    ·refine zk (congrArg Value.bool hb12) ?_
     refine ze (zc hO [0, 0, 0, 0, 0, 0] [(2, .bool (((((decide (p0.Type_.N ≥ 1)) && (decide (p0.Type_.N ≤ 16))) && (zbu p0.Type_.Name (⟨#[]⟩ : ByteArray))) && (p0.Words == p0.Type_.N)) && ((p0.Fields.length : Int) == 0)))] (And.intro (And.intro rfl rfl) (And.intro (And.intro rfl rfl) (And.intro (And.intro rfl rfl) (fun _ => And.intro (And.intro rfl rfl) (And.intro (And.intro rfl rfl) (fun _ => And.intro (And.intro rfl rfl) (And.intro (And.intro rfl rfl) (And.intro (And.intro rfl rfl) (fun _ => And.intro (And.intro rfl rfl) (And.intro (And.intro rfl rfl) (fun _ => zqy trivial))))))))))) fun j => ?_)
     refine zu (zw (zn ?_))
     injection hF with hF
     subst hF
     have hO := hO.sel [] (by decide)
     exact hQ _ _ _ _ _ rfl hO hL ⟨rfl, rfl⟩
    ·refine zl (congrArg Value.bool hb12) ?_
     refine ze (zc hO [] [(1, zqA b2), (67, .bool ((p0.Type_.Kind.toNat : Int) == 4))] zqk fun j => ?_)
     rcases zi hF with ⟨hb13, hF⟩ | ⟨hb13, hF⟩
     ·refine zk (congrArg Value.bool hb13) ?_
      refine ze (ze (zc hO [] [(1, zqA b2), (3, zqz 0)] zqk fun j => ?_))
      refine zt (zZ (fun (n : Nat) e' σ' => ∃ (x34 : Int) (τ' : Hp), agr [(1, zqA b2), (3, zqz x34)] e' ∧ Obs τ' σ' [some (b2, ⟨[.string p0.Name, .int .u8 (p0.Type_.Kind.toNat : Int), .int .i64 p0.Type_.N, .string p0.Type_.Name, .int .i64 p0.Words, .slice A0_5 p0.Fields.length c0_5], 53, 6, true⟩)] ∧ Hp.le τ τ' ∧ RdT Ty.str τ' (.slice A0_5 p0.Fields.length c0_5) p0.Fields ∧ zgE p0 n x34 = some rr) big ⟨0, _, zqy zqj, hO, hL, r9, hF⟩ ?_)
      clear hF hO hL
      rintro n53 e σ ⟨x34, _, hA, hO, hL, r33, hF⟩
      rw [← zL _ _ hA]
      cases n53 with
      | zero => exact nomatch (show none = some rr from hF)
      | succ n53 =>
       replace hF : zgf (zgE p0 n53) p0 x34 = some rr := hF
       unfold zgf at hF
       refine ze (zc hO [0] [(1, zqA b2), (3, zqz x34), (73, .bool (decide (x34 < (p0.Fields.length : Int))))] (And.intro (And.intro rfl rfl) zql) fun j => ?_)
       rcases zi hF with ⟨hb54, hF⟩ | ⟨hb54, hF⟩
       ·refine zk (congrArg Value.bool hb54) ?_
        refine zm (zt (zd hO 3 [0] [(1, zqA b2), (3, zqz x34), (77, .slice A0_5 p0.Fields.length c0_5), (78, zqz x34)] (And.intro (And.intro rfl rfl) zqm) fun j => ?_))
        obtain ⟨y55, g56, hF⟩ := bind_some hF
        refine zC (T := Ty.str) r33 hO.base rfl rfl g56 (by decide) fun a57 _ k58 m59 => ?_
        obtain rfl : _ = ([.string y55] : List Value) := k58
        refine zy rfl (m59.le hO.base).fst ?_
        obtain ⟨c60, h61, hF⟩ := bind_some hF
        refine zD hO (zhI h61) rfl fun _ σ _ _ hO h62 h63 => ?_
        have hL := hL.trans h62
        have r33 := r33.le h62
        have m59 := m59.le h62
        obtain ⟨rfl, rfl⟩ := h63
        have hO : Obs _ _ [_] := hO
        refine zc hO [] [(1, zqA b2), (3, zqz x34), (82, .bool (!c60))] zql fun j => ?_
        refine zbl ?_
        rcases zi hF with ⟨hb64, hF⟩ | ⟨hb64, hF⟩
        ·refine zk (congrArg Value.bool hb64) ?_
         refine ze (zc hO [] [(2, .bool false)] zqj fun j => ?_)
         refine zu (zw (zn (zn (zw (zn (zw ?_))))))
         refine zn ?_
         injection hF with hF
         subst hF
         have hO := hO.sel [] (by decide)
         exact hQ _ _ _ _ _ rfl hO hL ⟨rfl, rfl⟩
        ·refine zl (congrArg Value.bool hb64) ?_
         refine zm (zg (zP (zj (zA (zc hO [] [(1, zqA b2), (3, zqz (IntKind.i64.wrap (x34 + 1)))] zqk fun j => ?_)))))
         refine zg (zj ?_)
         exact ⟨n53, Nat.lt_succ_self _, (IntKind.i64.wrap (x34 + 1)), _, zqy zqj, hO, hL, r33, hF⟩
       ·refine zl (congrArg Value.bool hb54) ?_
        refine zU (zY (z0 (zj (ze (zd hO 5 [0] [(1, zqA b2), (87, .bool (p0.Type_.N == 0))] (And.intro (And.intro rfl rfl) zqk) fun j => ?_)))))
        obtain ⟨c65, h66, hF⟩ := bind_some hF
        refine zbQ 2 (fun e' σ' => ∃ (τ' : Hp), agr [(92, .bool c65), (1, zqA b2)] e' ∧ Obs τ' σ' [some (b2, ⟨[.string p0.Name, .int .u8 (p0.Type_.Kind.toNat : Int), .int .i64 p0.Type_.N, .string p0.Type_.Name, .int .i64 p0.Words, .slice A0_5 p0.Fields.length c0_5], 53, 6, true⟩)] ∧ Hp.le τ τ' ∧ RdT Ty.str τ' (.slice A0_5 p0.Fields.length c0_5) p0.Fields) ?_ ?_
        ·have hF := h66
         rcases zi hF with ⟨hb67, hF⟩ | ⟨hb67, hF⟩
         ·refine z7 (congrArg (fun x => isB (.bool x) true) hb67) ?_
          refine zd hO 3 [0] [(1, zqA b2), (87, .bool (p0.Type_.N == 0)), (90, .string p0.Type_.Name)] (And.intro (And.intro rfl rfl) zql) fun j => ?_
          obtain ⟨c68, h69, hF⟩ := bind_some hF
          refine zD hO (zhI h69) rfl fun _ σ _ _ hO h70 h71 => ?_
          have hL := hL.trans h70
          have r33 := r33.le h70
          obtain ⟨rfl, rfl⟩ := h71
          have hO : Obs _ _ [_] := hO
          refine zJ (congrArg Value.bool hb67) ?_
          refine zh ?_
          injection hF with hF
          subst hF
          refine zg ?_
          exact ⟨rfl, _, zqy zqj, hO, hL, r33⟩
         ·refine z9 (congrArg (fun x => isB (.bool x) true) hb67) ?_
          refine zJ (congrArg Value.bool hb67) ?_
          refine zh ?_
          injection hF with hF
          subst hF
          refine zg ?_
          exact ⟨rfl, _, zqy zqj, hO, hL, r33⟩
        ·rintro e σ ⟨_, hA, hO, hL, r33⟩
         rw [← zL _ _ hA]
         refine zc hO [0, 0, 0, 0] [(2, .bool (((c65 && (decide ((p0.Fields.length : Int) ≥ 1))) && (decide ((p0.Fields.length : Int) ≤ 8))) && (p0.Words == (p0.Fields.length : Int))))] (And.intro (And.intro rfl rfl) (And.intro (And.intro rfl rfl) (fun _ => And.intro (And.intro rfl rfl) (And.intro (And.intro rfl rfl) (fun _ => And.intro (And.intro rfl rfl) (And.intro (And.intro rfl rfl) (And.intro (And.intro rfl rfl) (fun _ => zqy trivial)))))))) fun j => ?_
         refine zu (zw (zn ?_))
         injection hF with hF
         subst hF
         have hO := hO.sel [] (by decide)
         exact hQ _ _ _ _ _ rfl hO hL ⟨rfl, rfl⟩
     ·refine zl (congrArg Value.bool hb13) ?_
      refine zm (zg (zP (zj (zc hO [] [(2, .bool false)] zqj fun j => ?_))))
      refine zK ?_
      injection hF with hF
      subst hF
      have hO := hO.sel [] (by decide)
      exact hQ _ _ _ _ _ rfl hO hL ⟨rfl, rfl⟩
theorem znq {τ : Hp} {p0 : zo} {v0_3 : Value} {v0_4 : Value} {p1 : Int} (r0_3 : RdT zby τ v0_3 p0.Vars) (r0_4 : RdT (Ty.slice zT) τ v0_4 p0.Spans) {rr : Bool} (hF : zek p0 p1 = some rr) :
  Ctr Tryz.prog 36 #[.agg #[.string p0.Name, .int .i64 p0.From, .int .i64 p0.To, v0_3, v0_4], .int .i64 p1] τ [] (fun v τ' vs' => v = .bool rr ∧ vs' = []) := by
 obtain ⟨A0_3, c0_3, rfl, -⟩ := r0_3.form
 obtain ⟨A0_4, c0_4, rfl, -⟩ := r0_4.form
 refine zM (args := [.agg #[.string p0.Name, .int .i64 p0.From, .int .i64 p0.To, (.slice A0_3 p0.Vars.length c0_3), (.slice A0_4 p0.Spans.length c0_4)], .int .i64 p1]) hm Tryz.func36 s36 rfl fun w0 σ hO Q hQ => ?_
 unfold zek at hF
 have hL := Hp.le.refl τ
 show wpn _ _ a36.body _ _ _
 unfold a36
 dsimp only
 refine zb2 (n := 5) hO rfl rfl fun b3 σ hO => ?_
 have hO : Obs _ _ [_] := hO
 refine zc hO [] [(1, zqz p1), (2, zqA b3)] zqk fun j => ?_
 refine ze (zd hO 2 [0] [(1, zqz p1), (2, zqA b3), (8, .string p0.Name)] (And.intro (And.intro rfl rfl) zql) fun j => ?_)
 obtain ⟨c4, h5, hF⟩ := bind_some hF
 refine zD hO (zhI h5) rfl fun _ σ _ _ hO h6 h7 => ?_
 have hL := hL.trans h6
 have r0_3 := r0_3.le h6
 have r0_4 := r0_4.le h6
 obtain ⟨rfl, rfl⟩ := h7
 have hO : Obs _ _ [_] := hO
 refine zc hO [0, 0, 0, 0, 0, 0, 0] [(2, zqA b3), (43, .bool ((((((!c4) || (decide (p0.From < p1))) || (decide (p0.To ≤ p0.From))) || (decide (p0.To > 16777216))) || (decide ((p0.Vars.length : Int) > 64))) || ((p0.Spans.length : Int) != (p0.Vars.length : Int))))] (And.intro (And.intro rfl rfl) (And.intro (And.intro rfl rfl) (fun _ => And.intro (And.intro rfl rfl) (And.intro (And.intro rfl rfl) (And.intro (And.intro rfl rfl) (fun _ => And.intro (And.intro rfl rfl) (And.intro (And.intro rfl rfl) (fun _ => And.intro (And.intro rfl rfl) (And.intro (And.intro rfl rfl) (fun _ => And.intro (And.intro rfl rfl) (And.intro (And.intro rfl rfl) (And.intro (And.intro rfl rfl) (fun _ => zqy zqj))))))))))))) fun j => ?_
 rcases zi hF with ⟨hb8, hF⟩ | ⟨hb8, hF⟩
 ·refine zk (congrArg Value.bool hb8) ?_
  refine ze (zc hO [] [(4, .bool false)] zqj fun j => ?_)
  refine zu ?_
  injection hF with hF
  subst hF
  have hO := hO.sel [] (by decide)
  exact hQ _ _ _ _ _ rfl hO hL ⟨rfl, rfl⟩
 ·refine zl (congrArg Value.bool hb8) ?_
  refine zm (ze (zc hO [] [(2, zqA b3), (5, zqz 0)] zqk fun j => ?_))
  refine zt (zZ (fun (n : Nat) e' σ' => ∃ (x67 : Int) (τ' : Hp), agr [(2, zqA b3), (5, zqz x67)] e' ∧ Obs τ' σ' [some (b3, ⟨[.string p0.Name, .int .i64 p0.From, .int .i64 p0.To, .slice A0_3 p0.Vars.length c0_3, .slice A0_4 p0.Spans.length c0_4], 48, 5, true⟩)] ∧ Hp.le τ τ' ∧ RdT zby τ' (.slice A0_3 p0.Vars.length c0_3) p0.Vars ∧ RdT (Ty.slice zT) τ' (.slice A0_4 p0.Spans.length c0_4) p0.Spans ∧ zgS p0 n x67 = some rr) big ⟨0, _, zqy zqj, hO, hL, r0_3, r0_4, hF⟩ ?_)
  clear hF hO hL
  rintro n122 e σ ⟨x67, _, hA, hO, hL, r65, r66, hF⟩
  rw [← zL _ _ hA]
  cases n122 with
  | zero => exact nomatch (show none = some rr from hF)
  | succ n122 =>
   replace hF : zgc (zgS p0 n122) p0 x67 = some rr := hF
   unfold zgc at hF
   refine ze (zc hO [0] [(2, zqA b3), (5, zqz x67), (48, .bool (decide (x67 < (p0.Vars.length : Int))))] (And.intro (And.intro rfl rfl) zql) fun j => ?_)
   rcases zi hF with ⟨hb123, hF⟩ | ⟨hb123, hF⟩
   ·refine zk (congrArg Value.bool hb123) ?_
    refine zm (zt (zd hO 3 [0] [(2, zqA b3), (5, zqz x67), (52, .slice A0_4 p0.Spans.length c0_4), (53, zqz x67)] (And.intro (And.intro rfl rfl) zqm) fun j => ?_))
    obtain ⟨y124, g125, hF⟩ := bind_some hF
    refine zC (T := (Ty.slice zT)) r66 hO.base rfl rfl g125 (by decide) fun a126 _ k127 m128 => ?_
    obtain ⟨v129, rfl, r130⟩ := k127
    obtain ⟨A131, c132, rfl, -⟩ := r130.form
    refine zy rfl (m128.le hO.base).fst ?_
    refine zc hO [] [(2, zqA b3), (5, zqz x67), (6, .slice A131 y124.length c132)] zql fun j => ?_
    refine ze (zd hO 3 [0] [(2, zqA b3), (5, zqz x67), (6, .slice A131 y124.length c132), (57, .slice A0_3 p0.Vars.length c0_3), (58, zqz x67)] (And.intro (And.intro rfl rfl) zqn) fun j => ?_)
    obtain ⟨y133, g134, hF⟩ := bind_some hF
    refine zC (T := zby) r65 hO.base rfl rfl g134 (by decide) fun zg7 _ k136 m137 => ?_
    obtain ⟨v138, rfl, r139⟩ := k136
    obtain ⟨A140, c141, rfl, -⟩ := r139.form
    refine zy rfl ((m137.le hO.base).all rfl) ?_
    obtain ⟨c142, h143, hF⟩ := bind_some hF
    refine zD hO (zpo (p0 := (⟨y133.Name, (⟨y133.Type_.Kind, y133.Type_.N, y133.Type_.Name⟩ : zbp), y133.Words, y133.Fields⟩ : zG)) r139 h143) rfl fun _ σ _ _ hO h144 h145 => ?_
    have hL := hL.trans h144
    have r130 := r130.le h144
    have r65 := r65.le h144
    have m137 := m137.le h144
    have r139 := r139.le h144
    have r66 := r66.le h144
    obtain ⟨rfl, rfl⟩ := h145
    have hO : Obs _ _ [_] := hO
    refine zd hO 2 [] [(2, zqA b3), (5, zqz x67), (6, .slice A131 y124.length c132), (63, .bool (!c142))] zqm fun j => ?_
    obtain ⟨c146, h147, hF⟩ := bind_some hF
    refine zbQ 2 (fun e' σ' => ∃ (τ' : Hp), agr [(67, .bool c146), (2, zqA b3), (5, zqz x67), (6, .slice A131 y124.length c132)] e' ∧ Obs τ' σ' [some (b3, ⟨[.string p0.Name, .int .i64 p0.From, .int .i64 p0.To, .slice A0_3 p0.Vars.length c0_3, .slice A0_4 p0.Spans.length c0_4], 48, 5, true⟩)] ∧ Hp.le τ τ' ∧ RdT zT τ' (.slice A131 y124.length c132) y124 ∧ RdT zby τ' (.slice A0_3 p0.Vars.length c0_3) p0.Vars ∧ RdT (Ty.slice zT) τ' (.slice A0_4 p0.Spans.length c0_4) p0.Spans) ?_ ?_
    ·have hF := h147
     rcases zi hF with ⟨hb148, hF⟩ | ⟨hb148, hF⟩
     ·refine z9 (congrArg (fun x => isB (.bool x) false) hb148) ?_
      refine zJ (congrArg Value.bool hb148) ?_
      refine zh ?_
      injection hF with hF
      subst hF
      refine zg ?_
      exact ⟨rfl, _, zqy zql, hO, hL, r130, r65, r66⟩
     ·refine z7 (congrArg (fun x => isB (.bool x) false) hb148) ?_
      refine zd hO 1 [] [(2, zqA b3), (5, zqz x67), (6, .slice A131 y124.length c132), (63, .bool (!c142)), (64, .slice A131 y124.length c132)] zqn fun j => ?_
      obtain ⟨c149, h150, hF⟩ := bind_some hF
      refine zD hO (zle r130 h150) rfl fun _ σ _ _ hO h151 h152 => ?_
      have hL := hL.trans h151
      have r130 := r130.le h151
      have r65 := r65.le h151
      have r66 := r66.le h151
      obtain ⟨rfl, rfl⟩ := h152
      have hO : Obs _ _ [_] := hO
      refine zd hO 1 [] [(2, zqA b3), (5, zqz x67), (6, .slice A131 y124.length c132), (63, .bool (!c142)), (66, .bool (!c149))] zqn fun j => ?_
      refine zJ (congrArg Value.bool hb148) ?_
      refine zh ?_
      injection hF with hF
      subst hF
      refine zg ?_
      exact ⟨rfl, _, zqy zql, hO, hL, r130, r65, r66⟩
    ·rintro e σ ⟨_, hA, hO, hL, r130, r65, r66⟩
     rw [← zL _ _ hA]
     refine zh ?_
     rcases zi hF with ⟨hb153, hF⟩ | ⟨hb153, hF⟩
     ·refine zk (congrArg Value.bool hb153) ?_
      refine ze (zc hO [] [(4, .bool false)] zqj fun j => ?_)
      refine zu (zw (zn (zn (zw (zn ?_)))))
      injection hF with hF
      subst hF
      have hO := hO.sel [] (by decide)
      exact hQ _ _ _ _ _ rfl hO hL ⟨rfl, rfl⟩
     ·refine zl (congrArg Value.bool hb153) ?_
      refine zm (zbr (zd hO 4 [] [(2, zqA b3), (5, zqz x67), (6, .slice A131 y124.length c132), (71, .bool (decide ((y124.length : Int) > 0)))] zqm fun j => ?_))
      obtain ⟨c154, h155, hF⟩ := bind_some hF
      refine zbK 4 [(91, .bool c154), (2, zqA b3), (5, zqz x67)] (fun Q hQ => ?_) fun j => ?_
      ·have hF := h155
       rcases zi hF with ⟨hb156, hF⟩ | ⟨hb156, hF⟩
       ·refine z7 (congrArg (fun x => isB (.bool x) true) hb156) ?_
        refine zd hO 1 [] [(2, zqA b3), (5, zqz x67), (6, .slice A131 y124.length c132), (71, .bool (decide ((y124.length : Int) > 0))), (72, .slice A131 y124.length c132)] zqn fun j => ?_
        obtain ⟨y157, g158, hF⟩ := bind_some hF
        refine zC (T := zT) r130 hO.base rfl rfl g158 (by decide) fun a159 _ k160 m161 => ?_
        obtain ⟨v162, rfl, r163⟩ := k160
        obtain ⟨A164, c165, rfl, -⟩ := r163.form
        refine zd hO 1 [] [(2, zqA b3), (5, zqz x67), (6, .slice A131 y124.length c132), (71, .bool (decide ((y124.length : Int) > 0))), (74, .pointer (some a159))] zqn fun j => ?_
        refine zy rfl (m161.le hO.base).fst ?_
        refine zd hO 4 [0] [(2, zqA b3), (5, zqz x67), (6, .slice A131 y124.length c132), (71, .bool (decide ((y124.length : Int) > 0))), (79, .bool (decide (y157.From < p0.From)))] (And.intro (And.intro rfl rfl) zqn) fun j => ?_
        rcases zi hF with ⟨hb166, hF⟩ | ⟨hb166, hF⟩
        ·refine z9 (congrArg (fun x => isB (.bool x) false) hb166) ?_
         refine z7 (congrArg (fun x => isB (.bool x) true) hb156) ?_
         refine zJ (congrArg Value.bool hb166) ?_
         refine zJ (congrArg Value.bool hb156) ?_
         refine zh ?_
         injection hF with hF
         subst hF
         refine zg ?_
         exact hQ _ zql
        ·refine z7 (congrArg (fun x => isB (.bool x) false) hb166) ?_
         refine zd hO 4 [] [(2, zqA b3), (5, zqz x67), (71, .bool (decide ((y124.length : Int) > 0))), (79, .bool (decide (y157.From < p0.From))), (80, .slice A131 y124.length c132), (83, zqz (IntKind.i64.wrap ((y124.length : Int) - 1)))] zqo fun j => ?_
         obtain ⟨y167, g168, hF⟩ := bind_some hF
         refine zC (T := zT) r130 hO.base rfl rfl g168 (by decide) fun a169 _ k170 m171 => ?_
         obtain ⟨v172, rfl, r173⟩ := k170
         obtain ⟨A174, c175, rfl, -⟩ := r173.form
         refine zd hO 1 [] [(2, zqA b3), (5, zqz x67), (71, .bool (decide ((y124.length : Int) > 0))), (79, .bool (decide (y157.From < p0.From))), (85, .pointer (some (a169.add 1)))] zqn fun j => ?_
         refine zy rfl ((m171.le hO.base).one 1 rfl) ?_
         refine zd hO 3 [0] [(2, zqA b3), (5, zqz x67), (71, .bool (decide ((y124.length : Int) > 0))), (79, .bool (decide (y157.From < p0.From))), (89, .bool (decide (y167.To > p0.To)))] (And.intro (And.intro rfl rfl) zqn) fun j => ?_
         refine z7 (congrArg (fun x => isB (.bool x) true) hb156) ?_
         refine zJ (congrArg Value.bool hb166) ?_
         refine zJ (congrArg Value.bool hb156) ?_
         refine zh ?_
         injection hF with hF
         subst hF
         refine zg ?_
         exact hQ _ zql
       ·refine z9 (congrArg (fun x => isB (.bool x) true) hb156) ?_
        refine z9 rfl ?_
        refine z9 (congrArg (fun x => isB (.bool x) true) hb156) ?_
        refine zJ (congrArg Value.bool hb156) ?_
        refine zh ?_
        injection hF with hF
        subst hF
        refine zg ?_
        exact hQ _ zql
      ·refine zh (zbl ?_)
       rcases zi hF with ⟨hb176, hF⟩ | ⟨hb176, hF⟩
       ·refine zk (congrArg Value.bool hb176) ?_
        refine ze (zc hO [] [(4, .bool false)] zqj fun j => ?_)
        refine zu (zw (zn (zn (zw (zn ?_)))))
        injection hF with hF
        subst hF
        have hO := hO.sel [] (by decide)
        exact hQ _ _ _ _ _ rfl hO hL ⟨rfl, rfl⟩
       ·refine zl (congrArg Value.bool hb176) ?_
        refine zm (zg (zP (zj (zA (zc hO [] [(2, zqA b3), (5, zqz (IntKind.i64.wrap (x67 + 1)))] zqk fun j => ?_)))))
        refine zg (zj ?_)
        exact ⟨n122, Nat.lt_succ_self _, (IntKind.i64.wrap (x67 + 1)), _, zqy zqj, hO, hL, r65, r66, hF⟩
   ·refine zl (congrArg Value.bool hb123) ?_
    refine zU (zY (z0 (zj (zc hO [] [(4, .bool true)] zqj fun j => ?_))))
    refine zK ?_
    injection hF with hF
    subst hF
    have hO := hO.sel [] (by decide)
    exact hQ _ _ _ _ _ rfl hO hL ⟨rfl, rfl⟩
theorem zof {τ : Hp} {v0 : Value} {p0 : (List zo)} {v1 : Value} {p1 : (List zB)} (r0 : RdT zV τ v0 p0) (r1 : RdT zbg τ v1 p1) {rr : Bool} (hF : zeq p0 p1 = some rr) :
  Ctr Tryz.prog 17 #[v0, v1] τ [] (fun v τ' vs' => v = .bool rr ∧ vs' = []) := by
 obtain ⟨A0, c0, rfl, -⟩ := r0.form
 obtain ⟨A1, c1, rfl, -⟩ := r1.form
 refine zM (args := [.slice A0 p0.length c0, .slice A1 p1.length c1]) hm Tryz.func17 s17 rfl fun w0 σ hO Q hQ => ?_
 unfold zeq at hF
 have hL := Hp.le.refl τ
 show wpn _ _ a17.body _ _ _
 unfold a17
 dsimp only
 refine zc hO [] [(0, .slice A0 p0.length c0), (1, .slice A1 p1.length c1)] zqk fun j => ?_
 refine zc hO [] [(0, .slice A0 p0.length c0), (1, .slice A1 p1.length c1), (5, zqz 0)] zql fun j => ?_
 refine ze (zc hO [] [(0, .slice A0 p0.length c0), (1, .slice A1 p1.length c1), (5, zqz 0), (6, zqz 0)] zqm fun j => ?_)
 refine zt (zZ (fun (n : Nat) e' σ' => ∃ (x405 : Int) (x406 : Int) (τ' : Hp), agr [(0, .slice A0 p0.length c0), (1, .slice A1 p1.length c1), (5, zqz x405), (6, zqz x406)] e' ∧ Obs τ' σ' [] ∧ Hp.le τ τ' ∧ RdT zV τ' (.slice A0 p0.length c0) p0 ∧ RdT zbg τ' (.slice A1 p1.length c1) p1 ∧ zfj p0 p1 n x405 x406 = some rr) big ⟨0, 0, _, zqy zql, hO, hL, r0, r1, hF⟩ ?_)
 clear hF hO hL
 rintro n805 e σ ⟨x405, x406, _, hA, hO, hL, r403, r404, hF⟩
 rw [← zL _ _ hA]
 cases n805 with
 | zero => exact nomatch (show none = some rr from hF)
 | succ n805 =>
  replace hF : zgx (zfj p0 p1 n805) p0 p1 x405 x406 = some rr := hF
  unfold zgx at hF
  refine ze (zc hO [] [(0, .slice A0 p0.length c0), (1, .slice A1 p1.length c1), (5, zqz x405), (6, zqz x406), (14, .bool (decide (x406 < (p0.length : Int))))] zqn fun j => ?_)
  rcases zi hF with ⟨hb806, hF⟩ | ⟨hb806, hF⟩
  ·refine zk (congrArg Value.bool hb806) ?_
   refine zm (zt (ze (zd hO 2 [] [(0, .slice A0 p0.length c0), (1, .slice A1 p1.length c1), (5, zqz x405), (6, zqz x406), (17, .slice A0 p0.length c0), (18, zqz x406)] zqo fun j => ?_)))
   obtain ⟨y807, g808, hF⟩ := bind_some hF
   refine zC (T := zV) r403 hO.base rfl rfl g808 (by decide) fun a809 _ k810 m811 => ?_
   obtain ⟨v812, v816, rfl, r813, r817⟩ := k810
   obtain ⟨A814, c815, rfl, -⟩ := r813.form
   obtain ⟨A818, c819, rfl, -⟩ := r817.form
   refine zy rfl ((m811.le hO.base).all rfl) ?_
   refine zd hO 1 [] [(0, .slice A0 p0.length c0), (1, .slice A1 p1.length c1), (6, zqz x406), (20, .agg #[(.string y807.Name), (.int .i64 y807.From), (.int .i64 y807.To), (.slice A814 y807.Vars.length c815), (.slice A818 y807.Spans.length c819)]), (21, zqz x405)] zqn fun j => ?_
   obtain ⟨c820, h821, hF⟩ := bind_some hF
   refine zD hO (znq (p0 := (⟨y807.Name, y807.From, y807.To, y807.Vars, y807.Spans⟩ : zo)) r813 r817 h821) rfl fun _ σ _ _ hO h822 h823 => ?_
   have hL := hL.trans h822
   have r403 := r403.le h822
   have r404 := r404.le h822
   have r813 := r813.le h822
   have r817 := r817.le h822
   obtain ⟨rfl, rfl⟩ := h823
   have hO : Obs _ _ [] := hO
   refine zc hO [] [(0, .slice A0 p0.length c0), (1, .slice A1 p1.length c1), (6, zqz x406), (23, .bool (!c820))] zqm fun j => ?_
   rcases zi hF with ⟨hb824, hF⟩ | ⟨hb824, hF⟩
   ·refine zk (congrArg Value.bool hb824) ?_
    refine ze (zc hO [] [(4, .bool false)] zqj fun j => ?_)
    refine zu (zw (zn (zn (zw (zn ?_)))))
    injection hF with hF
    subst hF
    exact hQ _ _ _ _ _ rfl hO hL ⟨rfl, rfl⟩
   ·refine zl (congrArg Value.bool hb824) ?_
    refine zm (zA (zd hO 2 [] [(0, .slice A0 p0.length c0), (1, .slice A1 p1.length c1), (6, zqz x406), (24, .slice A0 p0.length c0), (25, zqz x406)] zqn fun j => ?_))
    obtain ⟨y825, g826, hF⟩ := bind_some hF
    refine zC (T := zV) r403 hO.base rfl rfl g826 (by decide) fun a827 _ k828 m829 => ?_
    obtain ⟨v830, v834, rfl, r831, r835⟩ := k828
    obtain ⟨A832, c833, rfl, -⟩ := r831.form
    obtain ⟨A836, c837, rfl, -⟩ := r835.form
    refine zd hO 1 [] [(0, .slice A0 p0.length c0), (1, .slice A1 p1.length c1), (6, zqz x406), (27, .pointer (some (a827.add 2)))] zqm fun j => ?_
    refine zy rfl ((m829.le hO.base).one 2 rfl) ?_
    refine zc hO [] [(0, .slice A0 p0.length c0), (1, .slice A1 p1.length c1), (5, zqz y825.To), (6, zqz x406)] zqm fun j => ?_
    refine zg (zP (zj (zA (zc hO [] [(0, .slice A0 p0.length c0), (1, .slice A1 p1.length c1), (5, zqz y825.To), (6, zqz (IntKind.i64.wrap (x406 + 1)))] zqm fun j => ?_))))
    refine zg (zj ?_)
    exact ⟨n805, Nat.lt_succ_self _, y825.To, (IntKind.i64.wrap (x406 + 1)), _, zqy zql, hO, hL, r403, r404, hF⟩
  ·refine zl (congrArg Value.bool hb806) ?_
   refine zU (zY (z0 (zj (ze (zc hO [] [(0, .slice A0 p0.length c0), (1, .slice A1 p1.length c1), (7, zqz 0)] zql fun j => ?_)))))
   refine zt (zZ (fun (n : Nat) e' σ' => ∃ (x962 : Int) (τ' : Hp), agr [(0, .slice A0 p0.length c0), (1, .slice A1 p1.length c1), (7, zqz x962)] e' ∧ Obs τ' σ' [] ∧ Hp.le τ τ' ∧ RdT zV τ' (.slice A0 p0.length c0) p0 ∧ RdT zbg τ' (.slice A1 p1.length c1) p1 ∧ zc6 p0 p1 n x962 = some rr) big ⟨0, _, zqy zqk, hO, hL, r403, r404, hF⟩ ?_)
   clear hF hO hL
   rintro n1083 e σ ⟨x962, _, hA, hO, hL, r960, r961, hF⟩
   rw [← zL _ _ hA]
   cases n1083 with
   | zero => exact nomatch (show none = some rr from hF)
   | succ n1083 =>
    replace hF : zfG (zc6 p0 p1 n1083) p0 p1 x962 = some rr := hF
    unfold zfG at hF
    refine ze (zc hO [] [(0, .slice A0 p0.length c0), (1, .slice A1 p1.length c1), (7, zqz x962), (32, .bool (decide (x962 < (p1.length : Int))))] zqm fun j => ?_)
    rcases zi hF with ⟨hb1084, hF⟩ | ⟨hb1084, hF⟩
    ·refine zk (congrArg Value.bool hb1084) ?_
     refine zm (zt (zd hO 2 [] [(0, .slice A0 p0.length c0), (1, .slice A1 p1.length c1), (7, zqz x962), (35, .slice A1 p1.length c1), (36, zqz x962)] zqn fun j => ?_))
     obtain ⟨y1085, g1086, hF⟩ := bind_some hF
     refine zC (T := zbg) r961 hO.base rfl rfl g1086 (by decide) fun a1087 _ k1088 m1089 => ?_
     obtain ⟨v1090, rfl, r1091⟩ := k1088
     obtain ⟨A1092, c1093, rfl, -⟩ := r1091.form
     refine zy rfl ((m1089.le hO.base).all rfl) ?_
     refine zbq hO fun b1094 σ hO => ?_
     have hO : Obs _ _ [_] := hO
     refine zO hO (i := 0) rfl (off := 0) rfl rfl rfl rfl (Nat.le_of_ble_eq_true rfl) rfl fun σ hO => ?_
     have hO : Obs _ _ [_] := hO
     refine zh (ze (zc hO [0, 0, 0, 0] [(0, .slice A0 p0.length c0), (1, .slice A1 p1.length c1), (7, zqz x962), (8, zqA b1094), (58, .bool ((((decide (y1085.Func < 0)) || (decide (y1085.Func ≥ (p0.length : Int)))) || (decide (y1085.Line < 1))) || (decide (y1085.Line > 1048576))))] (And.intro (And.intro rfl rfl) (And.intro (And.intro rfl rfl) (And.intro (And.intro rfl rfl) (fun _ => And.intro (And.intro rfl rfl) (And.intro (And.intro rfl rfl) (fun _ => And.intro (And.intro rfl rfl) (And.intro (And.intro rfl rfl) (fun _ => zqy zqm)))))))) fun j => ?_))
     rcases zi hF with ⟨hb1095, hF⟩ | ⟨hb1095, hF⟩
     ·refine zk (congrArg Value.bool hb1095) ?_
      refine ze (zc hO [] [(4, .bool false)] zqj fun j => ?_)
      refine zu (zw (zn (zn (zw (zn ?_)))))
      injection hF with hF
      subst hF
      have hO := hO.sel [] (by decide)
      exact hQ _ _ _ _ _ rfl hO hL ⟨rfl, rfl⟩
     ·refine zl (congrArg Value.bool hb1095) ?_
      refine zm (zc hO [] [(0, .slice A0 p0.length c0), (1, .slice A1 p1.length c1), (7, zqz x962), (8, zqA b1094), (9, zqz (-1))] zqn fun j => ?_)
      refine zc hO [] [(0, .slice A0 p0.length c0), (1, .slice A1 p1.length c1), (7, zqz x962), (8, zqA b1094), (9, zqz (-1)), (10, zqz 0)] zqo fun j => ?_
      refine zcE (zt (zZ (fun (n : Nat) e' σ' => ∃ (x1135 : Int) (x1136 : Int) (τ' : Hp), agr [(0, .slice A0 p0.length c0), (1, .slice A1 p1.length c1), (7, zqz x962), (8, zqA b1094), (9, zqz x1135), (10, zqz x1136)] e' ∧ Obs τ' σ' [some (b1094, ⟨[.int .i64 y1085.Func, .int .i64 y1085.Line, .slice A1092 y1085.Scope.length c1093], 58, 3, true⟩)] ∧ Hp.le τ τ' ∧ RdT zV τ' (.slice A0 p0.length c0) p0 ∧ RdT zbg τ' (.slice A1 p1.length c1) p1 ∧ RdT (Ty.int .i64) τ' (.slice A1092 y1085.Scope.length c1093) y1085.Scope ∧ zfR (zc6 p0 p1 n1083) p0 x962 y1085 n x1135 x1136 = some rr) big ⟨(-1), 0, _, zqy zqn, hO, hL, r960, r961, r1091, hF⟩ ?_))
      clear hF hO hL
      rintro n1170 e σ ⟨x1135, x1136, _, hA, hO, hL, r1132, r1133, r1134, hF⟩
      rw [← zL _ _ hA]
      cases n1170 with
      | zero => exact nomatch (show none = some rr from hF)
      | succ n1170 =>
       replace hF : zgu (zfR (zc6 p0 p1 n1083) p0 x962 y1085 n1170) (zc6 p0 p1 n1083) p0 x962 y1085 x1135 x1136 = some rr := hF
       unfold zgu at hF
       refine ze (zc hO [0] [(0, .slice A0 p0.length c0), (1, .slice A1 p1.length c1), (7, zqz x962), (8, zqA b1094), (9, zqz x1135), (10, zqz x1136), (63, .bool (decide (x1136 < (y1085.Scope.length : Int))))] (And.intro (And.intro rfl rfl) zqp) fun j => ?_)
       rcases zi hF with ⟨hb1171, hF⟩ | ⟨hb1171, hF⟩
       ·refine zk (congrArg Value.bool hb1171) ?_
        refine zm (zt (ze (zbr (zd hO 3 [0] [(0, .slice A0 p0.length c0), (1, .slice A1 p1.length c1), (7, zqz x962), (8, zqA b1094), (9, zqz x1135), (10, zqz x1136), (67, .slice A1092 y1085.Scope.length c1093), (68, zqz x1136)] (And.intro (And.intro rfl rfl) zqq) fun j => ?_))))
        obtain ⟨y1172, g1173, hF⟩ := bind_some hF
        refine zC (T := (Ty.int .i64)) r1134 hO.base rfl rfl g1173 (by decide) fun a1174 _ k1175 m1176 => ?_
        obtain rfl : _ = ([.int .i64 y1172] : List Value) := k1175
        refine zy rfl (m1176.le hO.base).fst ?_
        refine zd hO 3 [] [(0, .slice A0 p0.length c0), (1, .slice A1 p1.length c1), (7, zqz x962), (8, zqA b1094), (10, zqz x1136), (73, .bool (decide (y1172 ≤ x1135)))] zqo fun j => ?_
        obtain ⟨c1177, h1178, hF⟩ := bind_some hF
        refine zbK 2 [(87, .bool c1177), (0, .slice A0 p0.length c0), (1, .slice A1 p1.length c1), (7, zqz x962), (8, zqA b1094), (10, zqz x1136)] (fun Q hQ => ?_) fun j => ?_
        ·have hF := h1178
         rcases zi hF with ⟨hb1179, hF⟩ | ⟨hb1179, hF⟩
         ·refine z9 (congrArg (fun x => isB (.bool x) false) hb1179) ?_
          refine zJ (congrArg Value.bool hb1179) ?_
          refine zh ?_
          injection hF with hF
          subst hF
          refine zg ?_
          exact hQ _ zqo
         ·refine z7 (congrArg (fun x => isB (.bool x) false) hb1179) ?_
          refine zd hO 3 [0] [(0, .slice A0 p0.length c0), (1, .slice A1 p1.length c1), (7, zqz x962), (8, zqA b1094), (10, zqz x1136), (73, .bool (decide (y1172 ≤ x1135))), (75, .slice A1092 y1085.Scope.length c1093), (76, zqz x1136)] (And.intro (And.intro rfl rfl) zqq) fun j => ?_
          obtain ⟨y1180, g1181, hF⟩ := bind_some hF
          refine zC (T := (Ty.int .i64)) r1134 hO.base rfl rfl g1181 (by decide) fun a1182 _ k1183 m1184 => ?_
          obtain rfl : _ = ([.int .i64 y1180] : List Value) := k1183
          refine zy rfl (m1184.le hO.base).fst ?_
          refine zd hO 3 [0] [(0, .slice A0 p0.length c0), (1, .slice A1 p1.length c1), (7, zqz x962), (8, zqA b1094), (10, zqz x1136), (73, .bool (decide (y1172 ≤ x1135))), (78, zqz y1180), (79, .slice A0 p0.length c0), (81, zqz y1085.Func)] (And.intro (And.intro rfl rfl) zqr) fun j => ?_
          obtain ⟨y1185, g1186, hF⟩ := bind_some hF
          refine zC (T := zV) r1132 hO.base rfl rfl g1186 (by decide) fun a1187 _ k1188 m1189 => ?_
          obtain ⟨v1190, v1194, rfl, r1191, r1195⟩ := k1188
          obtain ⟨A1192, c1193, rfl, -⟩ := r1191.form
          obtain ⟨A1196, c1197, rfl, -⟩ := r1195.form
          refine zd hO 1 [] [(0, .slice A0 p0.length c0), (1, .slice A1 p1.length c1), (7, zqz x962), (8, zqA b1094), (10, zqz x1136), (73, .bool (decide (y1172 ≤ x1135))), (78, zqz y1180), (83, .pointer (some (a1187.add 3)))] zqq fun j => ?_
          refine zy rfl ((m1189.le hO.base).one 3 rfl) ?_
          refine zd hO 2 [] [(0, .slice A0 p0.length c0), (1, .slice A1 p1.length c1), (7, zqz x962), (8, zqA b1094), (10, zqz x1136), (73, .bool (decide (y1172 ≤ x1135))), (86, .bool (decide (y1180 ≥ (y1185.Vars.length : Int))))] zqp fun j => ?_
          refine zJ (congrArg Value.bool hb1179) ?_
          refine zh ?_
          injection hF with hF
          subst hF
          refine zg ?_
          exact hQ _ zqo
        ·refine zh ?_
         rcases zi hF with ⟨hb1198, hF⟩ | ⟨hb1198, hF⟩
         ·refine zk (congrArg Value.bool hb1198) ?_
          refine ze (zc hO [] [(4, .bool false)] zqj fun j => ?_)
          refine zu (zw (zn (zn (zw (zn (zw ?_))))))
          refine zn (zn (zw (zn ?_)))
          injection hF with hF
          subst hF
          have hO := hO.sel [] (by decide)
          exact hQ _ _ _ _ _ rfl hO hL ⟨rfl, rfl⟩
         ·refine zl (congrArg Value.bool hb1198) ?_
          refine zm (zA (zd hO 3 [0] [(0, .slice A0 p0.length c0), (1, .slice A1 p1.length c1), (7, zqz x962), (8, zqA b1094), (10, zqz x1136), (89, .slice A1092 y1085.Scope.length c1093), (90, zqz x1136)] (And.intro (And.intro rfl rfl) zqp) fun j => ?_))
          obtain ⟨y1199, g1200, hF⟩ := bind_some hF
          refine zC (T := (Ty.int .i64)) r1134 hO.base rfl rfl g1200 (by decide) fun a1201 _ k1202 m1203 => ?_
          obtain rfl : _ = ([.int .i64 y1199] : List Value) := k1202
          refine zy rfl (m1203.le hO.base).fst ?_
          refine zc hO [] [(0, .slice A0 p0.length c0), (1, .slice A1 p1.length c1), (7, zqz x962), (8, zqA b1094), (9, zqz y1199), (10, zqz x1136)] zqo fun j => ?_
          refine zg (zP (zj (zA (zc hO [] [(0, .slice A0 p0.length c0), (1, .slice A1 p1.length c1), (7, zqz x962), (8, zqA b1094), (9, zqz y1199), (10, zqz (IntKind.i64.wrap (x1136 + 1)))] zqo fun j => ?_))))
          refine zg (zj ?_)
          exact ⟨n1170, Nat.lt_succ_self _, y1199, (IntKind.i64.wrap (x1136 + 1)), _, zqy zqn, hO, hL, r1132, r1133, r1134, hF⟩
       ·refine zl (congrArg Value.bool hb1171) ?_
        refine zU (zY (z0 (zj (zg (zP (zj ?_))))))
        refine zA (zc hO [] [(0, .slice A0 p0.length c0), (1, .slice A1 p1.length c1), (7, zqz (IntKind.i64.wrap (x962 + 1)))] zql fun j => ?_)
        refine zg (zj ?_)
        have hO := hO.sel [] (by decide)
        exact ⟨n1083, Nat.lt_succ_self _, (IntKind.i64.wrap (x962 + 1)), _, zqy zqk, hO, hL, r1132, r1133, hF⟩
    ·refine zl (congrArg Value.bool hb1084) ?_
     refine zU (zY (z0 (zj (zc hO [] [(4, .bool ((decide ((p0.length : Int) ≤ 64)) && (decide ((p1.length : Int) ≤ 1000))))] (And.intro (And.intro rfl rfl) (fun _ => zqy trivial)) fun j => ?_))))
     refine zK ?_
     injection hF with hF
     subst hF
     exact hQ _ _ _ _ _ rfl hO hL ⟨rfl, rfl⟩
theorem zoJ {τ : Hp} {p0 : Int} {p1 : Int}  {rr : Bool} (hF : zgg p0 p1 = some rr) :
  Ctr Tryz.prog 80 #[.int .u64 p0, .int .i64 p1] τ [] (fun v τ' vs' => v = .bool rr ∧ vs' = []) := by
 refine zM (args := [.int .u64 p0, .int .i64 p1]) hm Tryz.func80 s80 rfl fun w0 σ hO Q hQ => ?_
 unfold zgg at hF
 have hL := Hp.le.refl τ
 show wpn _ _ a80.body _ _ _
 unfold a80
 dsimp only
 refine zc hO [] [(0, .int .u64 p0), (1, zqz p1)] zqk fun j => ?_
 refine zd hO 4 [] [(0, .int .u64 p0), (1, zqz p1), (8, .bool (decide ((IntKind.i64.wrap (7 * p1)) ≥ 64)))] zql fun j => ?_
 obtain ⟨c3, h4, hF⟩ := bind_some hF
 refine zbK 2 [(15, .bool c3)] (fun Q hQ => ?_) fun j => ?_
 ·have hF := h4
  rcases zi hF with ⟨hb5, hF⟩ | ⟨hb5, hF⟩
  ·refine z9 (congrArg (fun x => isB (.bool x) false) hb5) ?_
   refine zJ (congrArg Value.bool hb5) ?_
   refine zh ?_
   injection hF with hF
   subst hF
   refine zg ?_
   exact hQ _ (zqy (trivial))
  ·refine z7 (congrArg (fun x => isB (.bool x) false) hb5) ?_
   refine zd hO 4 [] [(8, .bool (decide ((IntKind.i64.wrap (7 * p1)) ≥ 64))), (9, .int .u64 p0), (12, .int .u64 (IntKind.u64.wrap (IntKind.i64.wrap (7 * p1))))] zql fun j => ?_
   obtain ⟨y6, g7, hF⟩ := bind_some hF
   refine zde (zen g7) ?_
   refine zd hO 1 [] [(8, .bool (decide ((IntKind.i64.wrap (7 * p1)) ≥ 64))), (14, .bool (decide (p0 < y6)))] zqk fun j => ?_
   refine zJ (congrArg Value.bool hb5) ?_
   refine zh ?_
   injection hF with hF
   subst hF
   refine zg ?_
   exact hQ _ (zqy (trivial))
 ·refine zc hO [] [(4, .bool c3)] zqj fun j => ?_
  refine zK ?_
  injection hF with hF
  subst hF
  exact hQ _ _ _ _ _ rfl hO hL ⟨rfl, rfl⟩
theorem zmK {τ : Hp} {v0 : Value} {p0 : (List UInt8)} (r0 : RdT Ty.u8 τ v0 p0) {rr : (List UInt8)} (hF : zhk p0 = some rr) :
  Ctr Tryz.prog 38 #[v0] τ [] (fun v τ' vs' => ∃ (v0 : Value) (o0 : Ob), v = v0 ∧ vs' = [o0] ∧ zr Ty.u8 5 τ' v0 rr o0) := by
 obtain ⟨A0, c0, rfl, -⟩ := r0.form
 refine zM (args := [.slice A0 p0.length c0]) hm Tryz.func38 s38 rfl fun w0 σ hO Q hQ => ?_
 unfold zhk at hF
 have hL := Hp.le.refl τ
 show wpn _ _ a38.body _ _ _
 unfold a38
 dsimp only
 refine zc hO [] [(0, .slice A0 p0.length c0)] zqj fun j => ?_
 refine zc hO [] [(0, .slice A0 p0.length c0), (3, .slice none 0 0)] zqk fun j => ?_
 refine ze (zc hO [] [(3, .slice none 0 0), (6, .slice A0 p0.length c0), (7, zqz (p0.length : Int)), (8, zqz 0)] zqm fun j => ?_)
 refine zt ?_
 have hO := hO.no
 have hO : Obs _ _ [_] := hO
 refine zZ (fun (n : Nat) e' σ' => ∃ (A15 : Option Addr) (c16 : Nat) (o17 : Ob) (x18 : List UInt8) (x21 : Int) (τ' : Hp), agr [(3, .slice A15 x18.length c16), (6, .slice A0 p0.length c0), (7, zqz (p0.length : Int)), (8, zqz x21)] e' ∧ Obs τ' σ' [o17] ∧ Hp.le τ τ' ∧ zr Ty.u8 5 τ' (.slice A15 x18.length c16) x18 o17 ∧ RdT Ty.u8 τ' (.slice A0 p0.length c0) p0 ∧ ze2 p0 n x18 x21 = some rr) big ⟨none, 0, none, [], 0, _, zqy zql, hO, hL, zr.nil _ _ _, r0, hF⟩ ?_
 clear hF hO hL
 rintro n33 e σ ⟨A15, c16, o17, x18, x21, _, hA, hO, hL, w19, r20, hF⟩
 rw [← zL _ _ hA]
 cases n33 with
 | zero => exact nomatch (show none = some rr from hF)
 | succ n33 =>
  replace hF : zf5 (ze2 p0 n33) p0 x18 x21 = some rr := hF
  unfold zf5 at hF
  refine zc hO [] [(3, .slice A15 x18.length c16), (6, .slice A0 p0.length c0), (7, zqz (p0.length : Int)), (8, zqz x21), (9, .bool (decide (x21 < (p0.length : Int))))] zqn fun j => ?_
  rcases zi hF with ⟨hb34, hF⟩ | ⟨hb34, hF⟩
  ·refine zk (congrArg Value.bool hb34) ?_
   refine zm (zt ?_)
   obtain ⟨y35, g36, hF⟩ := bind_some hF
   refine zC (T := Ty.u8) r20 hO.base rfl rfl g36 (by decide) fun a37 _ k38 m39 => ?_
   obtain rfl : _ = ([.int .u8 y35.toNat] : List Value) := k38
   refine zy rfl (m39.le hO.base).fst ?_
   refine zc hO [] [(3, .slice A15 x18.length c16), (5, .int .u8 (y35.toNat : Int)), (6, .slice A0 p0.length c0), (7, zqz (p0.length : Int)), (8, zqz x21)] zqn fun j => ?_
   refine zA (zd hO 2 [] [(6, .slice A0 p0.length c0), (7, zqz (p0.length : Int)), (8, zqz x21), (12, .slice A15 x18.length c16), (13, .int .u8 (y35.toNat : Int))] zqn fun j => ?_)
   obtain ⟨_, hr44, hF⟩ := bind_some hF
   refine zbN (T := Ty.u8) (y := y35) hO w19 (i := 0) rfl rfl (fun _ => rfl) rfl rfl rfl hr44 (by decide) fun u _ σ o42 w43 hO => ?_
   obtain ⟨A40, c41, rfl, -⟩ := w43.form
   have hO : Obs _ _ [_] := hO
   refine zc hO [] [(3, .slice A40 (x18 ++ [y35]).length c41), (6, .slice A0 p0.length c0), (7, zqz (p0.length : Int)), (8, zqz x21)] zqm fun j => ?_
   refine zg (zP (zj (zA (zc hO [] [(3, .slice A40 (x18 ++ [y35]).length c41), (6, .slice A0 p0.length c0), (7, zqz (p0.length : Int)), (8, zqz (IntKind.i64.wrap (x21 + 1)))] zqm fun j => ?_))))
   refine zg (zj ?_)
   exact ⟨n33, Nat.lt_succ_self _, A40, c41, o42, (x18 ++ [y35]), (IntKind.i64.wrap (x21 + 1)), _, zqy zql, hO, hL, w43, r20, hF⟩
  ·refine zl (congrArg Value.bool hb34) ?_
   refine zU (zY (z0 (zj (zc hO [] [(2, .slice A15 x18.length c16)] zqj fun j => ?_))))
   refine zK ?_
   injection hF with hF
   subst hF
   exact hQ _ _ _ _ _ rfl hO hL ⟨_, _, rfl, rfl, w19⟩
theorem zlH {τ : Hp} {v0 : Value} {p0 : (List UInt8)} {p1 : Int} {p2 : Bool} {p3 : Int} (r0 : RdT Ty.u8 τ v0 p0) {rr : (List UInt8)} (hF : zeg p0 p1 p2 p3 = some rr) :
  Ctr Tryz.prog 81 #[v0, .int .u64 p1, .bool p2, .int .i64 p3] τ [] (fun v τ' vs' => ∃ (v0 : Value) (o0 : Ob), v = v0 ∧ vs' = [o0] ∧ zr Ty.u8 5 τ' v0 rr o0) := by
 obtain ⟨A0, c0, rfl, -⟩ := r0.form
 refine zM (args := [.slice A0 p0.length c0, .int .u64 p1, .bool p2, .int .i64 p3]) hm Tryz.func81 s81 rfl fun w0 σ hO Q hQ => ?_
 unfold zeg at hF
 have hL := Hp.le.refl τ
 show wpn _ _ a81.body _ _ _
 unfold a81
 dsimp only
 refine zc hO [] [(0, .slice A0 p0.length c0), (1, .int .u64 p1), (2, .bool p2), (3, zqz p3)] zqm fun j => ?_
 refine zd hO 1 [] [(1, .int .u64 p1), (2, .bool p2), (3, zqz p3), (12, .slice A0 p0.length c0)] zqm fun j => ?_
 obtain ⟨c5, h6, hF⟩ := bind_some hF
 refine zD hO (zmK r0 h6) rfl fun _ σ _ _ hO h7 h8 => ?_
 have hL := hL.trans h7
 have r0 := r0.le h7
 obtain ⟨v9, o12, rfl, rfl, w13⟩ := h8
 obtain ⟨A10, c11, rfl, -⟩ := w13.form
 have hO : Obs _ _ [_] := hO
 refine zc hO [] [(1, .int .u64 p1), (2, .bool p2), (3, zqz p3), (9, .slice A10 c5.length c11)] zqm fun j => ?_
 refine ze (zc hO [] [(1, .int .u64 p1), (2, .bool p2), (3, zqz p3), (9, .slice A10 c5.length c11), (10, zqz 0)] zqn fun j => ?_)
 refine zt (zZ (fun (n : Nat) e' σ' => ∃ (x41 : Int) (A42 : Option Addr) (c43 : Nat) (o44 : Ob) (x45 : List UInt8) (x47 : Int) (τ' : Hp), agr [(1, .int .u64 x41), (2, .bool p2), (3, zqz p3), (9, .slice A42 x45.length c43), (10, zqz x47)] e' ∧ Obs τ' σ' [o44] ∧ Hp.le τ τ' ∧ zr Ty.u8 5 τ' (.slice A42 x45.length c43) x45 o44 ∧ zdj p2 p3 n x41 x45 x47 = some rr) big ⟨p1, A10, c11, o12, c5, 0, _, zqy zqm, hO, hL, w13, hF⟩ ?_)
 clear hF hO hL
 rintro n70 e σ ⟨x41, A42, c43, o44, x45, x47, _, hA, hO, hL, w46, hF⟩
 rw [← zL _ _ hA]
 cases n70 with
 | zero => exact nomatch (show none = some rr from hF)
 | succ n70 =>
  replace hF : zfz (zdj p2 p3 n70) p2 p3 x41 x45 x47 = some rr := hF
  unfold zfz at hF
  refine ze (zc hO [] [(1, .int .u64 x41), (2, .bool p2), (3, zqz p3), (9, .slice A42 x45.length c43), (10, zqz x47), (16, .bool (decide (x47 < p3)))] zqo fun j => ?_)
  rcases zi hF with ⟨hb71, hF⟩ | ⟨hb71, hF⟩
  ·refine zk (congrArg Value.bool hb71) ?_
   refine zm (zt (zc hO [] [(1, .int .u64 x41), (2, .bool p2), (3, zqz p3), (9, .slice A42 x45.length c43), (10, zqz x47), (11, .int .u64 (Int.tmod x41 128))] zqo fun j => ?_))
   refine zc hO [] [(1, .int .u64 (IntKind.u64.wrap (Int.tdiv x41 128))), (2, .bool p2), (3, zqz p3), (9, .slice A42 x45.length c43), (10, zqz x47), (11, .int .u64 (Int.tmod x41 128))] zqo fun j => ?_
   refine ze (zc hO [] [(1, .int .u64 (IntKind.u64.wrap (Int.tdiv x41 128))), (2, .bool p2), (3, zqz p3), (9, .slice A42 x45.length c43), (10, zqz x47), (11, .int .u64 (Int.tmod x41 128)), (23, .bool p2)] zqp fun j => ?_)
   refine zco (fun e' σ' => ∃ (x73 : Int) (A74 : Option Addr) (c75 : Nat) (o76 : Ob) (x77 : List UInt8) (τ' : Hp), agr [(1, .int .u64 x73), (2, .bool p2), (3, zqz p3), (9, .slice A74 x77.length c75), (10, zqz x47), (11, .int .u64 (Int.tmod x41 128))] e' ∧ Obs τ' σ' [o76] ∧ Hp.le τ τ' ∧ zr Ty.u8 5 τ' (.slice A74 x77.length c75) x77 o76 ∧ zgm (zdj p2 p3 n70) p3 x41 x47 x73 x77 = some rr) ?_ ?_
   ·refine zbl ?_
    rcases zi hF with ⟨hb92, hF⟩ | ⟨hb92, hF⟩
    ·refine zk (congrArg Value.bool hb92) ?_
     refine zc hO [] [(1, .int .u64 (orI .u64 (IntKind.u64.wrap (Int.tdiv x41 128)) 18302628885633695744)), (2, .bool p2), (3, zqz p3), (9, .slice A42 x45.length c43), (10, zqz x47), (11, .int .u64 (Int.tmod x41 128))] zqo fun j => ?_
     refine zg (zj ?_)
     exact ⟨(orI .u64 (IntKind.u64.wrap (Int.tdiv x41 128)) 18302628885633695744), A42, c43, o44, x45, _, zqy zqn, hO, hL, w46, hF⟩
    ·refine zl (congrArg Value.bool hb92) ?_
     refine zm (zg (zj ?_))
     exact ⟨(IntKind.u64.wrap (Int.tdiv x41 128)), A42, c43, o44, x45, _, zqy zqn, hO, hL, w46, hF⟩
   ·rintro e σ ⟨x73, A74, c75, o76, x77, _, hA, hO, hL, w78, hF⟩
    rw [← zL _ _ hA]
    unfold zgm at hF
    refine ze (zc hO [] [(1, .int .u64 x73), (2, .bool p2), (3, zqz p3), (9, .slice A74 x77.length c75), (10, zqz x47), (11, .int .u64 (Int.tmod x41 128)), (29, .bool (decide (x47 < (IntKind.i64.wrap (p3 - 1)))))] zqp fun j => ?_)
    rcases zi hF with ⟨hb79, hF⟩ | ⟨hb79, hF⟩
    ·refine zk (congrArg Value.bool hb79) ?_
     refine zc hO [] [(1, .int .u64 x73), (2, .bool p2), (3, zqz p3), (9, .slice A74 x77.length c75), (10, zqz x47), (11, .int .u64 (IntKind.u64.wrap ((Int.tmod x41 128) + 128)))] zqo fun j => ?_
     refine zA (zd hO 3 [] [(1, .int .u64 x73), (2, .bool p2), (3, zqz p3), (10, zqz x47), (32, .slice A74 x77.length c75), (34, .int .u8 (IntKind.u8.wrap (IntKind.u64.wrap ((Int.tmod x41 128) + 128))))] zqo fun j => ?_)
     obtain ⟨z80, hz80, hF⟩ := bind_some hF
     obtain ⟨_, hr85, hF⟩ := bind_some hF
     refine zbN (T := Ty.u8) (y := z80) hO w78 (i := 0) rfl rfl (fun _ => rfl) rfl (u8R hz80) rfl hr85 (by decide) fun u _ σ o83 w84 hO => ?_
     obtain ⟨A81, c82, rfl, -⟩ := w84.form
     have hO : Obs _ _ [_] := hO
     refine zc hO [] [(1, .int .u64 x73), (2, .bool p2), (3, zqz p3), (9, .slice A81 (x77 ++ [z80]).length c82), (10, zqz x47)] zqn fun j => ?_
     refine zg (zP (zj (zA (zc hO [] [(1, .int .u64 x73), (2, .bool p2), (3, zqz p3), (9, .slice A81 (x77 ++ [z80]).length c82), (10, zqz (IntKind.i64.wrap (x47 + 1)))] zqn fun j => ?_))))
     refine zg (zj ?_)
     exact ⟨n70, Nat.lt_succ_self _, x73, A81, c82, o83, (x77 ++ [z80]), (IntKind.i64.wrap (x47 + 1)), _, zqy zqm, hO, hL, w84, hF⟩
    ·refine zl (congrArg Value.bool hb79) ?_
     refine zm (zA (zd hO 3 [] [(1, .int .u64 x73), (2, .bool p2), (3, zqz p3), (10, zqz x47), (32, .slice A74 x77.length c75), (34, .int .u8 (IntKind.u8.wrap (Int.tmod x41 128)))] zqo fun j => ?_))
     obtain ⟨z86, hz86, hF⟩ := bind_some hF
     obtain ⟨_, hr91, hF⟩ := bind_some hF
     refine zbN (T := Ty.u8) (y := z86) hO w78 (i := 0) rfl rfl (fun _ => rfl) rfl (u8R hz86) rfl hr91 (by decide) fun u _ σ o89 w90 hO => ?_
     obtain ⟨A87, c88, rfl, -⟩ := w90.form
     have hO : Obs _ _ [_] := hO
     refine zc hO [] [(1, .int .u64 x73), (2, .bool p2), (3, zqz p3), (9, .slice A87 (x77 ++ [z86]).length c88), (10, zqz x47)] zqn fun j => ?_
     refine zg (zP (zj (zA (zc hO [] [(1, .int .u64 x73), (2, .bool p2), (3, zqz p3), (9, .slice A87 (x77 ++ [z86]).length c88), (10, zqz (IntKind.i64.wrap (x47 + 1)))] zqn fun j => ?_))))
     refine zg (zj ?_)
     exact ⟨n70, Nat.lt_succ_self _, x73, A87, c88, o89, (x77 ++ [z86]), (IntKind.i64.wrap (x47 + 1)), _, zqy zqm, hO, hL, w90, hF⟩
  ·refine zl (congrArg Value.bool hb71) ?_
   refine zU (zY (z0 (zj (zc hO [] [(8, .slice A42 x45.length c43)] zqj fun j => ?_))))
   refine zK ?_
   injection hF with hF
   subst hF
   exact hQ _ _ _ _ _ rfl hO hL ⟨_, _, rfl, rfl, w46⟩
theorem znz {τ : Hp} {v0 : Value} {p0 : (List UInt8)} {p1 : Int} (r0 : RdT Ty.u8 τ v0 p0) {rr : (List UInt8)} (hF : zhh p0 p1 = some rr) :
  Ctr Tryz.prog 59 #[v0, .int .u64 p1] τ [] (fun v τ' vs' => ∃ (v0 : Value) (o0 : Ob), v = v0 ∧ vs' = [o0] ∧ zr Ty.u8 5 τ' v0 rr o0) := by
 obtain ⟨A0, c0, rfl, -⟩ := r0.form
 refine zM (args := [.slice A0 p0.length c0, .int .u64 p1]) hm Tryz.func59 s59 rfl fun w0 σ hO Q hQ => ?_
 unfold zhh at hF
 have hL := Hp.le.refl τ
 show wpn _ _ a59.body _ _ _
 unfold a59
 dsimp only
 refine zc hO [] [(0, .slice A0 p0.length c0), (1, .int .u64 p1)] zqk fun j => ?_
 refine zc hO [] [(0, .slice A0 p0.length c0), (1, .int .u64 p1), (5, zqz 1)] zql fun j => ?_
 refine zt (zZ (fun (n : Nat) e' σ' => ∃ (x19 : Int) (τ' : Hp), agr [(0, .slice A0 p0.length c0), (1, .int .u64 p1), (5, zqz x19)] e' ∧ Obs τ' σ' [] ∧ Hp.le τ τ' ∧ RdT Ty.u8 τ' (.slice A0 p0.length c0) p0 ∧ zeL p0 p1 n x19 = some rr) big ⟨1, _, zqy zqk, hO, hL, r0, hF⟩ ?_)
 clear hF hO hL
 rintro n34 e σ ⟨x19, _, hA, hO, hL, r18, hF⟩
 rw [← zL _ _ hA]
 cases n34 with
 | zero => exact nomatch (show none = some rr from hF)
 | succ n34 =>
  replace hF : zga (zeL p0 p1 n34) p0 p1 x19 = some rr := hF
  unfold zga at hF
  refine ze (zd hO 2 [] [(0, .slice A0 p0.length c0), (1, .int .u64 p1), (5, zqz x19), (6, .int .u64 p1), (7, zqz x19)] zqn fun j => ?_)
  obtain ⟨c35, h36, hF⟩ := bind_some hF
  refine zD hO (zoJ h36) rfl fun _ σ _ _ hO h37 h38 => ?_
  have hL := hL.trans h37
  have r18 := r18.le h37
  obtain ⟨rfl, rfl⟩ := h38
  have hO : Obs _ _ [] := hO
  refine zc hO [] [(0, .slice A0 p0.length c0), (1, .int .u64 p1), (5, zqz x19), (9, .bool (!c35))] zqm fun j => ?_
  rcases zi hF with ⟨hb39, hF⟩ | ⟨hb39, hF⟩
  ·refine zk (congrArg Value.bool hb39) ?_
   refine zm (zcE (zt (zA (zc hO [] [(0, .slice A0 p0.length c0), (1, .int .u64 p1), (5, zqz (IntKind.i64.wrap (x19 + 1)))] zql fun j => ?_))))
   refine zg (zP (zj (zg (zj ?_))))
   exact ⟨n34, Nat.lt_succ_self _, (IntKind.i64.wrap (x19 + 1)), _, zqy zqk, hO, hL, r18, hF⟩
  ·refine zl (congrArg Value.bool hb39) ?_
   refine zU (zY (z0 (zj (zd hO 3 [] [(12, .slice A0 p0.length c0), (13, .int .u64 p1), (14, zqz x19)] zql fun j => ?_))))
   obtain ⟨c40, h41, hF⟩ := bind_some hF
   refine zD hO (zlH r18 h41) rfl fun _ σ _ _ hO h42 h43 => ?_
   have hL := hL.trans h42
   have r18 := r18.le h42
   obtain ⟨v44, o47, rfl, rfl, w48⟩ := h43
   obtain ⟨A45, c46, rfl, -⟩ := w48.form
   have hO : Obs _ _ [_] := hO
   refine zc hO [] [(4, .slice A45 c40.length c46)] zqj fun j => ?_
   refine zK ?_
   injection hF with hF
   subst hF
   exact hQ _ _ _ _ _ rfl hO hL ⟨_, _, rfl, rfl, w48⟩
theorem zpI {τ : Hp} {p0 : Int} {p1 : Int}  {rr : Bool} (hF : zgG p0 p1 = some rr) :
  Ctr Tryz.prog 99 #[.int .i64 p0, .int .i64 p1] τ [] (fun v τ' vs' => v = .bool rr ∧ vs' = []) := by
 refine zM (args := [.int .i64 p0, .int .i64 p1]) hm Tryz.func99 s99 rfl fun w0 σ hO Q hQ => ?_
 unfold zgG at hF
 have hL := Hp.le.refl τ
 show wpn _ _ a99.body _ _ _
 unfold a99
 dsimp only
 refine zc hO [] [(0, zqz p0), (1, zqz p1)] zqk fun j => ?_
 refine ze (zc hO [] [(0, zqz p0), (1, zqz p1), (8, .bool (decide ((IntKind.i64.wrap ((IntKind.i64.wrap (7 * p1)) - 1)) ≥ 63)))] zql fun j => ?_)
 rcases zi hF with ⟨hb3, hF⟩ | ⟨hb3, hF⟩
 ·refine zk (congrArg Value.bool hb3) ?_
  refine ze (zc hO [] [(4, .bool true)] zqj fun j => ?_)
  refine zu ?_
  injection hF with hF
  subst hF
  exact hQ _ _ _ _ _ rfl hO hL ⟨rfl, rfl⟩
 ·refine zl (congrArg Value.bool hb3) ?_
  refine zm (zd hO 5 [] [(0, zqz p0), (1, zqz p1), (9, zqz p0), (13, .int .u64 (IntKind.u64.wrap (IntKind.i64.wrap ((IntKind.i64.wrap (7 * p1)) - 1))))] zqm fun j => ?_)
  obtain ⟨y4, g5, hF⟩ := bind_some hF
  refine zde (zen g5) ?_
  refine zd hO 3 [] [(0, zqz p0), (1, zqz p1), (17, .bool (decide (p0 ≥ (IntKind.i64.wrap (0 - y4)))))] zql fun j => ?_
  obtain ⟨c6, h7, hF⟩ := bind_some hF
  refine zbK 2 [(25, .bool c6)] (fun Q hQ => ?_) fun j => ?_
  ·have hF := h7
   rcases zi hF with ⟨hb8, hF⟩ | ⟨hb8, hF⟩
   ·refine z7 (congrArg (fun x => isB (.bool x) true) hb8) ?_
    refine zd hO 5 [] [(17, .bool (decide (p0 ≥ (IntKind.i64.wrap (0 - y4))))), (18, zqz p0), (22, .int .u64 (IntKind.u64.wrap (IntKind.i64.wrap ((IntKind.i64.wrap (7 * p1)) - 1))))] zql fun j => ?_
    obtain ⟨y9, g10, hF⟩ := bind_some hF
    refine zde (zen g10) ?_
    refine zd hO 1 [] [(17, .bool (decide (p0 ≥ (IntKind.i64.wrap (0 - y4))))), (24, .bool (decide (p0 < y9)))] zqk fun j => ?_
    refine zJ (congrArg Value.bool hb8) ?_
    refine zh ?_
    injection hF with hF
    subst hF
    refine zg ?_
    exact hQ _ (zqy (trivial))
   ·refine z9 (congrArg (fun x => isB (.bool x) true) hb8) ?_
    refine zJ (congrArg Value.bool hb8) ?_
    refine zh ?_
    injection hF with hF
    subst hF
    refine zg ?_
    exact hQ _ (zqy (trivial))
  ·refine zc hO [] [(4, .bool c6)] zqj fun j => ?_
   refine zK ?_
   injection hF with hF
   subst hF
   exact hQ _ _ _ _ _ rfl hO hL ⟨rfl, rfl⟩
theorem zp8 {τ : Hp} {v0 : Value} {p0 : (List UInt8)} {p1 : Int} (r0 : RdT Ty.u8 τ v0 p0) {rr : (List UInt8)} (hF : zhE p0 p1 = some rr) :
  Ctr Tryz.prog 83 #[v0, .int .i64 p1] τ [] (fun v τ' vs' => ∃ (v0 : Value) (o0 : Ob), v = v0 ∧ vs' = [o0] ∧ zr Ty.u8 5 τ' v0 rr o0) := by
 obtain ⟨A0, c0, rfl, -⟩ := r0.form
 refine zM (args := [.slice A0 p0.length c0, .int .i64 p1]) hm Tryz.func83 s83 rfl fun w0 σ hO Q hQ => ?_
 unfold zhE at hF
 have hL := Hp.le.refl τ
 show wpn _ _ a83.body _ _ _
 unfold a83
 dsimp only
 refine zc hO [] [(0, .slice A0 p0.length c0), (1, zqz p1)] zqk fun j => ?_
 refine zc hO [] [(0, .slice A0 p0.length c0), (1, zqz p1), (5, zqz 1)] zql fun j => ?_
 refine zt (zZ (fun (n : Nat) e' σ' => ∃ (x19 : Int) (τ' : Hp), agr [(0, .slice A0 p0.length c0), (1, zqz p1), (5, zqz x19)] e' ∧ Obs τ' σ' [] ∧ Hp.le τ τ' ∧ RdT Ty.u8 τ' (.slice A0 p0.length c0) p0 ∧ zfx p0 p1 n x19 = some rr) big ⟨1, _, zqy zqk, hO, hL, r0, hF⟩ ?_)
 clear hF hO hL
 rintro n34 e σ ⟨x19, _, hA, hO, hL, r18, hF⟩
 rw [← zL _ _ hA]
 cases n34 with
 | zero => exact nomatch (show none = some rr from hF)
 | succ n34 =>
  replace hF : zfo (zfx p0 p1 n34) p0 p1 x19 = some rr := hF
  unfold zfo at hF
  refine ze (zd hO 2 [] [(0, .slice A0 p0.length c0), (1, zqz p1), (5, zqz x19), (6, zqz p1), (7, zqz x19)] zqn fun j => ?_)
  obtain ⟨c35, h36, hF⟩ := bind_some hF
  refine zD hO (zpI h36) rfl fun _ σ _ _ hO h37 h38 => ?_
  have hL := hL.trans h37
  have r18 := r18.le h37
  obtain ⟨rfl, rfl⟩ := h38
  have hO : Obs _ _ [] := hO
  refine zc hO [] [(0, .slice A0 p0.length c0), (1, zqz p1), (5, zqz x19), (9, .bool (!c35))] zqm fun j => ?_
  rcases zi hF with ⟨hb39, hF⟩ | ⟨hb39, hF⟩
  ·refine zk (congrArg Value.bool hb39) ?_
   refine zm (zcE (zt (zA (zc hO [] [(0, .slice A0 p0.length c0), (1, zqz p1), (5, zqz (IntKind.i64.wrap (x19 + 1)))] zql fun j => ?_))))
   refine zg (zP (zj (zg (zj ?_))))
   exact ⟨n34, Nat.lt_succ_self _, (IntKind.i64.wrap (x19 + 1)), _, zqy zqk, hO, hL, r18, hF⟩
  ·refine zl (congrArg Value.bool hb39) ?_
   refine zU (zY (z0 (zj (zd hO 6 [] [(12, .slice A0 p0.length c0), (14, .int .u64 (IntKind.u64.wrap p1)), (16, .bool (decide (p1 < 0))), (17, zqz x19)] zqm fun j => ?_))))
   obtain ⟨c40, h41, hF⟩ := bind_some hF
   refine zD hO (zlH r18 h41) rfl fun _ σ _ _ hO h42 h43 => ?_
   have hL := hL.trans h42
   have r18 := r18.le h42
   obtain ⟨v44, o47, rfl, rfl, w48⟩ := h43
   obtain ⟨A45, c46, rfl, -⟩ := w48.form
   have hO : Obs _ _ [_] := hO
   refine zc hO [] [(4, .slice A45 c40.length c46)] zqj fun j => ?_
   refine zK ?_
   injection hF with hF
   subst hF
   exact hQ _ _ _ _ _ rfl hO hL ⟨_, _, rfl, rfl, w48⟩
end Go.Proofs.YtckcngkkofemjaaGreat
