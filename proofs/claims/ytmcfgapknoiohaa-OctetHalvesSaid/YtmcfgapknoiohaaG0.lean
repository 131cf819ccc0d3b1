import Derived.Test.YtmcfgapknoiohaaF
import Derived.Test.YtmcfgapknoiohaaAc0
import Derived.Test.YtmcfgapknoiohaaM00
import Derived.Test.YtmcfgapknoiohaaM02
namespace Go.Proofs.Ytmcfgapknoiohaa
open Go.Ab Go.RowKit
set_option linter.unusedVariables false
set_option linter.unusedSimpArgs false
set_option maxRecDepth 10000

/-! slices.Clone[[]byte,byte] -/
theorem w_slices_Clone_Sbyte_byte {τ : Hp} {v0 : Value} {p0 : (List UInt8)} (r0 : RdT Ty.u8 τ v0 p0) {rr : (List UInt8)} (hF : F_slices_Clone_Sbyte_byte p0 = some rr) :
    Ctr Try.prog 45 #[v0] τ [] (fun v τ' vs' => ∃ (v0 : Value) (o0 : Ob), v = v0 ∧ vs' = [o0] ∧ OwnO Ty.u8 5 τ' v0 rr o0) := by
  obtain ⟨A0, c0, rfl, -⟩ := r0.form
  refine ctr_of (args := [.slice A0 p0.length c0]) hm Try.func45 s45 rfl fun w0 σ hO Q hQ => ?_
  unfold F_slices_Clone_Sbyte_byte at hF
  obtain ⟨_, hr, hF⟩ := bind_some hF
  injection hF with hF
  subst hF
  have hL := Hp.le.refl τ
  show wpn _ _ a45.body _ _ _
  unfold a45
  dsimp only
  refine wpn_qa hO [] [(0, .slice A0 p0.length c0)] (And.intro rfl trivial) fun j => ?_
  refine wpn_assoc ?_
  refine wpn_qa hO [] [(0, .slice A0 p0.length c0), (4, .bool A0.isNone)] (And.intro rfl (And.intro rfl trivial)) fun j => ?_
  rcases (Bool.eq_false_or_eq_true A0.isNone).symm with hA | hA
  · refine wpn_cF (congrArg Value.bool hA) ?_
    refine wpn_sk ?_
    refine wpn_lit (T := Ty.u8) (l := []) (cs := []) hO rfl rfl rfl (by decide) fun _ σ o1 w1 hO => ?_
    obtain ⟨A1, c1, rfl, -⟩ := w1.form
    refine wpn_q hO 1 [] [(5, .slice A1 0 c1), (6, .slice A0 p0.length c0)] (And.intro rfl (And.intro rfl trivial)) fun j => ?_
    refine wpn_apl (T := Ty.u8) hO w1 (i := 0) rfl rfl rfl r0 (by simpa using hr) (by decide) fun _ σ o2 w2 hO => ?_
    refine wpn_qa hO [] [(2, _)] (And.intro rfl trivial) fun j => ?_
    refine wpn_r1 ?_
    exact hQ _ _ _ _ _ rfl hO hL ⟨_, _, rfl, rfl, w2⟩
  · refine wpn_cT (congrArg Value.bool hA) ?_
    have := r0.empty (by decide) hA
    subst this
    refine wpn_assoc ?_
    refine wpn_qa hO [] [(2, .slice none 0 0)] (And.intro rfl trivial) fun j => ?_
    refine wpn_rt ?_
    have hO := hO.no
    exact hQ _ _ _ _ _ rfl hO hL ⟨_, _, rfl, rfl, OwnO.nil _ _ _⟩

/-! theodolite/leb.digits -/
theorem w_leb_digits {τ : Hp} {v0 : Value} {p0 : (List UInt8)} (r0 : RdT Ty.u8 τ v0 p0) {rr : Int × Int} (hF : F_leb_digits p0 = some rr) :
    Ctr Try.prog 60 #[v0] τ [] (fun v τ' vs' => v = .tuple #[.int .u64 rr.1, .int .i64 rr.2] ∧ vs' = []) := by
  obtain ⟨A0, c0, rfl, -⟩ := r0.form
  refine ctr_of (args := [.slice A0 p0.length c0]) hm Try.func60 s60 rfl fun w0 σ hO Q hQ => ?_
  unfold F_leb_digits at hF
  have hL := Hp.le.refl τ
  show wpn _ _ a60.body _ _ _
  unfold a60
  dsimp only
  refine wpn_qa hO [] [(0, .slice A0 p0.length c0), (2, .int .u64 0)] (And.intro rfl (And.intro rfl trivial)) fun j => ?_
  refine wpn_assoc ?_
  refine wpn_qa hO [] [(0, .slice A0 p0.length c0), (2, .int .u64 0), (7, .int .i64 (minI (p0.length : Int) 10)), (8, .int .i64 0)] (And.intro rfl (And.intro rfl (And.intro rfl (And.intro rfl trivial)))) fun j => ?_
  refine wpn_bl ?_
  refine wpn_lp (fun (n : Nat) e' σ' => ∃ (x17 : Int) (x18 : Int) (τ' : Hp), agr [(0, .slice A0 p0.length c0), (2, .int .u64 x17), (7, .int .i64 (minI (p0.length : Int) 10)), (8, .int .i64 x18)] e' ∧ Obs τ' σ' [] ∧ Hp.le τ τ' ∧ RdT Ty.u8 τ' (.slice A0 p0.length c0) p0 ∧ F_leb_digits_l3 p0 n x17 x18 = some rr) big ⟨0, 0, _, And.intro rfl (And.intro rfl (And.intro rfl (And.intro rfl trivial))), hO, hL, r0, hF⟩ ?_
  clear hF hO hL
  rintro n33 e σ ⟨x17, x18, _, hA, hO, hL, r16, hF⟩
  rw [← sets_agr _ _ hA]
  cases n33 with
  | zero => exact nomatch (show none = some rr from hF)
  | succ n33 =>
    replace hF : F_leb_digits_l3B (F_leb_digits_l3 p0 n33) p0 x17 x18 = some rr := hF
    unfold F_leb_digits_l3B at hF
    refine wpn_qa hO [] [(0, .slice A0 p0.length c0), (2, .int .u64 x17), (7, .int .i64 (minI (p0.length : Int) 10)), (8, .int .i64 x18), (9, .bool (decide (x18 < (minI (p0.length : Int) 10))))] (And.intro rfl (And.intro rfl (And.intro rfl (And.intro rfl (And.intro rfl trivial))))) fun j => ?_
    rcases ite_some hF with ⟨hb34, hF⟩ | ⟨hb34, hF⟩
    · refine wpn_cT (congrArg Value.bool hb34) ?_
      refine wpn_sk ?_
      refine wpn_bl ?_
      refine wpn_qa hO [] [(0, .slice A0 p0.length c0), (2, .int .u64 x17), (4, .int .i64 x18), (7, .int .i64 (minI (p0.length : Int) 10)), (8, .int .i64 x18)] (And.intro rfl (And.intro rfl (And.intro rfl (And.intro rfl (And.intro rfl trivial))))) fun j => ?_
      refine wpn_q hO 3 [] [(0, .slice A0 p0.length c0), (4, .int .i64 x18), (7, .int .i64 (minI (p0.length : Int) 10)), (8, .int .i64 x18), (11, .int .u64 x17), (12, .slice A0 p0.length c0), (13, .int .i64 x18)] (And.intro rfl (And.intro rfl (And.intro rfl (And.intro rfl (And.intro rfl (And.intro rfl (And.intro rfl trivial))))))) fun j => ?_
      obtain ⟨y35, g36, hF⟩ := bind_some hF
      refine wpn_idx (T := Ty.u8) r16 hO.base rfl rfl g36 (by decide) fun a37 _ k38 m39 => ?_
      obtain rfl : _ = ([.int .u8 y35.toNat] : List Value) := k38
      refine wpn_ld rfl m39.fst ?_
      refine wpn_q hO 4 [] [(0, .slice A0 p0.length c0), (4, .int .i64 x18), (7, .int .i64 (minI (p0.length : Int) 10)), (8, .int .i64 x18), (11, .int .u64 x17), (17, .int .u64 (IntKind.u64.wrap (andI .u8 (y35.toNat : Int) 127))), (19, .int .i64 (IntKind.i64.wrap (7 * x18)))] (And.intro rfl (And.intro rfl (And.intro rfl (And.intro rfl (And.intro rfl (And.intro rfl (And.intro rfl trivial))))))) fun j => ?_
      obtain ⟨y40, g41, hF⟩ := bind_some hF
      refine wpn_bn (shlO_bin g41) ?_
      refine wpn_qa hO [] [(0, .slice A0 p0.length c0), (2, .int .u64 (orI .u64 x17 y40)), (4, .int .i64 x18), (7, .int .i64 (minI (p0.length : Int) 10)), (8, .int .i64 x18)] (And.intro rfl (And.intro rfl (And.intro rfl (And.intro rfl (And.intro rfl trivial))))) fun j => ?_
      refine wpn_q hO 2 [] [(0, .slice A0 p0.length c0), (2, .int .u64 (orI .u64 x17 y40)), (4, .int .i64 x18), (7, .int .i64 (minI (p0.length : Int) 10)), (8, .int .i64 x18), (22, .slice A0 p0.length c0), (23, .int .i64 x18)] (And.intro rfl (And.intro rfl (And.intro rfl (And.intro rfl (And.intro rfl (And.intro rfl (And.intro rfl trivial))))))) fun j => ?_
      obtain ⟨y42, g43, hF⟩ := bind_some hF
      refine wpn_idx (T := Ty.u8) r16 hO.base rfl rfl g43 (by decide) fun a44 _ k45 m46 => ?_
      obtain rfl : _ = ([.int .u8 y42.toNat] : List Value) := k45
      refine wpn_ld rfl m46.fst ?_
      refine wpn_qa hO [] [(0, .slice A0 p0.length c0), (2, .int .u64 (orI .u64 x17 y40)), (4, .int .i64 x18), (7, .int .i64 (minI (p0.length : Int) 10)), (8, .int .i64 x18), (26, .bool (decide ((y42.toNat : Int) < 128)))] (And.intro rfl (And.intro rfl (And.intro rfl (And.intro rfl (And.intro rfl (And.intro rfl trivial)))))) fun j => ?_
      refine wpn_clast ?_
      rcases ite_some hF with ⟨hb47, hF⟩ | ⟨hb47, hF⟩
      · refine wpn_cT (congrArg Value.bool hb47) ?_
        refine wpn_assoc ?_
        refine wpn_qa hO [] [(2, .int .u64 (orI .u64 x17 y40)), (3, .int .i64 (IntKind.i64.wrap (x18 + 1)))] (And.intro rfl (And.intro rfl trivial)) fun j => ?_
        refine wpn_rt ?_
        refine inb_r1 ?_
        refine thn_r1 ?_
        refine thn_r1 ?_
        refine inb_r1 ?_
        refine thn_r1 ?_
        injection hF with hF
        subst hF
        exact hQ _ _ _ _ _ rfl hO hL ⟨rfl, rfl⟩
      · refine wpn_cF (congrArg Value.bool hb47) ?_
        refine wpn_sk ?_
        refine wpn_end ?_
        refine inb_i ?_
        refine thn_i ?_
        refine wpn_rlast ?_
        refine wpn_qa hO [] [(0, .slice A0 p0.length c0), (2, .int .u64 (orI .u64 x17 y40)), (7, .int .i64 (minI (p0.length : Int) 10)), (8, .int .i64 (IntKind.i64.wrap (x18 + 1)))] (And.intro rfl (And.intro rfl (And.intro rfl (And.intro rfl trivial)))) fun j => ?_
        refine wpn_end ?_
        refine thn_i ?_
        exact ⟨n33, Nat.lt_succ_self _, (orI .u64 x17 y40), (IntKind.i64.wrap (x18 + 1)), _, And.intro rfl (And.intro rfl (And.intro rfl (And.intro rfl trivial))), hO, hL, r16, hF⟩
    · refine wpn_cF (congrArg Value.bool hb34) ?_
      refine wpn_ex ?_
      refine thn_x ?_
      refine inb_x ?_
      refine thn_i ?_
      refine wpn_qa hO [] [(2, .int .u64 0), (3, .int .i64 0)] (And.intro rfl (And.intro rfl trivial)) fun j => ?_
      refine wpn_r1 ?_
      injection hF with hF
      subst hF
      exact hQ _ _ _ _ _ rfl hO hL ⟨rfl, rfl⟩

/-! slices.Equal[[]byte,byte] -/
theorem w_slices_Equal_Sbyte_byte {τ : Hp} {v0 : Value} {p0 : (List UInt8)} {v1 : Value} {p1 : (List UInt8)} (r0 : RdT Ty.u8 τ v0 p0) (r1 : RdT Ty.u8 τ v1 p1) {rr : Bool} (hF : F_slices_Equal_Sbyte_byte p0 p1 = some rr) :
    Ctr Try.prog 61 #[v0, v1] τ [] (fun v τ' vs' => v = .bool rr ∧ vs' = []) := by
  obtain ⟨A0, c0, rfl, -⟩ := r0.form
  obtain ⟨A1, c1, rfl, -⟩ := r1.form
  refine ctr_of (args := [.slice A0 p0.length c0, .slice A1 p1.length c1]) hm Try.func61 s61 rfl fun w0 σ hO Q hQ => ?_
  unfold F_slices_Equal_Sbyte_byte at hF
  have hL := Hp.le.refl τ
  show wpn _ _ a61.body _ _ _
  unfold a61
  dsimp only
  refine wpn_qa hO [] [(0, .slice A0 p0.length c0), (1, .slice A1 p1.length c1)] (And.intro rfl (And.intro rfl trivial)) fun j => ?_
  refine wpn_assoc ?_
  refine wpn_qa hO [] [(0, .slice A0 p0.length c0), (1, .slice A1 p1.length c1), (10, .bool ((p0.length : Int) != (p1.length : Int)))] (And.intro rfl (And.intro rfl (And.intro rfl trivial))) fun j => ?_
  rcases ite_some hF with ⟨hb1, hF⟩ | ⟨hb1, hF⟩
  · refine wpn_cT (congrArg Value.bool hb1) ?_
    refine wpn_assoc ?_
    refine wpn_qa hO [] [(4, .bool false)] (And.intro rfl trivial) fun j => ?_
    refine wpn_rt ?_
    injection hF with hF
    subst hF
    exact hQ _ _ _ _ _ rfl hO hL ⟨rfl, rfl⟩
  · refine wpn_cF (congrArg Value.bool hb1) ?_
    refine wpn_sk ?_
    refine wpn_assoc ?_
    refine wpn_qa hO [] [(0, .slice A0 p0.length c0), (1, .slice A1 p1.length c1), (12, .int .i64 (p0.length : Int)), (13, .int .i64 0)] (And.intro rfl (And.intro rfl (And.intro rfl (And.intro rfl trivial)))) fun j => ?_
    refine wpn_bl ?_
    refine wpn_lp (fun (n : Nat) e' σ' => ∃ (x18 : Int) (τ' : Hp), agr [(0, .slice A0 p0.length c0), (1, .slice A1 p1.length c1), (12, .int .i64 (p0.length : Int)), (13, .int .i64 x18)] e' ∧ Obs τ' σ' [] ∧ Hp.le τ τ' ∧ RdT Ty.u8 τ' (.slice A0 p0.length c0) p0 ∧ RdT Ty.u8 τ' (.slice A1 p1.length c1) p1 ∧ F_slices_Equal_Sbyte_byte_l3 p0 p1 n x18 = some rr) big ⟨0, _, And.intro rfl (And.intro rfl (And.intro rfl (And.intro rfl trivial))), hO, hL, r0, r1, hF⟩ ?_
    clear hF hO hL
    rintro n31 e σ ⟨x18, _, hA, hO, hL, r16, r17, hF⟩
    rw [← sets_agr _ _ hA]
    cases n31 with
    | zero => exact nomatch (show none = some rr from hF)
    | succ n31 =>
      replace hF : F_slices_Equal_Sbyte_byte_l3B (F_slices_Equal_Sbyte_byte_l3 p0 p1 n31) p0 p1 x18 = some rr := hF
      unfold F_slices_Equal_Sbyte_byte_l3B at hF
      refine wpn_qa hO [] [(0, .slice A0 p0.length c0), (1, .slice A1 p1.length c1), (12, .int .i64 (p0.length : Int)), (13, .int .i64 x18), (14, .bool (decide (x18 < (p0.length : Int))))] (And.intro rfl (And.intro rfl (And.intro rfl (And.intro rfl (And.intro rfl trivial))))) fun j => ?_
      rcases ite_some hF with ⟨hb32, hF⟩ | ⟨hb32, hF⟩
      · refine wpn_cT (congrArg Value.bool hb32) ?_
        refine wpn_sk ?_
        refine wpn_bl ?_
        refine wpn_qa hO [] [(0, .slice A0 p0.length c0), (1, .slice A1 p1.length c1), (5, .int .i64 x18), (12, .int .i64 (p0.length : Int)), (13, .int .i64 x18)] (And.intro rfl (And.intro rfl (And.intro rfl (And.intro rfl (And.intro rfl trivial))))) fun j => ?_
        refine wpn_p2r ?_
        refine wpn_q hO 2 [] [(0, .slice A0 p0.length c0), (1, .slice A1 p1.length c1), (5, .int .i64 x18), (12, .int .i64 (p0.length : Int)), (13, .int .i64 x18), (16, .slice A0 p0.length c0), (17, .int .i64 x18)] (And.intro rfl (And.intro rfl (And.intro rfl (And.intro rfl (And.intro rfl (And.intro rfl (And.intro rfl trivial))))))) fun j => ?_
        obtain ⟨y33, g34, hF⟩ := bind_some hF
        refine wpn_idx (T := Ty.u8) r16 hO.base rfl rfl g34 (by decide) fun a35 _ k36 m37 => ?_
        obtain rfl : _ = ([.int .u8 y33.toNat] : List Value) := k36
        refine wpn_ld rfl m37.fst ?_
        refine wpn_q hO 2 [] [(0, .slice A0 p0.length c0), (1, .slice A1 p1.length c1), (12, .int .i64 (p0.length : Int)), (13, .int .i64 x18), (19, .int .u8 (y33.toNat : Int)), (20, .slice A1 p1.length c1), (21, .int .i64 x18)] (And.intro rfl (And.intro rfl (And.intro rfl (And.intro rfl (And.intro rfl (And.intro rfl (And.intro rfl trivial))))))) fun j => ?_
        obtain ⟨y38, g39, hF⟩ := bind_some hF
        refine wpn_idx (T := Ty.u8) r17 hO.base rfl rfl g39 (by decide) fun a40 _ k41 m42 => ?_
        obtain rfl : _ = ([.int .u8 y38.toNat] : List Value) := k41
        refine wpn_ld rfl m42.fst ?_
        refine wpn_qa hO [] [(0, .slice A0 p0.length c0), (1, .slice A1 p1.length c1), (12, .int .i64 (p0.length : Int)), (13, .int .i64 x18), (24, .bool ((y33.toNat : Int) != (y38.toNat : Int)))] (And.intro rfl (And.intro rfl (And.intro rfl (And.intro rfl (And.intro rfl trivial))))) fun j => ?_
        refine wpn_clast ?_
        rcases ite_some hF with ⟨hb43, hF⟩ | ⟨hb43, hF⟩
        · refine wpn_cT (congrArg Value.bool hb43) ?_
          refine wpn_assoc ?_
          refine wpn_qa hO [] [(4, .bool false)] (And.intro rfl trivial) fun j => ?_
          refine wpn_rt ?_
          refine inb_r1 ?_
          refine thn_r1 ?_
          refine thn_r1 ?_
          refine inb_r1 ?_
          refine thn_r1 ?_
          injection hF with hF
          subst hF
          exact hQ _ _ _ _ _ rfl hO hL ⟨rfl, rfl⟩
        · refine wpn_cF (congrArg Value.bool hb43) ?_
          refine wpn_sk ?_
          refine wpn_end ?_
          refine inb_i ?_
          refine thn_i ?_
          refine wpn_rlast ?_
          refine wpn_qa hO [] [(0, .slice A0 p0.length c0), (1, .slice A1 p1.length c1), (12, .int .i64 (p0.length : Int)), (13, .int .i64 (IntKind.i64.wrap (x18 + 1)))] (And.intro rfl (And.intro rfl (And.intro rfl (And.intro rfl trivial)))) fun j => ?_
          refine wpn_end ?_
          refine thn_i ?_
          exact ⟨n31, Nat.lt_succ_self _, (IntKind.i64.wrap (x18 + 1)), _, And.intro rfl (And.intro rfl (And.intro rfl (And.intro rfl trivial))), hO, hL, r16, r17, hF⟩
      · refine wpn_cF (congrArg Value.bool hb32) ?_
        refine wpn_ex ?_
        refine thn_x ?_
        refine inb_x ?_
        refine thn_i ?_
        refine wpn_qa hO [] [(4, .bool true)] (And.intro rfl trivial) fun j => ?_
        refine wpn_r1 ?_
        injection hF with hF
        subst hF
        exact hQ _ _ _ _ _ rfl hO hL ⟨rfl, rfl⟩

/-! theodolite/leb.U$1 -/
theorem w_leb_U_1 {τ : Hp} {p0 : Int} {p1 : Int}  {rr : Int} (hF : F_leb_U_1 p0 p1 = some rr) :
    Ctr Try.prog 51 #[.int .u64 p0, .int .i64 p1] τ [] (fun v τ' vs' => v = .int .u64 rr ∧ vs' = []) := by
  refine ctr_of (args := [.int .u64 p0, .int .i64 p1]) hm Try.func51 s51 rfl fun w0 σ hO Q hQ => ?_
  unfold F_leb_U_1 at hF
  have hL := Hp.le.refl τ
  show wpn _ _ a51.body _ _ _
  unfold a51
  dsimp only
  refine wpn_qa hO [] [(0, .int .u64 p0)] (And.intro rfl trivial) fun j => ?_
  refine wpn_qa hO [] [(4, .int .u64 p0)] (And.intro rfl trivial) fun j => ?_
  refine wpn_r1 ?_
  injection hF with hF
  subst hF
  exact hQ _ _ _ _ _ rfl hO hL ⟨rfl, rfl⟩

/-! theodolite/leb.S$1 -/
theorem w_leb_S_1 {τ : Hp} {p0 : Int} {p1 : Int}  {rr : Int} (hF : F_leb_S_1 p0 p1 = some rr) :
    Ctr Try.prog 56 #[.int .u64 p0, .int .i64 p1] τ [] (fun v τ' vs' => v = .int .i64 rr ∧ vs' = []) := by
  refine ctr_of (args := [.int .u64 p0, .int .i64 p1]) hm Try.func56 s56 rfl fun w0 σ hO Q hQ => ?_
  unfold F_leb_S_1 at hF
  have hL := Hp.le.refl τ
  show wpn _ _ a56.body _ _ _
  unfold a56
  dsimp only
  refine wpn_qa hO [] [(0, .int .u64 p0), (1, .int .i64 p1)] (And.intro rfl (And.intro rfl trivial)) fun j => ?_
  refine wpn_qa hO [] [(0, .int .u64 p0), (5, .int .i64 (maxI 0 (IntKind.i64.wrap (64 - (IntKind.i64.wrap (7 * p1))))))] (And.intro rfl (And.intro rfl trivial)) fun j => ?_
  refine wpn_q hO 2 [] [(5, .int .i64 (maxI 0 (IntKind.i64.wrap (64 - (IntKind.i64.wrap (7 * p1)))))), (10, .int .u64 p0), (11, .int .i64 (maxI 0 (IntKind.i64.wrap (64 - (IntKind.i64.wrap (7 * p1))))))] (And.intro rfl (And.intro rfl (And.intro rfl trivial))) fun j => ?_
  obtain ⟨y1, g2, hF⟩ := bind_some hF
  refine wpn_bn (shlO_bin g2) ?_
  refine wpn_q hO 2 [] [(13, .int .i64 (IntKind.i64.wrap y1)), (14, .int .i64 (maxI 0 (IntKind.i64.wrap (64 - (IntKind.i64.wrap (7 * p1))))))] (And.intro rfl (And.intro rfl trivial)) fun j => ?_
  obtain ⟨y3, g4, hF⟩ := bind_some hF
  refine wpn_bn (shrO_bin g4) ?_
  refine wpn_qa hO [] [(4, .int .i64 y3)] (And.intro rfl trivial) fun j => ?_
  refine wpn_r1 ?_
  injection hF with hF
  subst hF
  exact hQ _ _ _ _ _ rfl hO hL ⟨rfl, rfl⟩

/-! theodolite/theodolitelaw02.works -/
theorem w_law02_works {τ : Hp}   {rr : Bool} (hF : F_law02_works  = some rr) :
    Ctr Try.prog 13 #[] τ [] (fun v τ' vs' => v = .bool rr ∧ vs' = []) := by
  refine ctr_of (args := []) hm Try.func13 s13 rfl fun w0 σ hO Q hQ => ?_
  unfold F_law02_works at hF
  have hL := Hp.le.refl τ
  show wpn _ _ a13.body _ _ _
  unfold a13
  dsimp only
  refine wpn_qa hO [] [] (trivial) fun j => ?_
  obtain ⟨c1, h2, hF⟩ := bind_some hF
  refine wpn_c0 hO (w_leb_PutU (RdT.nil Ty.u8 _) h2) rfl fun _ σ _ _ hO h3 h4 => ?_
  have hL := hL.trans h3
  obtain ⟨v5, o8, rfl, rfl, w9⟩ := h4
  obtain ⟨A6, c7, rfl, -⟩ := w9.form
  have hO : Obs _ _ [_] := hO
  obtain ⟨_, h11, r10, hO⟩ := w9.share hO (i := 0) rfl
  have hL := hL.trans h11
  have hO : Obs _ _ [_] := hO
  obtain ⟨c12, h13, hF⟩ := bind_some hF
  refine wpn_c0 hO (w_leb_PutS r10 h13) rfl fun _ σ _ _ hO h14 h15 => ?_
  have hL := hL.trans h14
  have r10 := r10.le h14
  obtain ⟨v16, o19, rfl, rfl, w20⟩ := h15
  obtain ⟨A17, c18, rfl, -⟩ := w20.form
  have hO : Obs _ _ [_, _] := hO
  refine wpn_qa hO [] [(1, .slice A17 c12.length c18)] (And.intro rfl trivial) fun j => ?_
  refine wpn_q hO 1 [] [(1, .slice A17 c12.length c18), (11, .slice A17 c12.length c18)] (And.intro rfl (And.intro rfl trivial)) fun j => ?_
  obtain ⟨_, h22, r21, hO⟩ := w20.share hO (i := 1) rfl
  have hL := hL.trans h22
  have hO : Obs _ _ [_, _] := hO
  obtain ⟨c23, h24, hF⟩ := bind_some hF
  refine wpn_c0 hO (w_leb_U r21 h24) rfl fun _ σ _ _ hO h25 h26 => ?_
  have hL := hL.trans h25
  have r21 := r21.le h25
  obtain ⟨rfl, rfl⟩ := h26
  have hO : Obs _ _ [_, _] := hO
  refine wpn_qa hO [] [(1, .slice A17 c12.length c18), (2, .int .u64 c23.1), (3, .int .i64 c23.2.1), (4, .int .i64 c23.2.2)] (And.intro rfl (And.intro rfl (And.intro rfl (And.intro rfl trivial)))) fun j => ?_
  refine wpn_q hO 1 [] [(1, .slice A17 c12.length c18), (2, .int .u64 c23.1), (3, .int .i64 c23.2.1), (4, .int .i64 c23.2.2), (17, .slice A17 c12.length c18)] (And.intro rfl (And.intro rfl (And.intro rfl (And.intro rfl (And.intro rfl trivial))))) fun j => ?_
  obtain ⟨c27, h28, hF⟩ := bind_some hF
  refine wpn_c0 hO (w_leb_S r21 h28) rfl fun _ σ _ _ hO h29 h30 => ?_
  have hL := hL.trans h29
  have r21 := r21.le h29
  obtain ⟨rfl, rfl⟩ := h30
  have hO : Obs _ _ [_, _] := hO
  refine wpn_qa hO [] [(1, .slice A17 c12.length c18), (2, .int .u64 c23.1), (3, .int .i64 c23.2.1), (4, .int .i64 c23.2.2), (5, .int .i64 c27.1), (6, .int .i64 c27.2.1), (7, .int .i64 c27.2.2)] (And.intro rfl (And.intro rfl (And.intro rfl (And.intro rfl (And.intro rfl (And.intro rfl (And.intro rfl trivial))))))) fun j => ?_
  refine wpn_qa hO [] [(0, .bool ((((((((c12.length : Int) == 4) && (c23.1 == 300)) && (c23.2.1 == 2)) && (c23.2.2 == 0)) && (c27.1 == (-65))) && (c27.2.1 == 4)) && (c27.2.2 == 0)))] (And.intro (And.intro rfl rfl) (fun _ => And.intro (And.intro rfl rfl) (fun _ => And.intro (And.intro rfl rfl) (fun _ => And.intro (And.intro rfl rfl) (fun _ => And.intro (And.intro rfl rfl) (fun _ => And.intro (And.intro rfl rfl) (fun _ => And.intro rfl trivial))))))) fun j => ?_
  refine wpn_r1 ?_
  injection hF with hF
  subst hF
  have hO := hO.sel [] (by decide)
  exact hQ _ _ _ _ _ rfl hO hL ⟨rfl, rfl⟩

/-! theodolite/theodoliteref02.fitsU -/
theorem w_ref02_fitsU {τ : Hp} {p0 : Int} {p1 : Int}  {rr : Bool} (hF : F_ref02_fitsU p0 p1 = some rr) :
    Ctr Try.prog 46 #[.int .u64 p0, .int .i64 p1] τ [] (fun v τ' vs' => v = .bool rr ∧ vs' = []) := by
  refine ctr_of (args := [.int .u64 p0, .int .i64 p1]) hm Try.func46 s46 rfl fun w0 σ hO Q hQ => ?_
  unfold F_ref02_fitsU at hF
  have hL := Hp.le.refl τ
  show wpn _ _ a46.body _ _ _
  unfold a46
  dsimp only
  refine wpn_qa hO [] [(0, .int .u64 p0), (1, .int .i64 p1)] (And.intro rfl (And.intro rfl trivial)) fun j => ?_
  refine wpn_q hO 4 [] [(0, .int .u64 p0), (1, .int .i64 p1), (8, .bool (decide ((IntKind.i64.wrap (7 * p1)) ≥ 64)))] (And.intro rfl (And.intro rfl (And.intro rfl trivial))) fun j => ?_
  obtain ⟨c1, h2, hF⟩ := bind_some hF
  refine wpn_midq 2 [(15, .bool c1)] (fun Q hQ => ?_) fun j => ?_
  · have hF := h2
    rcases ite_some hF with ⟨hb3, hF⟩ | ⟨hb3, hF⟩
    · refine wpn_gF (congrArg (fun x => isB (.bool x) false) hb3) ?_
      refine wpn_pk (congrArg Value.bool hb3) ?_
      refine wpn_nil ?_
      injection hF with hF
      subst hF
      refine wpn_end ?_
      exact hQ _ (And.intro rfl (trivial))
    · refine wpn_gT (congrArg (fun x => isB (.bool x) false) hb3) ?_
      refine wpn_q hO 4 [] [(8, .bool (decide ((IntKind.i64.wrap (7 * p1)) ≥ 64))), (9, .int .u64 p0), (12, .int .u64 (IntKind.u64.wrap (IntKind.i64.wrap (7 * p1))))] (And.intro rfl (And.intro rfl (And.intro rfl trivial))) fun j => ?_
      obtain ⟨y4, g5, hF⟩ := bind_some hF
      refine wpn_bn (shlO_bin g5) ?_
      refine wpn_q hO 1 [] [(8, .bool (decide ((IntKind.i64.wrap (7 * p1)) ≥ 64))), (14, .bool (decide (p0 < y4)))] (And.intro rfl (And.intro rfl trivial)) fun j => ?_
      refine wpn_pk (congrArg Value.bool hb3) ?_
      refine wpn_nil ?_
      injection hF with hF
      subst hF
      refine wpn_end ?_
      exact hQ _ (And.intro rfl (trivial))
  · refine wpn_qa hO [] [(4, .bool c1)] (And.intro rfl trivial) fun j => ?_
    refine wpn_r1 ?_
    injection hF with hF
    subst hF
    exact hQ _ _ _ _ _ rfl hO hL ⟨rfl, rfl⟩

/-! theodolite/theodoliteref00.CopyBytes -/
theorem w_ref00_CopyBytes {τ : Hp} {v0 : Value} {p0 : (List UInt8)} (r0 : RdT Ty.u8 τ v0 p0) {rr : (List UInt8)} (hF : F_ref00_CopyBytes p0 = some rr) :
    Ctr Try.prog 26 #[v0] τ [] (fun v τ' vs' => ∃ (v0 : Value) (o0 : Ob), v = v0 ∧ vs' = [o0] ∧ OwnO Ty.u8 5 τ' v0 rr o0) := by
  obtain ⟨A0, c0, rfl, -⟩ := r0.form
  refine ctr_of (args := [.slice A0 p0.length c0]) hm Try.func26 s26 rfl fun w0 σ hO Q hQ => ?_
  unfold F_ref00_CopyBytes at hF
  have hL := Hp.le.refl τ
  show wpn _ _ a26.body _ _ _
  unfold a26
  dsimp only
  refine wpn_qa hO [] [(0, .slice A0 p0.length c0)] (And.intro rfl trivial) fun j => ?_
  refine wpn_qa hO [] [(0, .slice A0 p0.length c0), (3, .slice none 0 0)] (And.intro rfl (And.intro rfl trivial)) fun j => ?_
  refine wpn_assoc ?_
  refine wpn_qa hO [] [(3, .slice none 0 0), (6, .slice A0 p0.length c0), (7, .int .i64 (p0.length : Int)), (8, .int .i64 0)] (And.intro rfl (And.intro rfl (And.intro rfl (And.intro rfl trivial)))) fun j => ?_
  refine wpn_bl ?_
  have hO := hO.no
  have hO : Obs _ _ [_] := hO
  refine wpn_lp (fun (n : Nat) e' σ' => ∃ (A13 : Option Addr) (c14 : Nat) (o15 : Ob) (x16 : List UInt8) (x19 : Int) (τ' : Hp), agr [(3, .slice A13 x16.length c14), (6, .slice A0 p0.length c0), (7, .int .i64 (p0.length : Int)), (8, .int .i64 x19)] e' ∧ Obs τ' σ' [o15] ∧ Hp.le τ τ' ∧ OwnO Ty.u8 5 τ' (.slice A13 x16.length c14) x16 o15 ∧ RdT Ty.u8 τ' (.slice A0 p0.length c0) p0 ∧ F_ref00_CopyBytes_l3 p0 n x16 x19 = some rr) big ⟨none, 0, none, [], 0, _, And.intro rfl (And.intro rfl (And.intro rfl (And.intro rfl trivial))), hO, hL, OwnO.nil _ _ _, r0, hF⟩ ?_
  clear hF hO hL
  rintro n30 e σ ⟨A13, c14, o15, x16, x19, _, hA, hO, hL, w17, r18, hF⟩
  rw [← sets_agr _ _ hA]
  cases n30 with
  | zero => exact nomatch (show none = some rr from hF)
  | succ n30 =>
    replace hF : F_ref00_CopyBytes_l3B (F_ref00_CopyBytes_l3 p0 n30) p0 x16 x19 = some rr := hF
    unfold F_ref00_CopyBytes_l3B at hF
    refine wpn_qa hO [] [(3, .slice A13 x16.length c14), (6, .slice A0 p0.length c0), (7, .int .i64 (p0.length : Int)), (8, .int .i64 x19), (9, .bool (decide (x19 < (p0.length : Int))))] (And.intro rfl (And.intro rfl (And.intro rfl (And.intro rfl (And.intro rfl trivial))))) fun j => ?_
    rcases ite_some hF with ⟨hb31, hF⟩ | ⟨hb31, hF⟩
    · refine wpn_cT (congrArg Value.bool hb31) ?_
      refine wpn_sk ?_
      refine wpn_bl ?_
      obtain ⟨y32, g33, hF⟩ := bind_some hF
      refine wpn_idx (T := Ty.u8) r18 hO.base rfl rfl g33 (by decide) fun a34 _ k35 m36 => ?_
      obtain rfl : _ = ([.int .u8 y32.toNat] : List Value) := k35
      refine wpn_ld rfl m36.fst ?_
      refine wpn_qa hO [] [(3, .slice A13 x16.length c14), (5, .int .u8 (y32.toNat : Int)), (6, .slice A0 p0.length c0), (7, .int .i64 (p0.length : Int)), (8, .int .i64 x19)] (And.intro rfl (And.intro rfl (And.intro rfl (And.intro rfl (And.intro rfl trivial))))) fun j => ?_
      refine wpn_rlast ?_
      refine wpn_q hO 2 [] [(6, .slice A0 p0.length c0), (7, .int .i64 (p0.length : Int)), (8, .int .i64 x19), (12, .slice A13 x16.length c14), (13, .int .u8 (y32.toNat : Int))] (And.intro rfl (And.intro rfl (And.intro rfl (And.intro rfl (And.intro rfl trivial))))) fun j => ?_
      obtain ⟨_, hr, hF⟩ := bind_some hF
      refine wpn_ap1 (T := Ty.u8) hO w17 (i := 0) rfl rfl (fun _ => rfl) rfl rfl rfl hr (by decide) fun u _ σ o39 w40 hO => ?_
      obtain ⟨A37, c38, rfl, -⟩ := w40.form
      have hO : Obs _ _ [_] := hO
      refine wpn_qa hO [] [(3, .slice A37 (x16 ++ [y32]).length c38), (6, .slice A0 p0.length c0), (7, .int .i64 (p0.length : Int)), (8, .int .i64 x19)] (And.intro rfl (And.intro rfl (And.intro rfl (And.intro rfl trivial)))) fun j => ?_
      refine wpn_end ?_
      refine inb_i ?_
      refine thn_i ?_
      refine wpn_rlast ?_
      refine wpn_qa hO [] [(3, .slice A37 (x16 ++ [y32]).length c38), (6, .slice A0 p0.length c0), (7, .int .i64 (p0.length : Int)), (8, .int .i64 (IntKind.i64.wrap (x19 + 1)))] (And.intro rfl (And.intro rfl (And.intro rfl (And.intro rfl trivial)))) fun j => ?_
      refine wpn_end ?_
      refine thn_i ?_
      exact ⟨n30, Nat.lt_succ_self _, A37, c38, o39, (x16 ++ [y32]), (IntKind.i64.wrap (x19 + 1)), _, And.intro rfl (And.intro rfl (And.intro rfl (And.intro rfl trivial))), hO, hL, w40, r18, hF⟩
    · refine wpn_cF (congrArg Value.bool hb31) ?_
      refine wpn_ex ?_
      refine thn_x ?_
      refine inb_x ?_
      refine thn_i ?_
      refine wpn_qa hO [] [(2, .slice A13 x16.length c14)] (And.intro rfl trivial) fun j => ?_
      refine wpn_r1 ?_
      injection hF with hF
      subst hF
      exact hQ _ _ _ _ _ rfl hO hL ⟨_, _, rfl, rfl, w17⟩

/-! theodolite/theodoliteref02.digits -/
theorem w_ref02_digits {τ : Hp} {v0 : Value} {p0 : (List UInt8)} {p1 : Int} {p2 : Bool} {p3 : Int} (r0 : RdT Ty.u8 τ v0 p0) {rr : (List UInt8)} (hF : F_ref02_digits p0 p1 p2 p3 = some rr) :
    Ctr Try.prog 47 #[v0, .int .u64 p1, .bool p2, .int .i64 p3] τ [] (fun v τ' vs' => ∃ (v0 : Value) (o0 : Ob), v = v0 ∧ vs' = [o0] ∧ OwnO Ty.u8 5 τ' v0 rr o0) := by
  obtain ⟨A0, c0, rfl, -⟩ := r0.form
  refine ctr_of (args := [.slice A0 p0.length c0, .int .u64 p1, .bool p2, .int .i64 p3]) hm Try.func47 s47 rfl fun w0 σ hO Q hQ => ?_
  unfold F_ref02_digits at hF
  have hL := Hp.le.refl τ
  show wpn _ _ a47.body _ _ _
  unfold a47
  dsimp only
  refine wpn_qa hO [] [(0, .slice A0 p0.length c0), (1, .int .u64 p1), (2, .bool p2), (3, .int .i64 p3)] (And.intro rfl (And.intro rfl (And.intro rfl (And.intro rfl trivial)))) fun j => ?_
  refine wpn_q hO 1 [] [(1, .int .u64 p1), (2, .bool p2), (3, .int .i64 p3), (12, .slice A0 p0.length c0)] (And.intro rfl (And.intro rfl (And.intro rfl (And.intro rfl trivial)))) fun j => ?_
  obtain ⟨c1, h2, hF⟩ := bind_some hF
  refine wpn_c0 hO (w_ref00_CopyBytes r0 h2) rfl fun _ σ _ _ hO h3 h4 => ?_
  have hL := hL.trans h3
  have r0 := r0.le h3
  obtain ⟨v5, o8, rfl, rfl, w9⟩ := h4
  obtain ⟨A6, c7, rfl, -⟩ := w9.form
  have hO : Obs _ _ [_] := hO
  refine wpn_qa hO [] [(1, .int .u64 p1), (2, .bool p2), (3, .int .i64 p3), (9, .slice A6 c1.length c7)] (And.intro rfl (And.intro rfl (And.intro rfl (And.intro rfl trivial)))) fun j => ?_
  refine wpn_assoc ?_
  refine wpn_qa hO [] [(1, .int .u64 p1), (2, .bool p2), (3, .int .i64 p3), (9, .slice A6 c1.length c7), (10, .int .i64 0)] (And.intro rfl (And.intro rfl (And.intro rfl (And.intro rfl (And.intro rfl trivial))))) fun j => ?_
  refine wpn_bl ?_
  refine wpn_lp (fun (n : Nat) e' σ' => ∃ (x35 : Int) (A36 : Option Addr) (c37 : Nat) (o38 : Ob) (x39 : List UInt8) (x41 : Int) (τ' : Hp), agr [(1, .int .u64 x35), (2, .bool p2), (3, .int .i64 p3), (9, .slice A36 x39.length c37), (10, .int .i64 x41)] e' ∧ Obs τ' σ' [o38] ∧ Hp.le τ τ' ∧ OwnO Ty.u8 5 τ' (.slice A36 x39.length c37) x39 o38 ∧ F_ref02_digits_l8 p2 p3 n x35 x39 x41 = some rr) big ⟨p1, A6, c7, o8, c1, 0, _, And.intro rfl (And.intro rfl (And.intro rfl (And.intro rfl (And.intro rfl trivial)))), hO, hL, w9, hF⟩ ?_
  clear hF hO hL
  rintro n62 e σ ⟨x35, A36, c37, o38, x39, x41, _, hA, hO, hL, w40, hF⟩
  rw [← sets_agr _ _ hA]
  cases n62 with
  | zero => exact nomatch (show none = some rr from hF)
  | succ n62 =>
    replace hF : F_ref02_digits_l8B (F_ref02_digits_l8 p2 p3 n62) p2 p3 x35 x39 x41 = some rr := hF
    unfold F_ref02_digits_l8B at hF
    refine wpn_assoc ?_
    refine wpn_qa hO [] [(1, .int .u64 x35), (2, .bool p2), (3, .int .i64 p3), (9, .slice A36 x39.length c37), (10, .int .i64 x41), (16, .bool (decide (x41 < p3)))] (And.intro rfl (And.intro rfl (And.intro rfl (And.intro rfl (And.intro rfl (And.intro rfl trivial)))))) fun j => ?_
    rcases ite_some hF with ⟨hb63, hF⟩ | ⟨hb63, hF⟩
    · refine wpn_cT (congrArg Value.bool hb63) ?_
      refine wpn_sk ?_
      refine wpn_bl ?_
      refine wpn_qa hO [] [(1, .int .u64 x35), (2, .bool p2), (3, .int .i64 p3), (9, .slice A36 x39.length c37), (10, .int .i64 x41), (11, .int .u64 (Int.tmod x35 128))] (And.intro rfl (And.intro rfl (And.intro rfl (And.intro rfl (And.intro rfl (And.intro rfl trivial)))))) fun j => ?_
      refine wpn_qa hO [] [(1, .int .u64 (IntKind.u64.wrap (Int.tdiv x35 128))), (2, .bool p2), (3, .int .i64 p3), (9, .slice A36 x39.length c37), (10, .int .i64 x41), (11, .int .u64 (Int.tmod x35 128))] (And.intro rfl (And.intro rfl (And.intro rfl (And.intro rfl (And.intro rfl (And.intro rfl trivial)))))) fun j => ?_
      refine wpn_assoc ?_
      refine wpn_qa hO [] [(1, .int .u64 (IntKind.u64.wrap (Int.tdiv x35 128))), (2, .bool p2), (3, .int .i64 p3), (9, .slice A36 x39.length c37), (10, .int .i64 x41), (11, .int .u64 (Int.tmod x35 128)), (23, .bool p2)] (And.intro rfl (And.intro rfl (And.intro rfl (And.intro rfl (And.intro rfl (And.intro rfl (And.intro rfl trivial))))))) fun j => ?_
      refine wpn_cut (fun e' σ' => ∃ (x65 : Int) (A66 : Option Addr) (c67 : Nat) (o68 : Ob) (x69 : List UInt8) (τ' : Hp), agr [(1, .int .u64 x65), (2, .bool p2), (3, .int .i64 p3), (9, .slice A66 x69.length c67), (10, .int .i64 x41), (11, .int .u64 (Int.tmod x35 128))] e' ∧ Obs τ' σ' [o68] ∧ Hp.le τ τ' ∧ OwnO Ty.u8 5 τ' (.slice A66 x69.length c67) x69 o68 ∧ F_ref02_digits_k11 (F_ref02_digits_l8 p2 p3 n62) p3 x35 x41 x65 x69 = some rr) ?_ ?_
      · refine wpn_clast ?_
        rcases ite_some hF with ⟨hb82, hF⟩ | ⟨hb82, hF⟩
        · refine wpn_cT (congrArg Value.bool hb82) ?_
          refine wpn_qa hO [] [(1, .int .u64 (orI .u64 (IntKind.u64.wrap (Int.tdiv x35 128)) 18302628885633695744)), (2, .bool p2), (3, .int .i64 p3), (9, .slice A36 x39.length c37), (10, .int .i64 x41), (11, .int .u64 (Int.tmod x35 128))] (And.intro rfl (And.intro rfl (And.intro rfl (And.intro rfl (And.intro rfl (And.intro rfl trivial)))))) fun j => ?_
          refine wpn_end ?_
          refine thn_i ?_
          exact ⟨(orI .u64 (IntKind.u64.wrap (Int.tdiv x35 128)) 18302628885633695744), A36, c37, o38, x39, _, And.intro rfl (And.intro rfl (And.intro rfl (And.intro rfl (And.intro rfl (And.intro rfl trivial))))), hO, hL, w40, hF⟩
        · refine wpn_cF (congrArg Value.bool hb82) ?_
          refine wpn_sk ?_
          refine wpn_end ?_
          refine thn_i ?_
          exact ⟨(IntKind.u64.wrap (Int.tdiv x35 128)), A36, c37, o38, x39, _, And.intro rfl (And.intro rfl (And.intro rfl (And.intro rfl (And.intro rfl (And.intro rfl trivial))))), hO, hL, w40, hF⟩
      · rintro e σ ⟨x65, A66, c67, o68, x69, _, hA, hO, hL, w70, hF⟩
        rw [← sets_agr _ _ hA]
        unfold F_ref02_digits_k11 at hF
        refine wpn_assoc ?_
        refine wpn_qa hO [] [(1, .int .u64 x65), (2, .bool p2), (3, .int .i64 p3), (9, .slice A66 x69.length c67), (10, .int .i64 x41), (11, .int .u64 (Int.tmod x35 128)), (29, .bool (decide (x41 < (IntKind.i64.wrap (p3 - 1)))))] (And.intro rfl (And.intro rfl (And.intro rfl (And.intro rfl (And.intro rfl (And.intro rfl (And.intro rfl trivial))))))) fun j => ?_
        rcases ite_some hF with ⟨hb71, hF⟩ | ⟨hb71, hF⟩
        · refine wpn_cT (congrArg Value.bool hb71) ?_
          refine wpn_qa hO [] [(1, .int .u64 x65), (2, .bool p2), (3, .int .i64 p3), (9, .slice A66 x69.length c67), (10, .int .i64 x41), (11, .int .u64 (IntKind.u64.wrap ((Int.tmod x35 128) + 128)))] (And.intro rfl (And.intro rfl (And.intro rfl (And.intro rfl (And.intro rfl (And.intro rfl trivial)))))) fun j => ?_
          refine wpn_rlast ?_
          refine wpn_q hO 3 [] [(1, .int .u64 x65), (2, .bool p2), (3, .int .i64 p3), (10, .int .i64 x41), (32, .slice A66 x69.length c67), (34, .int .u8 (IntKind.u8.wrap (IntKind.u64.wrap ((Int.tmod x35 128) + 128))))] (And.intro rfl (And.intro rfl (And.intro rfl (And.intro rfl (And.intro rfl (And.intro rfl trivial)))))) fun j => ?_
          obtain ⟨z72, hz72, hF⟩ := bind_some hF
          obtain ⟨_, hr, hF⟩ := bind_some hF
          refine wpn_ap1 (T := Ty.u8) hO w70 (i := 0) rfl rfl (fun _ => rfl) rfl (u8R hz72) rfl hr (by decide) fun u _ σ o75 w76 hO => ?_
          obtain ⟨A73, c74, rfl, -⟩ := w76.form
          have hO : Obs _ _ [_] := hO
          refine wpn_qa hO [] [(1, .int .u64 x65), (2, .bool p2), (3, .int .i64 p3), (9, .slice A73 (x69 ++ [z72]).length c74), (10, .int .i64 x41)] (And.intro rfl (And.intro rfl (And.intro rfl (And.intro rfl (And.intro rfl trivial))))) fun j => ?_
          refine wpn_end ?_
          refine inb_i ?_
          refine thn_i ?_
          refine wpn_rlast ?_
          refine wpn_qa hO [] [(1, .int .u64 x65), (2, .bool p2), (3, .int .i64 p3), (9, .slice A73 (x69 ++ [z72]).length c74), (10, .int .i64 (IntKind.i64.wrap (x41 + 1)))] (And.intro rfl (And.intro rfl (And.intro rfl (And.intro rfl (And.intro rfl trivial))))) fun j => ?_
          refine wpn_end ?_
          refine thn_i ?_
          exact ⟨n62, Nat.lt_succ_self _, x65, A73, c74, o75, (x69 ++ [z72]), (IntKind.i64.wrap (x41 + 1)), _, And.intro rfl (And.intro rfl (And.intro rfl (And.intro rfl (And.intro rfl trivial)))), hO, hL, w76, hF⟩
        · refine wpn_cF (congrArg Value.bool hb71) ?_
          refine wpn_sk ?_
          refine wpn_rlast ?_
          refine wpn_q hO 3 [] [(1, .int .u64 x65), (2, .bool p2), (3, .int .i64 p3), (10, .int .i64 x41), (32, .slice A66 x69.length c67), (34, .int .u8 (IntKind.u8.wrap (Int.tmod x35 128)))] (And.intro rfl (And.intro rfl (And.intro rfl (And.intro rfl (And.intro rfl (And.intro rfl trivial)))))) fun j => ?_
          obtain ⟨z77, hz77, hF⟩ := bind_some hF
          obtain ⟨_, hr, hF⟩ := bind_some hF
          refine wpn_ap1 (T := Ty.u8) hO w70 (i := 0) rfl rfl (fun _ => rfl) rfl (u8R hz77) rfl hr (by decide) fun u _ σ o80 w81 hO => ?_
          obtain ⟨A78, c79, rfl, -⟩ := w81.form
          have hO : Obs _ _ [_] := hO
          refine wpn_qa hO [] [(1, .int .u64 x65), (2, .bool p2), (3, .int .i64 p3), (9, .slice A78 (x69 ++ [z77]).length c79), (10, .int .i64 x41)] (And.intro rfl (And.intro rfl (And.intro rfl (And.intro rfl (And.intro rfl trivial))))) fun j => ?_
          refine wpn_end ?_
          refine inb_i ?_
          refine thn_i ?_
          refine wpn_rlast ?_
          refine wpn_qa hO [] [(1, .int .u64 x65), (2, .bool p2), (3, .int .i64 p3), (9, .slice A78 (x69 ++ [z77]).length c79), (10, .int .i64 (IntKind.i64.wrap (x41 + 1)))] (And.intro rfl (And.intro rfl (And.intro rfl (And.intro rfl (And.intro rfl trivial))))) fun j => ?_
          refine wpn_end ?_
          refine thn_i ?_
          exact ⟨n62, Nat.lt_succ_self _, x65, A78, c79, o80, (x69 ++ [z77]), (IntKind.i64.wrap (x41 + 1)), _, And.intro rfl (And.intro rfl (And.intro rfl (And.intro rfl (And.intro rfl trivial)))), hO, hL, w81, hF⟩
    · refine wpn_cF (congrArg Value.bool hb63) ?_
      refine wpn_ex ?_
      refine thn_x ?_
      refine inb_x ?_
      refine thn_i ?_
      refine wpn_qa hO [] [(8, .slice A36 x39.length c37)] (And.intro rfl trivial) fun j => ?_
      refine wpn_r1 ?_
      injection hF with hF
      subst hF
      exact hQ _ _ _ _ _ rfl hO hL ⟨_, _, rfl, rfl, w40⟩

/-! theodolite/theodoliteref02.fitsS -/
theorem w_ref02_fitsS {τ : Hp} {p0 : Int} {p1 : Int}  {rr : Bool} (hF : F_ref02_fitsS p0 p1 = some rr) :
    Ctr Try.prog 48 #[.int .i64 p0, .int .i64 p1] τ [] (fun v τ' vs' => v = .bool rr ∧ vs' = []) := by
  refine ctr_of (args := [.int .i64 p0, .int .i64 p1]) hm Try.func48 s48 rfl fun w0 σ hO Q hQ => ?_
  unfold F_ref02_fitsS at hF
  have hL := Hp.le.refl τ
  show wpn _ _ a48.body _ _ _
  unfold a48
  dsimp only
  refine wpn_qa hO [] [(0, .int .i64 p0), (1, .int .i64 p1)] (And.intro rfl (And.intro rfl trivial)) fun j => ?_
  refine wpn_assoc ?_
  refine wpn_qa hO [] [(0, .int .i64 p0), (1, .int .i64 p1), (8, .bool (decide ((IntKind.i64.wrap ((IntKind.i64.wrap (7 * p1)) - 1)) ≥ 63)))] (And.intro rfl (And.intro rfl (And.intro rfl trivial))) fun j => ?_
  rcases ite_some hF with ⟨hb1, hF⟩ | ⟨hb1, hF⟩
  · refine wpn_cT (congrArg Value.bool hb1) ?_
    refine wpn_assoc ?_
    refine wpn_qa hO [] [(4, .bool true)] (And.intro rfl trivial) fun j => ?_
    refine wpn_rt ?_
    injection hF with hF
    subst hF
    exact hQ _ _ _ _ _ rfl hO hL ⟨rfl, rfl⟩
  · refine wpn_cF (congrArg Value.bool hb1) ?_
    refine wpn_sk ?_
    refine wpn_q hO 5 [] [(0, .int .i64 p0), (1, .int .i64 p1), (9, .int .i64 p0), (13, .int .u64 (IntKind.u64.wrap (IntKind.i64.wrap ((IntKind.i64.wrap (7 * p1)) - 1))))] (And.intro rfl (And.intro rfl (And.intro rfl (And.intro rfl trivial)))) fun j => ?_
    obtain ⟨y2, g3, hF⟩ := bind_some hF
    refine wpn_bn (shlO_bin g3) ?_
    refine wpn_q hO 3 [] [(0, .int .i64 p0), (1, .int .i64 p1), (17, .bool (decide (p0 ≥ (IntKind.i64.wrap (0 - y2)))))] (And.intro rfl (And.intro rfl (And.intro rfl trivial))) fun j => ?_
    obtain ⟨c4, h5, hF⟩ := bind_some hF
    refine wpn_midq 2 [(25, .bool c4)] (fun Q hQ => ?_) fun j => ?_
    · have hF := h5
      rcases ite_some hF with ⟨hb6, hF⟩ | ⟨hb6, hF⟩
      · refine wpn_gT (congrArg (fun x => isB (.bool x) true) hb6) ?_
        refine wpn_q hO 5 [] [(17, .bool (decide (p0 ≥ (IntKind.i64.wrap (0 - y2))))), (18, .int .i64 p0), (22, .int .u64 (IntKind.u64.wrap (IntKind.i64.wrap ((IntKind.i64.wrap (7 * p1)) - 1))))] (And.intro rfl (And.intro rfl (And.intro rfl trivial))) fun j => ?_
        obtain ⟨y7, g8, hF⟩ := bind_some hF
        refine wpn_bn (shlO_bin g8) ?_
        refine wpn_q hO 1 [] [(17, .bool (decide (p0 ≥ (IntKind.i64.wrap (0 - y2))))), (24, .bool (decide (p0 < y7)))] (And.intro rfl (And.intro rfl trivial)) fun j => ?_
        refine wpn_pk (congrArg Value.bool hb6) ?_
        refine wpn_nil ?_
        injection hF with hF
        subst hF
        refine wpn_end ?_
        exact hQ _ (And.intro rfl (trivial))
      · refine wpn_gF (congrArg (fun x => isB (.bool x) true) hb6) ?_
        refine wpn_pk (congrArg Value.bool hb6) ?_
        refine wpn_nil ?_
        injection hF with hF
        subst hF
        refine wpn_end ?_
        exact hQ _ (And.intro rfl (trivial))
    · refine wpn_qa hO [] [(4, .bool c4)] (And.intro rfl trivial) fun j => ?_
      refine wpn_r1 ?_
      injection hF with hF
      subst hF
      exact hQ _ _ _ _ _ rfl hO hL ⟨rfl, rfl⟩

/-! theodolite/theodoliteref00.Kept -/
theorem w_ref00_Kept {τ : Hp} {v0 : Value} {p0 : (List UInt8)} {q0 : (List UInt8)} {v1 : Value} {p1 : (List UInt8)} (r0 : RdT Ty.u8 τ v0 p0) (f0 : Full Ty.u8 τ v0 q0) (r1 : RdT Ty.u8 τ v1 p1) {rr : Bool} (hF : F_ref00_Kept p0 q0 p1 = some rr) :
    Ctr Try.prog 20 #[v0, v1] τ [] (fun v τ' vs' => v = .bool rr ∧ vs' = []) := by
  obtain ⟨A0, n0, rfl, f0⟩ := f0
  obtain ⟨_, _, hv0, -⟩ := r0.form
  injection hv0 with _ hv0 _
  subst hv0
  have f0 : Full Ty.u8 τ (.slice A0 p0.length q0.length) q0 := ⟨_, _, rfl, f0⟩
  obtain ⟨A1, c1, rfl, -⟩ := r1.form
  refine ctr_of (args := [.slice A0 p0.length q0.length, .slice A1 p1.length c1]) hm Try.func20 s20 rfl fun w0 σ hO Q hQ => ?_
  unfold F_ref00_Kept at hF
  have hL := Hp.le.refl τ
  show wpn _ _ a20.body _ _ _
  unfold a20
  dsimp only
  refine wpn_qa hO [] [(0, .slice A0 p0.length q0.length), (1, .slice A1 p1.length c1)] (And.intro rfl (And.intro rfl trivial)) fun j => ?_
  refine wpn_assoc ?_
  refine wpn_qa hO [] [(0, .slice A0 p0.length q0.length), (1, .slice A1 p1.length c1), (20, .bool (((p0.length : Int) != (p1.length : Int)) || (decide ((q0.length : Int) < (IntKind.i64.wrap ((p0.length : Int) + 8))))))] (And.intro (And.intro rfl rfl) (fun _ => And.intro rfl (And.intro rfl (And.intro rfl trivial)))) fun j => ?_
  rcases ite_some hF with ⟨hb1, hF⟩ | ⟨hb1, hF⟩
  · refine wpn_cT (congrArg Value.bool hb1) ?_
    refine wpn_assoc ?_
    refine wpn_qa hO [] [(4, .bool false)] (And.intro rfl trivial) fun j => ?_
    refine wpn_rt ?_
    injection hF with hF
    subst hF
    exact hQ _ _ _ _ _ rfl hO hL ⟨rfl, rfl⟩
  · refine wpn_cF (congrArg Value.bool hb1) ?_
    refine wpn_sk ?_
    refine wpn_assoc ?_
    refine wpn_q hO 4 [] [(1, .slice A1 p1.length c1), (21, .slice A0 p0.length q0.length), (24, .int .i64 (IntKind.i64.wrap ((p0.length : Int) + 8)))] (And.intro rfl (And.intro rfl (And.intro rfl trivial))) fun j => ?_
    obtain ⟨y2, g3, hF⟩ := bind_some hF
    refine wpn_slf (T := Ty.u8) f0 rfl rfl g3 fun _ r4 => ?_
    obtain ⟨A5, c6, rfl, -⟩ := r4.form
    refine wpn_qa hO [] [(1, .slice A1 p1.length c1), (25, .slice A5 y2.length c6), (26, .int .i64 (y2.length : Int)), (27, .int .i64 0)] (And.intro rfl (And.intro rfl (And.intro rfl (And.intro rfl trivial)))) fun j => ?_
    refine wpn_bl ?_
    refine wpn_lp (fun (n : Nat) e' σ' => ∃ (x25 : Int) (τ' : Hp), agr [(1, .slice A1 p1.length c1), (25, .slice A5 y2.length c6), (26, .int .i64 (y2.length : Int)), (27, .int .i64 x25)] e' ∧ Obs τ' σ' [] ∧ Hp.le τ τ' ∧ RdT Ty.u8 τ' (.slice A1 p1.length c1) p1 ∧ RdT Ty.u8 τ' (.slice A5 y2.length c6) y2 ∧ F_ref00_Kept_l3 p1 y2 n x25 = some rr) big ⟨0, _, And.intro rfl (And.intro rfl (And.intro rfl (And.intro rfl trivial))), hO, hL, r1, r4, hF⟩ ?_
    clear hF hO hL
    rintro n40 e σ ⟨x25, _, hA, hO, hL, r23, r24, hF⟩
    rw [← sets_agr _ _ hA]
    cases n40 with
    | zero => exact nomatch (show none = some rr from hF)
    | succ n40 =>
      replace hF : F_ref00_Kept_l3B (F_ref00_Kept_l3 p1 y2 n40) p1 y2 x25 = some rr := hF
      unfold F_ref00_Kept_l3B at hF
      refine wpn_qa hO [] [(1, .slice A1 p1.length c1), (25, .slice A5 y2.length c6), (26, .int .i64 (y2.length : Int)), (27, .int .i64 x25), (28, .bool (decide (x25 < (y2.length : Int))))] (And.intro rfl (And.intro rfl (And.intro rfl (And.intro rfl (And.intro rfl trivial))))) fun j => ?_
      rcases ite_some hF with ⟨hb41, hF⟩ | ⟨hb41, hF⟩
      · refine wpn_cT (congrArg Value.bool hb41) ?_
        refine wpn_sk ?_
        refine wpn_bl ?_
        refine wpn_q hO 1 [] [(1, .slice A1 p1.length c1), (25, .slice A5 y2.length c6), (26, .int .i64 (y2.length : Int)), (27, .int .i64 x25), (29, .int .i64 x25)] (And.intro rfl (And.intro rfl (And.intro rfl (And.intro rfl (And.intro rfl trivial))))) fun j => ?_
        obtain ⟨y42, g43, hF⟩ := bind_some hF
        refine wpn_idx (T := Ty.u8) r24 hO.base rfl rfl g43 (by decide) fun a44 _ k45 m46 => ?_
        obtain rfl : _ = ([.int .u8 y42.toNat] : List Value) := k45
        refine wpn_ld rfl m46.fst ?_
        refine wpn_qa hO [] [(1, .slice A1 p1.length c1), (5, .int .i64 x25), (6, .int .u8 (y42.toNat : Int)), (25, .slice A5 y2.length c6), (26, .int .i64 (y2.length : Int)), (27, .int .i64 x25)] (And.intro rfl (And.intro rfl (And.intro rfl (And.intro rfl (And.intro rfl (And.intro rfl trivial)))))) fun j => ?_
        refine wpn_qa hO [] [(1, .slice A1 p1.length c1), (5, .int .i64 x25), (6, .int .u8 (y42.toNat : Int)), (7, .int .u8 (IntKind.u8.wrap (IntKind.i64.wrap ((IntKind.i64.wrap (8 + (p1.length : Int))) - x25)))), (25, .slice A5 y2.length c6), (26, .int .i64 (y2.length : Int)), (27, .int .i64 x25)] (And.intro rfl (And.intro rfl (And.intro rfl (And.intro rfl (And.intro rfl (And.intro rfl (And.intro rfl trivial))))))) fun j => ?_
        refine wpn_assoc ?_
        refine wpn_qa hO [] [(1, .slice A1 p1.length c1), (5, .int .i64 x25), (6, .int .u8 (y42.toNat : Int)), (7, .int .u8 (IntKind.u8.wrap (IntKind.i64.wrap ((IntKind.i64.wrap (8 + (p1.length : Int))) - x25)))), (25, .slice A5 y2.length c6), (26, .int .i64 (y2.length : Int)), (27, .int .i64 x25), (41, .bool (decide (x25 < (p1.length : Int))))] (And.intro rfl (And.intro rfl (And.intro rfl (And.intro rfl (And.intro rfl (And.intro rfl (And.intro rfl (And.intro rfl trivial)))))))) fun j => ?_
        rcases ite_some hF with ⟨hb47, hF⟩ | ⟨hb47, hF⟩
        · refine wpn_cT (congrArg Value.bool hb47) ?_
          refine wpn_q hO 2 [] [(1, .slice A1 p1.length c1), (6, .int .u8 (y42.toNat : Int)), (25, .slice A5 y2.length c6), (26, .int .i64 (y2.length : Int)), (27, .int .i64 x25), (42, .slice A1 p1.length c1), (43, .int .i64 x25)] (And.intro rfl (And.intro rfl (And.intro rfl (And.intro rfl (And.intro rfl (And.intro rfl (And.intro rfl trivial))))))) fun j => ?_
          obtain ⟨y48, g49, hF⟩ := bind_some hF
          refine wpn_idx (T := Ty.u8) r23 hO.base rfl rfl g49 (by decide) fun a50 _ k51 m52 => ?_
          obtain rfl : _ = ([.int .u8 y48.toNat] : List Value) := k51
          refine wpn_ld rfl m52.fst ?_
          refine wpn_qa hO [] [(1, .slice A1 p1.length c1), (6, .int .u8 (y42.toNat : Int)), (7, .int .u8 (y48.toNat : Int)), (25, .slice A5 y2.length c6), (26, .int .i64 (y2.length : Int)), (27, .int .i64 x25)] (And.intro rfl (And.intro rfl (And.intro rfl (And.intro rfl (And.intro rfl (And.intro rfl trivial)))))) fun j => ?_
          refine wpn_qa hO [] [(1, .slice A1 p1.length c1), (25, .slice A5 y2.length c6), (26, .int .i64 (y2.length : Int)), (27, .int .i64 x25), (48, .bool ((y42.toNat : Int) != (y48.toNat : Int)))] (And.intro rfl (And.intro rfl (And.intro rfl (And.intro rfl (And.intro rfl trivial))))) fun j => ?_
          refine wpn_clast ?_
          rcases ite_some hF with ⟨hb53, hF⟩ | ⟨hb53, hF⟩
          · refine wpn_cT (congrArg Value.bool hb53) ?_
            refine wpn_assoc ?_
            refine wpn_qa hO [] [(4, .bool false)] (And.intro rfl trivial) fun j => ?_
            refine wpn_rt ?_
            refine inb_r1 ?_
            refine thn_r1 ?_
            refine thn_r1 ?_
            refine inb_r1 ?_
            refine thn_r1 ?_
            injection hF with hF
            subst hF
            exact hQ _ _ _ _ _ rfl hO hL ⟨rfl, rfl⟩
          · refine wpn_cF (congrArg Value.bool hb53) ?_
            refine wpn_sk ?_
            refine wpn_end ?_
            refine inb_i ?_
            refine thn_i ?_
            refine wpn_rlast ?_
            refine wpn_qa hO [] [(1, .slice A1 p1.length c1), (25, .slice A5 y2.length c6), (26, .int .i64 (y2.length : Int)), (27, .int .i64 (IntKind.i64.wrap (x25 + 1)))] (And.intro rfl (And.intro rfl (And.intro rfl (And.intro rfl trivial)))) fun j => ?_
            refine wpn_end ?_
            refine thn_i ?_
            exact ⟨n40, Nat.lt_succ_self _, (IntKind.i64.wrap (x25 + 1)), _, And.intro rfl (And.intro rfl (And.intro rfl (And.intro rfl trivial))), hO, hL, r23, r24, hF⟩
        · refine wpn_cF (congrArg Value.bool hb47) ?_
          refine wpn_sk ?_
          refine wpn_qa hO [] [(1, .slice A1 p1.length c1), (25, .slice A5 y2.length c6), (26, .int .i64 (y2.length : Int)), (27, .int .i64 x25), (48, .bool ((y42.toNat : Int) != (IntKind.u8.wrap (IntKind.i64.wrap ((IntKind.i64.wrap (8 + (p1.length : Int))) - x25)))))] (And.intro rfl (And.intro rfl (And.intro rfl (And.intro rfl (And.intro rfl trivial))))) fun j => ?_
          refine wpn_clast ?_
          rcases ite_some hF with ⟨hb54, hF⟩ | ⟨hb54, hF⟩
          · refine wpn_cT (congrArg Value.bool hb54) ?_
            refine wpn_assoc ?_
            refine wpn_qa hO [] [(4, .bool false)] (And.intro rfl trivial) fun j => ?_
            refine wpn_rt ?_
            refine inb_r1 ?_
            refine thn_r1 ?_
            refine thn_r1 ?_
            refine inb_r1 ?_
            refine thn_r1 ?_
            injection hF with hF
            subst hF
            exact hQ _ _ _ _ _ rfl hO hL ⟨rfl, rfl⟩
          · refine wpn_cF (congrArg Value.bool hb54) ?_
            refine wpn_sk ?_
            refine wpn_end ?_
            refine inb_i ?_
            refine thn_i ?_
            refine wpn_rlast ?_
            refine wpn_qa hO [] [(1, .slice A1 p1.length c1), (25, .slice A5 y2.length c6), (26, .int .i64 (y2.length : Int)), (27, .int .i64 (IntKind.i64.wrap (x25 + 1)))] (And.intro rfl (And.intro rfl (And.intro rfl (And.intro rfl trivial)))) fun j => ?_
            refine wpn_end ?_
            refine thn_i ?_
            exact ⟨n40, Nat.lt_succ_self _, (IntKind.i64.wrap (x25 + 1)), _, And.intro rfl (And.intro rfl (And.intro rfl (And.intro rfl trivial))), hO, hL, r23, r24, hF⟩
      · refine wpn_cF (congrArg Value.bool hb41) ?_
        refine wpn_ex ?_
        refine thn_x ?_
        refine inb_x ?_
        refine thn_i ?_
        refine wpn_qa hO [] [(4, .bool true)] (And.intro rfl trivial) fun j => ?_
        refine wpn_r1 ?_
        injection hF with hF
        subst hF
        exact hQ _ _ _ _ _ rfl hO hL ⟨rfl, rfl⟩

/-! theodolite/theodoliteref02.long -/
theorem w_ref02_long {τ : Hp} {v0 : Value} {p0 : (List UInt8)} {p1 : Int} (r0 : RdT Ty.u8 τ v0 p0) {rr : Int} (hF : F_ref02_long p0 p1 = some rr) :
    Ctr Try.prog 52 #[v0, .int .i64 p1] τ [] (fun v τ' vs' => v = .int .i64 rr ∧ vs' = []) := by
  obtain ⟨A0, c0, rfl, -⟩ := r0.form
  refine ctr_of (args := [.slice A0 p0.length c0, .int .i64 p1]) hm Try.func52 s52 rfl fun w0 σ hO Q hQ => ?_
  unfold F_ref02_long at hF
  have hL := Hp.le.refl τ
  show wpn _ _ a52.body _ _ _
  unfold a52
  dsimp only
  refine wpn_qa hO [] [(0, .slice A0 p0.length c0), (1, .int .i64 p1)] (And.intro rfl (And.intro rfl trivial)) fun j => ?_
  refine wpn_assoc ?_
  refine wpn_qa hO [] [(0, .slice A0 p0.length c0), (1, .int .i64 p1), (5, .int .i64 0)] (And.intro rfl (And.intro rfl (And.intro rfl trivial))) fun j => ?_
  refine wpn_bl ?_
  refine wpn_lp (fun (n : Nat) e' σ' => ∃ (x10 : Int) (τ' : Hp), agr [(0, .slice A0 p0.length c0), (1, .int .i64 p1), (5, .int .i64 x10)] e' ∧ Obs τ' σ' [] ∧ Hp.le τ τ' ∧ RdT Ty.u8 τ' (.slice A0 p0.length c0) p0 ∧ F_ref02_long_l3 p0 p1 n x10 = some rr) big ⟨0, _, And.intro rfl (And.intro rfl (And.intro rfl trivial)), hO, hL, r0, hF⟩ ?_
  clear hF hO hL
  rintro n18 e σ ⟨x10, _, hA, hO, hL, r9, hF⟩
  rw [← sets_agr _ _ hA]
  cases n18 with
  | zero => exact nomatch (show none = some rr from hF)
  | succ n18 =>
    replace hF : F_ref02_long_l3B (F_ref02_long_l3 p0 p1 n18) p0 p1 x10 = some rr := hF
    unfold F_ref02_long_l3B at hF
    refine wpn_assoc ?_
    refine wpn_qa hO [] [(0, .slice A0 p0.length c0), (1, .int .i64 p1), (5, .int .i64 x10), (15, .bool ((decide (x10 < 10)) && (decide ((IntKind.i64.wrap (p1 + x10)) < (p0.length : Int)))))] (And.intro (And.intro rfl rfl) (fun _ => And.intro rfl (And.intro rfl (And.intro rfl (And.intro rfl trivial))))) fun j => ?_
    rcases ite_some hF with ⟨hb19, hF⟩ | ⟨hb19, hF⟩
    · refine wpn_cT (congrArg Value.bool hb19) ?_
      refine wpn_sk ?_
      refine wpn_bl ?_
      refine wpn_q hO 4 [] [(0, .slice A0 p0.length c0), (1, .int .i64 p1), (5, .int .i64 x10), (18, .slice A0 p0.length c0), (21, .int .i64 (IntKind.i64.wrap (p1 + x10)))] (And.intro rfl (And.intro rfl (And.intro rfl (And.intro rfl (And.intro rfl trivial))))) fun j => ?_
      obtain ⟨y20, g21, hF⟩ := bind_some hF
      refine wpn_idx (T := Ty.u8) r9 hO.base rfl rfl g21 (by decide) fun a22 _ k23 m24 => ?_
      obtain rfl : _ = ([.int .u8 y20.toNat] : List Value) := k23
      refine wpn_ld rfl m24.fst ?_
      refine wpn_qa hO [] [(0, .slice A0 p0.length c0), (1, .int .i64 p1), (5, .int .i64 x10), (24, .bool (decide ((y20.toNat : Int) < 128)))] (And.intro rfl (And.intro rfl (And.intro rfl (And.intro rfl trivial)))) fun j => ?_
      refine wpn_clast ?_
      rcases ite_some hF with ⟨hb25, hF⟩ | ⟨hb25, hF⟩
      · refine wpn_cT (congrArg Value.bool hb25) ?_
        refine wpn_assoc ?_
        refine wpn_qa hO [] [(4, .int .i64 (IntKind.i64.wrap (x10 + 1)))] (And.intro rfl trivial) fun j => ?_
        refine wpn_rt ?_
        refine inb_r1 ?_
        refine thn_r1 ?_
        refine thn_r1 ?_
        refine inb_r1 ?_
        refine thn_r1 ?_
        injection hF with hF
        subst hF
        exact hQ _ _ _ _ _ rfl hO hL ⟨rfl, rfl⟩
      · refine wpn_cF (congrArg Value.bool hb25) ?_
        refine wpn_sk ?_
        refine wpn_end ?_
        refine inb_i ?_
        refine thn_i ?_
        refine wpn_rlast ?_
        refine wpn_qa hO [] [(0, .slice A0 p0.length c0), (1, .int .i64 p1), (5, .int .i64 (IntKind.i64.wrap (x10 + 1)))] (And.intro rfl (And.intro rfl (And.intro rfl trivial))) fun j => ?_
        refine wpn_end ?_
        refine thn_i ?_
        exact ⟨n18, Nat.lt_succ_self _, (IntKind.i64.wrap (x10 + 1)), _, And.intro rfl (And.intro rfl (And.intro rfl trivial)), hO, hL, r9, hF⟩
    · refine wpn_cF (congrArg Value.bool hb19) ?_
      refine wpn_ex ?_
      refine thn_x ?_
      refine inb_x ?_
      refine thn_i ?_
      refine wpn_qa hO [] [(4, .int .i64 0)] (And.intro rfl trivial) fun j => ?_
      refine wpn_r1 ?_
      injection hF with hF
      subst hF
      exact hQ _ _ _ _ _ rfl hO hL ⟨rfl, rfl⟩

/-! theodolite/theodoliteref02.sum -/
theorem w_ref02_sum {τ : Hp} {v0 : Value} {p0 : (List UInt8)} {p1 : Int} {p2 : Int} (r0 : RdT Ty.u8 τ v0 p0) {rr : Int} (hF : F_ref02_sum p0 p1 p2 = some rr) :
    Ctr Try.prog 53 #[v0, .int .i64 p1, .int .i64 p2] τ [] (fun v τ' vs' => v = .int .u64 rr ∧ vs' = []) := by
  obtain ⟨A0, c0, rfl, -⟩ := r0.form
  refine ctr_of (args := [.slice A0 p0.length c0, .int .i64 p1, .int .i64 p2]) hm Try.func53 s53 rfl fun w0 σ hO Q hQ => ?_
  unfold F_ref02_sum at hF
  have hL := Hp.le.refl τ
  show wpn _ _ a53.body _ _ _
  unfold a53
  dsimp only
  refine wpn_qa hO [] [(0, .slice A0 p0.length c0), (1, .int .i64 p1), (2, .int .i64 p2)] (And.intro rfl (And.intro rfl (And.intro rfl trivial))) fun j => ?_
  refine wpn_qa hO [] [(0, .slice A0 p0.length c0), (1, .int .i64 p1), (2, .int .i64 p2), (7, .int .u64 0)] (And.intro rfl (And.intro rfl (And.intro rfl (And.intro rfl trivial)))) fun j => ?_
  refine wpn_assoc ?_
  refine wpn_qa hO [] [(0, .slice A0 p0.length c0), (1, .int .i64 p1), (7, .int .u64 0), (8, .int .i64 (IntKind.i64.wrap (p2 - 1)))] (And.intro rfl (And.intro rfl (And.intro rfl (And.intro rfl trivial)))) fun j => ?_
  refine wpn_bl ?_
  refine wpn_lp (fun (n : Nat) e' σ' => ∃ (x9 : Int) (x10 : Int) (τ' : Hp), agr [(0, .slice A0 p0.length c0), (1, .int .i64 p1), (7, .int .u64 x9), (8, .int .i64 x10)] e' ∧ Obs τ' σ' [] ∧ Hp.le τ τ' ∧ RdT Ty.u8 τ' (.slice A0 p0.length c0) p0 ∧ F_ref02_sum_l3 p0 p1 n x9 x10 = some rr) big ⟨0, (IntKind.i64.wrap (p2 - 1)), _, And.intro rfl (And.intro rfl (And.intro rfl (And.intro rfl trivial))), hO, hL, r0, hF⟩ ?_
  clear hF hO hL
  rintro n17 e σ ⟨x9, x10, _, hA, hO, hL, r8, hF⟩
  rw [← sets_agr _ _ hA]
  cases n17 with
  | zero => exact nomatch (show none = some rr from hF)
  | succ n17 =>
    replace hF : F_ref02_sum_l3B (F_ref02_sum_l3 p0 p1 n17) p0 p1 x9 x10 = some rr := hF
    unfold F_ref02_sum_l3B at hF
    refine wpn_assoc ?_
    refine wpn_qa hO [] [(0, .slice A0 p0.length c0), (1, .int .i64 p1), (7, .int .u64 x9), (8, .int .i64 x10), (12, .bool (decide (x10 ≥ 0)))] (And.intro rfl (And.intro rfl (And.intro rfl (And.intro rfl (And.intro rfl trivial))))) fun j => ?_
    rcases ite_some hF with ⟨hb18, hF⟩ | ⟨hb18, hF⟩
    · refine wpn_cT (congrArg Value.bool hb18) ?_
      refine wpn_sk ?_
      refine wpn_bl ?_
      refine wpn_rlast ?_
      refine wpn_q hO 6 [] [(0, .slice A0 p0.length c0), (1, .int .i64 p1), (8, .int .i64 x10), (16, .int .u64 (IntKind.u64.wrap (128 * x9))), (17, .slice A0 p0.length c0), (20, .int .i64 (IntKind.i64.wrap (p1 + x10)))] (And.intro rfl (And.intro rfl (And.intro rfl (And.intro rfl (And.intro rfl (And.intro rfl trivial)))))) fun j => ?_
      obtain ⟨y19, g20, hF⟩ := bind_some hF
      refine wpn_idx (T := Ty.u8) r8 hO.base rfl rfl g20 (by decide) fun a21 _ k22 m23 => ?_
      obtain rfl : _ = ([.int .u8 y19.toNat] : List Value) := k22
      refine wpn_ld rfl m23.fst ?_
      refine wpn_qa hO [] [(0, .slice A0 p0.length c0), (1, .int .i64 p1), (7, .int .u64 (IntKind.u64.wrap ((IntKind.u64.wrap (128 * x9)) + (IntKind.u64.wrap (Int.tmod (y19.toNat : Int) 128))))), (8, .int .i64 x10)] (And.intro rfl (And.intro rfl (And.intro rfl (And.intro rfl trivial)))) fun j => ?_
      refine wpn_end ?_
      refine inb_i ?_
      refine thn_i ?_
      refine wpn_rlast ?_
      refine wpn_qa hO [] [(0, .slice A0 p0.length c0), (1, .int .i64 p1), (7, .int .u64 (IntKind.u64.wrap ((IntKind.u64.wrap (128 * x9)) + (IntKind.u64.wrap (Int.tmod (y19.toNat : Int) 128))))), (8, .int .i64 (IntKind.i64.wrap (x10 - 1)))] (And.intro rfl (And.intro rfl (And.intro rfl (And.intro rfl trivial)))) fun j => ?_
      refine wpn_end ?_
      refine thn_i ?_
      exact ⟨n17, Nat.lt_succ_self _, (IntKind.u64.wrap ((IntKind.u64.wrap (128 * x9)) + (IntKind.u64.wrap (Int.tmod (y19.toNat : Int) 128)))), (IntKind.i64.wrap (x10 - 1)), _, And.intro rfl (And.intro rfl (And.intro rfl (And.intro rfl trivial))), hO, hL, r8, hF⟩
    · refine wpn_cF (congrArg Value.bool hb18) ?_
      refine wpn_ex ?_
      refine thn_x ?_
      refine inb_x ?_
      refine thn_i ?_
      refine wpn_qa hO [] [(6, .int .u64 x9)] (And.intro rfl trivial) fun j => ?_
      refine wpn_r1 ?_
      injection hF with hF
      subst hF
      exact hQ _ _ _ _ _ rfl hO hL ⟨rfl, rfl⟩

/-! theodolite/theodoliteref02.stands -/
theorem w_ref02_stands {τ : Hp} {v0 : Value} {p0 : (List UInt8)} {p1 : Int} {v2 : Value} {p2 : (List UInt8)} (r0 : RdT Ty.u8 τ v0 p0) (r2 : RdT Ty.u8 τ v2 p2) {rr : Bool} (hF : F_ref02_stands p0 p1 p2 = some rr) :
    Ctr Try.prog 54 #[v0, .int .i64 p1, v2] τ [] (fun v τ' vs' => v = .bool rr ∧ vs' = []) := by
  obtain ⟨A0, c0, rfl, -⟩ := r0.form
  obtain ⟨A2, c2, rfl, -⟩ := r2.form
  refine ctr_of (args := [.slice A0 p0.length c0, .int .i64 p1, .slice A2 p2.length c2]) hm Try.func54 s54 rfl fun w0 σ hO Q hQ => ?_
  unfold F_ref02_stands at hF
  have hL := Hp.le.refl τ
  show wpn _ _ a54.body _ _ _
  unfold a54
  dsimp only
  refine wpn_qa hO [] [(0, .slice A0 p0.length c0), (1, .int .i64 p1), (2, .slice A2 p2.length c2)] (And.intro rfl (And.intro rfl (And.intro rfl trivial))) fun j => ?_
  refine wpn_assoc ?_
  refine wpn_qa hO [] [(0, .slice A0 p0.length c0), (1, .int .i64 p1), (2, .slice A2 p2.length c2), (14, .bool (decide ((p2.length : Int) > (IntKind.i64.wrap ((p0.length : Int) - p1)))))] (And.intro rfl (And.intro rfl (And.intro rfl (And.intro rfl trivial)))) fun j => ?_
  rcases ite_some hF with ⟨hb1, hF⟩ | ⟨hb1, hF⟩
  · refine wpn_cT (congrArg Value.bool hb1) ?_
    refine wpn_assoc ?_
    refine wpn_qa hO [] [(6, .bool false)] (And.intro rfl trivial) fun j => ?_
    refine wpn_rt ?_
    injection hF with hF
    subst hF
    exact hQ _ _ _ _ _ rfl hO hL ⟨rfl, rfl⟩
  · refine wpn_cF (congrArg Value.bool hb1) ?_
    refine wpn_sk ?_
    refine wpn_assoc ?_
    refine wpn_qa hO [] [(0, .slice A0 p0.length c0), (1, .int .i64 p1), (2, .slice A2 p2.length c2), (7, .int .i64 0)] (And.intro rfl (And.intro rfl (And.intro rfl (And.intro rfl trivial)))) fun j => ?_
    refine wpn_bl ?_
    refine wpn_lp (fun (n : Nat) e' σ' => ∃ (x18 : Int) (τ' : Hp), agr [(0, .slice A0 p0.length c0), (1, .int .i64 p1), (2, .slice A2 p2.length c2), (7, .int .i64 x18)] e' ∧ Obs τ' σ' [] ∧ Hp.le τ τ' ∧ RdT Ty.u8 τ' (.slice A0 p0.length c0) p0 ∧ RdT Ty.u8 τ' (.slice A2 p2.length c2) p2 ∧ F_ref02_stands_l3 p0 p1 p2 n x18 = some rr) big ⟨0, _, And.intro rfl (And.intro rfl (And.intro rfl (And.intro rfl trivial))), hO, hL, r0, r2, hF⟩ ?_
    clear hF hO hL
    rintro n31 e σ ⟨x18, _, hA, hO, hL, r16, r17, hF⟩
    rw [← sets_agr _ _ hA]
    cases n31 with
    | zero => exact nomatch (show none = some rr from hF)
    | succ n31 =>
      replace hF : F_ref02_stands_l3B (F_ref02_stands_l3 p0 p1 p2 n31) p0 p1 p2 x18 = some rr := hF
      unfold F_ref02_stands_l3B at hF
      refine wpn_assoc ?_
      refine wpn_qa hO [] [(0, .slice A0 p0.length c0), (1, .int .i64 p1), (2, .slice A2 p2.length c2), (7, .int .i64 x18), (18, .bool (decide (x18 < (p2.length : Int))))] (And.intro rfl (And.intro rfl (And.intro rfl (And.intro rfl (And.intro rfl trivial))))) fun j => ?_
      rcases ite_some hF with ⟨hb32, hF⟩ | ⟨hb32, hF⟩
      · refine wpn_cT (congrArg Value.bool hb32) ?_
        refine wpn_sk ?_
        refine wpn_bl ?_
        refine wpn_p2r ?_
        refine wpn_q hO 4 [] [(0, .slice A0 p0.length c0), (1, .int .i64 p1), (2, .slice A2 p2.length c2), (7, .int .i64 x18), (21, .slice A0 p0.length c0), (24, .int .i64 (IntKind.i64.wrap (p1 + x18)))] (And.intro rfl (And.intro rfl (And.intro rfl (And.intro rfl (And.intro rfl (And.intro rfl trivial)))))) fun j => ?_
        obtain ⟨y33, g34, hF⟩ := bind_some hF
        refine wpn_idx (T := Ty.u8) r16 hO.base rfl rfl g34 (by decide) fun a35 _ k36 m37 => ?_
        obtain rfl : _ = ([.int .u8 y33.toNat] : List Value) := k36
        refine wpn_ld rfl m37.fst ?_
        refine wpn_q hO 2 [] [(0, .slice A0 p0.length c0), (1, .int .i64 p1), (2, .slice A2 p2.length c2), (7, .int .i64 x18), (26, .int .u8 (y33.toNat : Int)), (27, .slice A2 p2.length c2), (28, .int .i64 x18)] (And.intro rfl (And.intro rfl (And.intro rfl (And.intro rfl (And.intro rfl (And.intro rfl (And.intro rfl trivial))))))) fun j => ?_
        obtain ⟨y38, g39, hF⟩ := bind_some hF
        refine wpn_idx (T := Ty.u8) r17 hO.base rfl rfl g39 (by decide) fun a40 _ k41 m42 => ?_
        obtain rfl : _ = ([.int .u8 y38.toNat] : List Value) := k41
        refine wpn_ld rfl m42.fst ?_
        refine wpn_qa hO [] [(0, .slice A0 p0.length c0), (1, .int .i64 p1), (2, .slice A2 p2.length c2), (7, .int .i64 x18), (31, .bool ((y33.toNat : Int) != (y38.toNat : Int)))] (And.intro rfl (And.intro rfl (And.intro rfl (And.intro rfl (And.intro rfl trivial))))) fun j => ?_
        refine wpn_clast ?_
        rcases ite_some hF with ⟨hb43, hF⟩ | ⟨hb43, hF⟩
        · refine wpn_cT (congrArg Value.bool hb43) ?_
          refine wpn_assoc ?_
          refine wpn_qa hO [] [(6, .bool false)] (And.intro rfl trivial) fun j => ?_
          refine wpn_rt ?_
          refine inb_r1 ?_
          refine thn_r1 ?_
          refine thn_r1 ?_
          refine inb_r1 ?_
          refine thn_r1 ?_
          injection hF with hF
          subst hF
          exact hQ _ _ _ _ _ rfl hO hL ⟨rfl, rfl⟩
        · refine wpn_cF (congrArg Value.bool hb43) ?_
          refine wpn_sk ?_
          refine wpn_end ?_
          refine inb_i ?_
          refine thn_i ?_
          refine wpn_rlast ?_
          refine wpn_qa hO [] [(0, .slice A0 p0.length c0), (1, .int .i64 p1), (2, .slice A2 p2.length c2), (7, .int .i64 (IntKind.i64.wrap (x18 + 1)))] (And.intro rfl (And.intro rfl (And.intro rfl (And.intro rfl trivial)))) fun j => ?_
          refine wpn_end ?_
          refine thn_i ?_
          exact ⟨n31, Nat.lt_succ_self _, (IntKind.i64.wrap (x18 + 1)), _, And.intro rfl (And.intro rfl (And.intro rfl (And.intro rfl trivial))), hO, hL, r16, r17, hF⟩
      · refine wpn_cF (congrArg Value.bool hb32) ?_
        refine wpn_ex ?_
        refine thn_x ?_
        refine inb_x ?_
        refine thn_i ?_
        refine wpn_qa hO [] [(6, .bool true)] (And.intro rfl trivial) fun j => ?_
        refine wpn_r1 ?_
        injection hF with hF
        subst hF
        exact hQ _ _ _ _ _ rfl hO hL ⟨rfl, rfl⟩

/-! theodolite/theodolitelaw02.LebReads -/
theorem w_law02_LebReads {τ : Hp} {v0 : Value} {p0 : (List UInt8)} {p1 : Int} (r0 : RdT Ty.u8 τ v0 p0) {rr : Bool} (hF : F_law02_LebReads p0 p1 = some rr) :
    Ctr Try.prog 4 #[v0, .int .i64 p1] τ [] (fun v τ' vs' => v = .bool rr ∧ vs' = []) := by
  obtain ⟨A0, c0, rfl, -⟩ := r0.form
  refine ctr_of (args := [.slice A0 p0.length c0, .int .i64 p1]) hm Try.func4 s4 rfl fun w0 σ hO Q hQ => ?_
  unfold F_law02_LebReads at hF
  have hL := Hp.le.refl τ
  show wpn _ _ a4.body _ _ _
  unfold a4
  dsimp only
  refine wpn_qa hO [] [(0, .slice A0 p0.length c0), (1, .int .i64 p1)] (And.intro rfl (And.intro rfl trivial)) fun j => ?_
  refine wpn_assoc ?_
  refine wpn_qa hO [] [(0, .slice A0 p0.length c0), (1, .int .i64 p1), (20, .bool (decide ((p0.length : Int) > 65536)))] (And.intro rfl (And.intro rfl (And.intro rfl trivial))) fun j => ?_
  rcases ite_some hF with ⟨hb1, hF⟩ | ⟨hb1, hF⟩
  · refine wpn_cT (congrArg Value.bool hb1) ?_
    refine wpn_assoc ?_
    obtain ⟨c2, h3, hF⟩ := bind_some hF
    refine wpn_c0 hO (w_law02_works h3) rfl fun _ σ _ _ hO h4 h5 => ?_
    have hL := hL.trans h4
    have r0 := r0.le h4
    obtain ⟨rfl, rfl⟩ := h5
    have hO : Obs _ _ [] := hO
    refine wpn_qa hO [] [(4, .bool c2)] (And.intro rfl trivial) fun j => ?_
    refine wpn_rt ?_
    injection hF with hF
    subst hF
    exact hQ _ _ _ _ _ rfl hO hL ⟨rfl, rfl⟩
  · refine wpn_cF (congrArg Value.bool hb1) ?_
    refine wpn_sk ?_
    refine wpn_q hO 1 [] [(0, .slice A0 p0.length c0), (1, .int .i64 p1), (22, .slice A0 p0.length c0)] (And.intro rfl (And.intro rfl (And.intro rfl trivial))) fun j => ?_
    obtain ⟨c6, h7, hF⟩ := bind_some hF
    refine wpn_c0 hO (w_ref00_Roomy r0 h7) rfl fun _ σ _ _ hO h8 h9 => ?_
    have hL := hL.trans h8
    have r0 := r0.le h8
    obtain ⟨v10, rfl, rfl, r13, f14⟩ := h9
    obtain ⟨A11, n15, rfl, f14⟩ := f14
    obtain ⟨_, _, h16, -⟩ := r13.form
    injection h16 with _ h16 _
    subst h16
    have f14 : Full Ty.u8 _ (.slice A11 c6.1.length c6.2.length) c6.2 := ⟨_, _, rfl, f14⟩
    have hO : Obs _ _ [] := hO
    refine wpn_qa hO [] [(0, .slice A0 p0.length c0), (1, .int .i64 p1), (5, .slice A11 c6.1.length c6.2.length)] (And.intro rfl (And.intro rfl (And.intro rfl trivial))) fun j => ?_
    refine wpn_q hO 2 [] [(0, .slice A0 p0.length c0), (1, .int .i64 p1), (5, .slice A11 c6.1.length c6.2.length), (25, .slice A11 c6.1.length c6.2.length), (26, .int .i64 p1)] (And.intro rfl (And.intro rfl (And.intro rfl (And.intro rfl (And.intro rfl trivial))))) fun j => ?_
    obtain ⟨c17, h18, hF⟩ := bind_some hF
    refine wpn_c0 hO (w_leb_U r13 h18) rfl fun _ σ _ _ hO h19 h20 => ?_
    have hL := hL.trans h19
    have r0 := r0.le h19
    have r13 := r13.le h19
    have f14 := f14.le h19
    obtain ⟨rfl, rfl⟩ := h20
    have hO : Obs _ _ [] := hO
    refine wpn_qa hO [] [(0, .slice A0 p0.length c0), (1, .int .i64 p1), (5, .slice A11 c6.1.length c6.2.length), (6, .int .u64 c17.1), (7, .int .i64 c17.2.1), (8, .int .i64 c17.2.2)] (And.intro rfl (And.intro rfl (And.intro rfl (And.intro rfl (And.intro rfl (And.intro rfl trivial)))))) fun j => ?_
    refine wpn_q hO 2 [] [(0, .slice A0 p0.length c0), (1, .int .i64 p1), (5, .slice A11 c6.1.length c6.2.length), (6, .int .u64 c17.1), (7, .int .i64 c17.2.1), (8, .int .i64 c17.2.2), (32, .slice A0 p0.length c0), (33, .int .i64 p1)] (And.intro rfl (And.intro rfl (And.intro rfl (And.intro rfl (And.intro rfl (And.intro rfl (And.intro rfl (And.intro rfl trivial)))))))) fun j => ?_
    obtain ⟨c21, h22, hF⟩ := bind_some hF
    refine wpn_c0 hO (w_ref02_U r0 h22) rfl fun _ σ _ _ hO h23 h24 => ?_
    have hL := hL.trans h23
    have r0 := r0.le h23
    have r13 := r13.le h23
    have f14 := f14.le h23
    obtain ⟨rfl, rfl⟩ := h24
    have hO : Obs _ _ [] := hO
    refine wpn_qa hO [] [(0, .slice A0 p0.length c0), (1, .int .i64 p1), (5, .slice A11 c6.1.length c6.2.length), (6, .int .u64 c17.1), (7, .int .i64 c17.2.1), (8, .int .i64 c17.2.2), (9, .int .u64 c21.1), (10, .int .i64 c21.2.1), (11, .int .i64 c21.2.2)] (And.intro rfl (And.intro rfl (And.intro rfl (And.intro rfl (And.intro rfl (And.intro rfl (And.intro rfl (And.intro rfl (And.intro rfl trivial))))))))) fun j => ?_
    refine wpn_q hO 2 [] [(0, .slice A0 p0.length c0), (1, .int .i64 p1), (5, .slice A11 c6.1.length c6.2.length), (6, .int .u64 c17.1), (7, .int .i64 c17.2.1), (8, .int .i64 c17.2.2), (9, .int .u64 c21.1), (10, .int .i64 c21.2.1), (11, .int .i64 c21.2.2), (39, .slice A11 c6.1.length c6.2.length), (40, .int .i64 p1)] (And.intro rfl (And.intro rfl (And.intro rfl (And.intro rfl (And.intro rfl (And.intro rfl (And.intro rfl (And.intro rfl (And.intro rfl (And.intro rfl (And.intro rfl trivial))))))))))) fun j => ?_
    obtain ⟨c25, h26, hF⟩ := bind_some hF
    refine wpn_c0 hO (w_leb_S r13 h26) rfl fun _ σ _ _ hO h27 h28 => ?_
    have hL := hL.trans h27
    have r0 := r0.le h27
    have r13 := r13.le h27
    have f14 := f14.le h27
    obtain ⟨rfl, rfl⟩ := h28
    have hO : Obs _ _ [] := hO
    refine wpn_qa hO [] [(0, .slice A0 p0.length c0), (1, .int .i64 p1), (5, .slice A11 c6.1.length c6.2.length), (6, .int .u64 c17.1), (7, .int .i64 c17.2.1), (8, .int .i64 c17.2.2), (9, .int .u64 c21.1), (10, .int .i64 c21.2.1), (11, .int .i64 c21.2.2), (12, .int .i64 c25.1), (13, .int .i64 c25.2.1), (14, .int .i64 c25.2.2)] (And.intro rfl (And.intro rfl (And.intro rfl (And.intro rfl (And.intro rfl (And.intro rfl (And.intro rfl (And.intro rfl (And.intro rfl (And.intro rfl (And.intro rfl (And.intro rfl trivial)))))))))))) fun j => ?_
    refine wpn_q hO 2 [] [(0, .slice A0 p0.length c0), (5, .slice A11 c6.1.length c6.2.length), (6, .int .u64 c17.1), (7, .int .i64 c17.2.1), (8, .int .i64 c17.2.2), (9, .int .u64 c21.1), (10, .int .i64 c21.2.1), (11, .int .i64 c21.2.2), (12, .int .i64 c25.1), (13, .int .i64 c25.2.1), (14, .int .i64 c25.2.2), (46, .slice A0 p0.length c0), (47, .int .i64 p1)] (And.intro rfl (And.intro rfl (And.intro rfl (And.intro rfl (And.intro rfl (And.intro rfl (And.intro rfl (And.intro rfl (And.intro rfl (And.intro rfl (And.intro rfl (And.intro rfl (And.intro rfl trivial))))))))))))) fun j => ?_
    obtain ⟨c29, h30, hF⟩ := bind_some hF
    refine wpn_c0 hO (w_ref02_S r0 h30) rfl fun _ σ _ _ hO h31 h32 => ?_
    have hL := hL.trans h31
    have r0 := r0.le h31
    have r13 := r13.le h31
    have f14 := f14.le h31
    obtain ⟨rfl, rfl⟩ := h32
    have hO : Obs _ _ [] := hO
    refine wpn_qa hO [] [(0, .slice A0 p0.length c0), (5, .slice A11 c6.1.length c6.2.length), (6, .int .u64 c17.1), (7, .int .i64 c17.2.1), (8, .int .i64 c17.2.2), (9, .int .u64 c21.1), (10, .int .i64 c21.2.1), (11, .int .i64 c21.2.2), (12, .int .i64 c25.1), (13, .int .i64 c25.2.1), (14, .int .i64 c25.2.2), (15, .int .i64 c29.1), (16, .int .i64 c29.2.1), (17, .int .i64 c29.2.2)] (And.intro rfl (And.intro rfl (And.intro rfl (And.intro rfl (And.intro rfl (And.intro rfl (And.intro rfl (And.intro rfl (And.intro rfl (And.intro rfl (And.intro rfl (And.intro rfl (And.intro rfl (And.intro rfl trivial)))))))))))))) fun j => ?_
    refine wpn_q hO 19 [] [(0, .slice A0 p0.length c0), (5, .slice A11 c6.1.length c6.2.length), (80, .bool ((((((c17.1 == c21.1) && (c17.2.1 == c21.2.1)) && (c17.2.2 == c21.2.2)) && (c25.1 == c29.1)) && (c25.2.1 == c29.2.1)) && (c25.2.2 == c29.2.2)))] (And.intro (And.intro rfl rfl) (fun _ => And.intro (And.intro rfl rfl) (fun _ => And.intro (And.intro rfl rfl) (fun _ => And.intro (And.intro rfl rfl) (fun _ => And.intro (And.intro rfl rfl) (fun _ => And.intro rfl (And.intro rfl (And.intro rfl trivial)))))))) fun j => ?_
    obtain ⟨c33, h34, hF⟩ := bind_some hF
    refine wpn_mid 2 (fun e' σ' => ∃ (τ' : Hp), agr [(84, .bool c33)] e' ∧ Obs τ' σ' [] ∧ Hp.le τ τ') ?_ ?_
    · have hF := h34
      rcases ite_some hF with ⟨hb35, hF⟩ | ⟨hb35, hF⟩
      · refine wpn_gT (congrArg (fun x => isB (.bool x) true) hb35) ?_
        refine wpn_q hO 2 [] [(80, .bool ((((((c17.1 == c21.1) && (c17.2.1 == c21.2.1)) && (c17.2.2 == c21.2.2)) && (c25.1 == c29.1)) && (c25.2.1 == c29.2.1)) && (c25.2.2 == c29.2.2))), (81, .slice A11 c6.1.length c6.2.length), (82, .slice A0 p0.length c0)] (And.intro rfl (And.intro rfl (And.intro rfl trivial))) fun j => ?_
        obtain ⟨c36, h37, hF⟩ := bind_some hF
        refine wpn_c0 hO (w_ref00_Kept r13 f14 r0 h37) rfl fun _ σ _ _ hO h38 h39 => ?_
        have hL := hL.trans h38
        have r13 := r13.le h38
        have f14 := f14.le h38
        have r0 := r0.le h38
        obtain ⟨rfl, rfl⟩ := h39
        have hO : Obs _ _ [] := hO
        refine wpn_pk (congrArg Value.bool hb35) ?_
        refine wpn_nil ?_
        injection hF with hF
        subst hF
        refine wpn_end ?_
        exact ⟨rfl, _, And.intro rfl (trivial), hO, hL⟩
      · refine wpn_gF (congrArg (fun x => isB (.bool x) true) hb35) ?_
        refine wpn_pk (congrArg Value.bool hb35) ?_
        refine wpn_nil ?_
        injection hF with hF
        subst hF
        refine wpn_end ?_
        exact ⟨rfl, _, And.intro rfl (trivial), hO, hL⟩
    · rintro e σ ⟨_, hA, hO, hL⟩
      rw [← sets_agr _ _ hA]
      refine wpn_q hO 1 [] [(85, .bool c33)] (And.intro rfl trivial) fun j => ?_
      obtain ⟨c40, h41, hF⟩ := bind_some hF
      refine wpn_mid 2 (fun e' σ' => ∃ (τ' : Hp), agr [(87, .bool c40)] e' ∧ Obs τ' σ' [] ∧ Hp.le τ τ') ?_ ?_
      · have hF := h41
        rcases ite_some hF with ⟨hb42, hF⟩ | ⟨hb42, hF⟩
        · refine wpn_gT (congrArg (fun x => isB (.bool x) true) hb42) ?_
          obtain ⟨c43, h44, hF⟩ := bind_some hF
          refine wpn_c0 hO (w_law02_works h44) rfl fun _ σ _ _ hO h45 h46 => ?_
          have hL := hL.trans h45
          obtain ⟨rfl, rfl⟩ := h46
          have hO : Obs _ _ [] := hO
          refine wpn_pk (congrArg Value.bool hb42) ?_
          refine wpn_nil ?_
          injection hF with hF
          subst hF
          refine wpn_end ?_
          exact ⟨rfl, _, And.intro rfl (trivial), hO, hL⟩
        · refine wpn_gF (congrArg (fun x => isB (.bool x) true) hb42) ?_
          refine wpn_pk (congrArg Value.bool hb42) ?_
          refine wpn_nil ?_
          injection hF with hF
          subst hF
          refine wpn_end ?_
          exact ⟨rfl, _, And.intro rfl (trivial), hO, hL⟩
      · rintro e σ ⟨_, hA, hO, hL⟩
        rw [← sets_agr _ _ hA]
        refine wpn_qa hO [] [(4, .bool c40)] (And.intro rfl trivial) fun j => ?_
        refine wpn_r1 ?_
        injection hF with hF
        subst hF
        exact hQ _ _ _ _ _ rfl hO hL ⟨rfl, rfl⟩

/-! theodolite/theodolitelaw02.LebBack -/
theorem w_law02_LebBack {τ : Hp} {v0 : Value} {p0 : (List UInt8)} {p1 : Int} {v2 : Value} {p2 : (List UInt8)} (r0 : RdT Ty.u8 τ v0 p0) (r2 : RdT Ty.u8 τ v2 p2) {rr : Bool} (hF : F_law02_LebBack p0 p1 p2 = some rr) :
    Ctr Try.prog 5 #[v0, .int .u64 p1, v2] τ [] (fun v τ' vs' => v = .bool rr ∧ vs' = []) := by
  obtain ⟨A0, c0, rfl, -⟩ := r0.form
  obtain ⟨A2, c2, rfl, -⟩ := r2.form
  refine ctr_of (args := [.slice A0 p0.length c0, .int .u64 p1, .slice A2 p2.length c2]) hm Try.func5 s5 rfl fun w0 σ hO Q hQ => ?_
  unfold F_law02_LebBack at hF
  have hL := Hp.le.refl τ
  show wpn _ _ a5.body _ _ _
  unfold a5
  dsimp only
  refine wpn_qa hO [] [(0, .slice A0 p0.length c0), (1, .int .u64 p1), (2, .slice A2 p2.length c2)] (And.intro rfl (And.intro rfl (And.intro rfl trivial))) fun j => ?_
  refine wpn_assoc ?_
  refine wpn_qa hO [] [(0, .slice A0 p0.length c0), (1, .int .u64 p1), (2, .slice A2 p2.length c2), (31, .bool ((decide ((p0.length : Int) > 1024)) || (decide ((p2.length : Int) > 1024))))] (And.intro (And.intro rfl rfl) (fun _ => And.intro rfl (And.intro rfl (And.intro rfl (And.intro rfl trivial))))) fun j => ?_
  rcases ite_some hF with ⟨hb1, hF⟩ | ⟨hb1, hF⟩
  · refine wpn_cT (congrArg Value.bool hb1) ?_
    refine wpn_assoc ?_
    obtain ⟨c2, h3, hF⟩ := bind_some hF
    refine wpn_c0 hO (w_law02_works h3) rfl fun _ σ _ _ hO h4 h5 => ?_
    have hL := hL.trans h4
    have r0 := r0.le h4
    have r2 := r2.le h4
    obtain ⟨rfl, rfl⟩ := h5
    have hO : Obs _ _ [] := hO
    refine wpn_qa hO [] [(6, .bool c2)] (And.intro rfl trivial) fun j => ?_
    refine wpn_rt ?_
    injection hF with hF
    subst hF
    exact hQ _ _ _ _ _ rfl hO hL ⟨rfl, rfl⟩
  · refine wpn_cF (congrArg Value.bool hb1) ?_
    refine wpn_sk ?_
    refine wpn_qa hO [] [(0, .slice A0 p0.length c0), (1, .int .u64 p1), (2, .slice A2 p2.length c2), (7, .int .i64 (p0.length : Int))] (And.intro rfl (And.intro rfl (And.intro rfl (And.intro rfl trivial)))) fun j => ?_
    refine wpn_q hO 2 [] [(0, .slice A0 p0.length c0), (1, .int .u64 p1), (2, .slice A2 p2.length c2), (7, .int .i64 (p0.length : Int)), (35, .slice A0 p0.length c0), (36, .int .u64 p1)] (And.intro rfl (And.intro rfl (And.intro rfl (And.intro rfl (And.intro rfl (And.intro rfl trivial)))))) fun j => ?_
    obtain ⟨c6, h7, hF⟩ := bind_some hF
    refine wpn_c0 hO (w_leb_PutU r0 h7) rfl fun _ σ _ _ hO h8 h9 => ?_
    have hL := hL.trans h8
    have r0 := r0.le h8
    have r2 := r2.le h8
    obtain ⟨v10, o13, rfl, rfl, w14⟩ := h9
    obtain ⟨A11, c12, rfl, -⟩ := w14.form
    have hO : Obs _ _ [_] := hO
    refine wpn_qa hO [] [(0, .slice A0 p0.length c0), (1, .int .u64 p1), (2, .slice A2 p2.length c2), (7, .int .i64 (p0.length : Int)), (8, .slice A11 c6.length c12)] (And.intro rfl (And.intro rfl (And.intro rfl (And.intro rfl (And.intro rfl trivial))))) fun j => ?_
    refine wpn_q hO 3 [] [(1, .int .u64 p1), (2, .slice A2 p2.length c2), (7, .int .i64 (p0.length : Int)), (8, .slice A11 c6.length c12), (38, .slice A0 p0.length c0), (40, .int .i64 (IntKind.i64.wrap p1))] (And.intro rfl (And.intro rfl (And.intro rfl (And.intro rfl (And.intro rfl (And.intro rfl trivial)))))) fun j => ?_
    obtain ⟨c15, h16, hF⟩ := bind_some hF
    refine wpn_c0 hO (w_leb_PutS r0 h16) rfl fun _ σ _ _ hO h17 h18 => ?_
    have hL := hL.trans h17
    have r2 := r2.le h17
    have w14 := w14.le h17
    have r0 := r0.le h17
    obtain ⟨v19, o22, rfl, rfl, w23⟩ := h18
    obtain ⟨A20, c21, rfl, -⟩ := w23.form
    have hO : Obs _ _ [_, _] := hO
    refine wpn_qa hO [] [(1, .int .u64 p1), (2, .slice A2 p2.length c2), (7, .int .i64 (p0.length : Int)), (8, .slice A11 c6.length c12), (9, .slice A20 c15.length c21)] (And.intro rfl (And.intro rfl (And.intro rfl (And.intro rfl (And.intro rfl trivial))))) fun j => ?_
    refine wpn_assoc ?_
    refine wpn_qa hO [] [(1, .int .u64 p1), (2, .slice A2 p2.length c2), (7, .int .i64 (p0.length : Int)), (8, .slice A11 c6.length c12), (9, .slice A20 c15.length c21), (51, .bool ((decide ((c6.length : Int) ≤ (p0.length : Int))) || (decide ((c15.length : Int) ≤ (p0.length : Int)))))] (And.intro (And.intro rfl rfl) (fun _ => And.intro rfl (And.intro rfl (And.intro rfl (And.intro rfl (And.intro rfl (And.intro rfl trivial))))))) fun j => ?_
    rcases ite_some hF with ⟨hb24, hF⟩ | ⟨hb24, hF⟩
    · refine wpn_cT (congrArg Value.bool hb24) ?_
      refine wpn_assoc ?_
      refine wpn_qa hO [] [(6, .bool false)] (And.intro rfl trivial) fun j => ?_
      refine wpn_rt ?_
      injection hF with hF
      subst hF
      have hO := hO.sel [] (by decide)
      exact hQ _ _ _ _ _ rfl hO hL ⟨rfl, rfl⟩
    · refine wpn_cF (congrArg Value.bool hb24) ?_
      refine wpn_sk ?_
      refine wpn_q hO 1 [] [(1, .int .u64 p1), (2, .slice A2 p2.length c2), (7, .int .i64 (p0.length : Int)), (8, .slice A11 c6.length c12), (9, .slice A20 c15.length c21), (53, .slice A11 c6.length c12)] (And.intro rfl (And.intro rfl (And.intro rfl (And.intro rfl (And.intro rfl (And.intro rfl trivial)))))) fun j => ?_
      obtain ⟨_, h26, r25, hO⟩ := w14.share hO (i := 0) rfl
      have hL := hL.trans h26
      have r2 := r2.le h26
      have w23 := w23.le h26
      have hO : Obs _ _ [_, _] := hO
      obtain ⟨c27, h28, hF⟩ := bind_some hF
      refine wpn_c0 hO (w_ref00_CopyBytes r25 h28) rfl fun _ σ _ _ hO h29 h30 => ?_
      have hL := hL.trans h29
      have r2 := r2.le h29
      have r25 := r25.le h29
      have w23 := w23.le h29
      obtain ⟨v31, o34, rfl, rfl, w35⟩ := h30
      obtain ⟨A32, c33, rfl, -⟩ := w35.form
      have hO : Obs _ _ [_, _, _] := hO
      refine wpn_q hO 1 [] [(1, .int .u64 p1), (2, .slice A2 p2.length c2), (7, .int .i64 (p0.length : Int)), (8, .slice A11 c6.length c12), (9, .slice A20 c15.length c21), (54, .slice A32 c27.length c33), (55, .slice A2 p2.length c2)] (And.intro rfl (And.intro rfl (And.intro rfl (And.intro rfl (And.intro rfl (And.intro rfl (And.intro rfl trivial))))))) fun j => ?_
      obtain ⟨_, hr, hF⟩ := bind_some hF
      refine wpn_apl (T := Ty.u8) hO w35 (i := 2) rfl rfl rfl r2 hr (by decide) fun _ σ o38 w39 hO => ?_
      obtain ⟨A36, c37, rfl, -⟩ := w39.form
      have hO : Obs _ _ [_, _, _] := hO
      refine wpn_q hO 1 [] [(1, .int .u64 p1), (2, .slice A2 p2.length c2), (7, .int .i64 (p0.length : Int)), (8, .slice A11 c6.length c12), (9, .slice A20 c15.length c21), (56, .slice A36 (c27 ++ p2).length c37), (57, .int .i64 (p0.length : Int))] (And.intro rfl (And.intro rfl (And.intro rfl (And.intro rfl (And.intro rfl (And.intro rfl (And.intro rfl trivial))))))) fun j => ?_
      obtain ⟨_, h41, r40, hO⟩ := w39.share hO (i := 2) rfl
      have hL := hL.trans h41
      have r2 := r2.le h41
      have r25 := r25.le h41
      have w23 := w23.le h41
      have hO : Obs _ _ [_, _, _] := hO
      obtain ⟨c42, h43, hF⟩ := bind_some hF
      refine wpn_c0 hO (w_leb_U r40 h43) rfl fun _ σ _ _ hO h44 h45 => ?_
      have hL := hL.trans h44
      have r2 := r2.le h44
      have r25 := r25.le h44
      have w23 := w23.le h44
      have r40 := r40.le h44
      obtain ⟨rfl, rfl⟩ := h45
      have hO : Obs _ _ [_, _, _] := hO
      refine wpn_qa hO [] [(1, .int .u64 p1), (2, .slice A2 p2.length c2), (7, .int .i64 (p0.length : Int)), (8, .slice A11 c6.length c12), (9, .slice A20 c15.length c21), (10, .int .u64 c42.1), (11, .int .i64 c42.2.1), (12, .int .i64 c42.2.2)] (And.intro rfl (And.intro rfl (And.intro rfl (And.intro rfl (And.intro rfl (And.intro rfl (And.intro rfl (And.intro rfl trivial)))))))) fun j => ?_
      refine wpn_q hO 1 [] [(1, .int .u64 p1), (2, .slice A2 p2.length c2), (7, .int .i64 (p0.length : Int)), (8, .slice A11 c6.length c12), (9, .slice A20 c15.length c21), (10, .int .u64 c42.1), (11, .int .i64 c42.2.1), (12, .int .i64 c42.2.2), (63, .slice A20 c15.length c21)] (And.intro rfl (And.intro rfl (And.intro rfl (And.intro rfl (And.intro rfl (And.intro rfl (And.intro rfl (And.intro rfl (And.intro rfl trivial))))))))) fun j => ?_
      obtain ⟨_, h47, r46, hO⟩ := w23.share hO (i := 1) rfl
      have hL := hL.trans h47
      have r2 := r2.le h47
      have r25 := r25.le h47
      have hO : Obs _ _ [_, _, _] := hO
      obtain ⟨c48, h49, hF⟩ := bind_some hF
      refine wpn_c0 hO (w_ref00_CopyBytes r46 h49) rfl fun _ σ _ _ hO h50 h51 => ?_
      have hL := hL.trans h50
      have r2 := r2.le h50
      have r25 := r25.le h50
      have r46 := r46.le h50
      obtain ⟨v52, o55, rfl, rfl, w56⟩ := h51
      obtain ⟨A53, c54, rfl, -⟩ := w56.form
      have hO : Obs _ _ [_, _, _, _] := hO
      refine wpn_q hO 1 [] [(1, .int .u64 p1), (7, .int .i64 (p0.length : Int)), (8, .slice A11 c6.length c12), (9, .slice A20 c15.length c21), (10, .int .u64 c42.1), (11, .int .i64 c42.2.1), (12, .int .i64 c42.2.2), (64, .slice A53 c48.length c54), (65, .slice A2 p2.length c2)] (And.intro rfl (And.intro rfl (And.intro rfl (And.intro rfl (And.intro rfl (And.intro rfl (And.intro rfl (And.intro rfl (And.intro rfl trivial))))))))) fun j => ?_
      obtain ⟨_, hr, hF⟩ := bind_some hF
      refine wpn_apl (T := Ty.u8) hO w56 (i := 3) rfl rfl rfl r2 hr (by decide) fun _ σ o59 w60 hO => ?_
      obtain ⟨A57, c58, rfl, -⟩ := w60.form
      have hO : Obs _ _ [_, _, _, _] := hO
      refine wpn_q hO 1 [] [(1, .int .u64 p1), (7, .int .i64 (p0.length : Int)), (8, .slice A11 c6.length c12), (9, .slice A20 c15.length c21), (10, .int .u64 c42.1), (11, .int .i64 c42.2.1), (12, .int .i64 c42.2.2), (66, .slice A57 (c48 ++ p2).length c58), (67, .int .i64 (p0.length : Int))] (And.intro rfl (And.intro rfl (And.intro rfl (And.intro rfl (And.intro rfl (And.intro rfl (And.intro rfl (And.intro rfl (And.intro rfl trivial))))))))) fun j => ?_
      obtain ⟨_, h62, r61, hO⟩ := w60.share hO (i := 3) rfl
      have hL := hL.trans h62
      have r25 := r25.le h62
      have r46 := r46.le h62
      have hO : Obs _ _ [_, _, _, _] := hO
      obtain ⟨c63, h64, hF⟩ := bind_some hF
      refine wpn_c0 hO (w_leb_S r61 h64) rfl fun _ σ _ _ hO h65 h66 => ?_
      have hL := hL.trans h65
      have r25 := r25.le h65
      have r46 := r46.le h65
      have r61 := r61.le h65
      obtain ⟨rfl, rfl⟩ := h66
      have hO : Obs _ _ [_, _, _, _] := hO
      refine wpn_qa hO [] [(1, .int .u64 p1), (7, .int .i64 (p0.length : Int)), (8, .slice A11 c6.length c12), (9, .slice A20 c15.length c21), (10, .int .u64 c42.1), (11, .int .i64 c42.2.1), (12, .int .i64 c42.2.2), (13, .int .i64 c63.1), (14, .int .i64 c63.2.1), (15, .int .i64 c63.2.2)] (And.intro rfl (And.intro rfl (And.intro rfl (And.intro rfl (And.intro rfl (And.intro rfl (And.intro rfl (And.intro rfl (And.intro rfl (And.intro rfl trivial)))))))))) fun j => ?_
      refine wpn_assoc ?_
      refine wpn_qa hO [] [(7, .int .i64 (p0.length : Int)), (8, .slice A11 c6.length c12), (9, .slice A20 c15.length c21), (100, .bool ((((((c42.1 != p1) || (c42.2.1 != (c6.length : Int))) || (c42.2.2 != 0)) || (c63.1 != (IntKind.i64.wrap p1))) || (c63.2.1 != (c15.length : Int))) || (c63.2.2 != 0)))] (And.intro (And.intro rfl rfl) (fun _ => And.intro (And.intro rfl rfl) (fun _ => And.intro (And.intro rfl rfl) (fun _ => And.intro (And.intro rfl rfl) (fun _ => And.intro (And.intro rfl rfl) (fun _ => And.intro rfl (And.intro rfl (And.intro rfl (And.intro rfl trivial))))))))) fun j => ?_
      rcases ite_some hF with ⟨hb67, hF⟩ | ⟨hb67, hF⟩
      · refine wpn_cT (congrArg Value.bool hb67) ?_
        refine wpn_assoc ?_
        refine wpn_qa hO [] [(6, .bool false)] (And.intro rfl trivial) fun j => ?_
        refine wpn_rt ?_
        injection hF with hF
        subst hF
        have hO := hO.sel [] (by decide)
        exact hQ _ _ _ _ _ rfl hO hL ⟨rfl, rfl⟩
      · refine wpn_cF (congrArg Value.bool hb67) ?_
        refine wpn_sk ?_
        refine wpn_assoc ?_
        refine wpn_qa hO [] [(7, .int .i64 (p0.length : Int)), (8, .slice A11 c6.length c12), (9, .slice A20 c15.length c21), (16, .int .i64 (p0.length : Int))] (And.intro rfl (And.intro rfl (And.intro rfl (And.intro rfl trivial)))) fun j => ?_
        refine wpn_bl ?_
        have hO := hO.sel [] (by decide)
        refine wpn_lp (fun (n : Nat) e' σ' => ∃ (x132 : Int) (τ' : Hp), agr [(7, .int .i64 (p0.length : Int)), (8, .slice A11 c6.length c12), (9, .slice A20 c15.length c21), (16, .int .i64 x132)] e' ∧ Obs τ' σ' [] ∧ Hp.le τ τ' ∧ RdT Ty.u8 τ' (.slice A11 c6.length c12) c6 ∧ RdT Ty.u8 τ' (.slice A20 c15.length c21) c15 ∧ F_law02_LebBack_l13 p0 c6 c15 n x132 = some rr) big ⟨(p0.length : Int), _, And.intro rfl (And.intro rfl (And.intro rfl (And.intro rfl trivial))), hO, hL, r25, r46, hF⟩ ?_
        clear hF hO hL
        rintro n193 e σ ⟨x132, _, hA, hO, hL, r130, r131, hF⟩
        rw [← sets_agr _ _ hA]
        cases n193 with
        | zero => exact nomatch (show none = some rr from hF)
        | succ n193 =>
          replace hF : F_law02_LebBack_l13B (F_law02_LebBack_l13 p0 c6 c15 n193) p0 c6 c15 x132 = some rr := hF
          unfold F_law02_LebBack_l13B at hF
          refine wpn_assoc ?_
          refine wpn_qa hO [] [(7, .int .i64 (p0.length : Int)), (8, .slice A11 c6.length c12), (9, .slice A20 c15.length c21), (16, .int .i64 x132), (105, .bool (decide (x132 < (c6.length : Int))))] (And.intro rfl (And.intro rfl (And.intro rfl (And.intro rfl (And.intro rfl trivial))))) fun j => ?_
          rcases ite_some hF with ⟨hb194, hF⟩ | ⟨hb194, hF⟩
          · refine wpn_cT (congrArg Value.bool hb194) ?_
            refine wpn_sk ?_
            refine wpn_bl ?_
            refine wpn_q hO 2 [] [(7, .int .i64 (p0.length : Int)), (8, .slice A11 c6.length c12), (9, .slice A20 c15.length c21), (16, .int .i64 x132), (109, .slice A11 c6.length c12), (110, .int .i64 x132)] (And.intro rfl (And.intro rfl (And.intro rfl (And.intro rfl (And.intro rfl (And.intro rfl trivial)))))) fun j => ?_
            obtain ⟨y195, g196, hF⟩ := bind_some hF
            refine wpn_sl (T := Ty.u8) r130 rfl rfl rfl g196 fun _ r197 => ?_
            obtain ⟨A198, c199, rfl, -⟩ := r197.form
            refine wpn_q hO 1 [] [(7, .int .i64 (p0.length : Int)), (8, .slice A11 c6.length c12), (9, .slice A20 c15.length c21), (16, .int .i64 x132), (111, .slice A198 y195.length c199), (112, .int .i64 (p0.length : Int))] (And.intro rfl (And.intro rfl (And.intro rfl (And.intro rfl (And.intro rfl (And.intro rfl trivial)))))) fun j => ?_
            obtain ⟨c200, h201, hF⟩ := bind_some hF
            refine wpn_c0 hO (w_leb_U r197 h201) rfl fun _ σ _ _ hO h202 h203 => ?_
            have hL := hL.trans h202
            have r130 := r130.le h202
            have r131 := r131.le h202
            have r197 := r197.le h202
            obtain ⟨rfl, rfl⟩ := h203
            have hO : Obs _ _ [] := hO
            refine wpn_qa hO [] [(7, .int .i64 (p0.length : Int)), (8, .slice A11 c6.length c12), (9, .slice A20 c15.length c21), (16, .int .i64 x132), (19, .int .i64 c200.2.2)] (And.intro rfl (And.intro rfl (And.intro rfl (And.intro rfl (And.intro rfl trivial))))) fun j => ?_
            refine wpn_qa hO [] [(7, .int .i64 (p0.length : Int)), (8, .slice A11 c6.length c12), (9, .slice A20 c15.length c21), (16, .int .i64 x132), (118, .bool (c200.2.2 == 0))] (And.intro rfl (And.intro rfl (And.intro rfl (And.intro rfl (And.intro rfl trivial))))) fun j => ?_
            refine wpn_clast ?_
            rcases ite_some hF with ⟨hb204, hF⟩ | ⟨hb204, hF⟩
            · refine wpn_cT (congrArg Value.bool hb204) ?_
              refine wpn_assoc ?_
              refine wpn_qa hO [] [(6, .bool false)] (And.intro rfl trivial) fun j => ?_
              refine wpn_rt ?_
              refine inb_r1 ?_
              refine thn_r1 ?_
              refine thn_r1 ?_
              refine inb_r1 ?_
              refine thn_r1 ?_
              injection hF with hF
              subst hF
              exact hQ _ _ _ _ _ rfl hO hL ⟨rfl, rfl⟩
            · refine wpn_cF (congrArg Value.bool hb204) ?_
              refine wpn_sk ?_
              refine wpn_end ?_
              refine inb_i ?_
              refine thn_i ?_
              refine wpn_rlast ?_
              refine wpn_qa hO [] [(7, .int .i64 (p0.length : Int)), (8, .slice A11 c6.length c12), (9, .slice A20 c15.length c21), (16, .int .i64 (IntKind.i64.wrap (x132 + 1)))] (And.intro rfl (And.intro rfl (And.intro rfl (And.intro rfl trivial)))) fun j => ?_
              refine wpn_end ?_
              refine thn_i ?_
              exact ⟨n193, Nat.lt_succ_self _, (IntKind.i64.wrap (x132 + 1)), _, And.intro rfl (And.intro rfl (And.intro rfl (And.intro rfl trivial))), hO, hL, r130, r131, hF⟩
          · refine wpn_cF (congrArg Value.bool hb194) ?_
            refine wpn_ex ?_
            refine thn_x ?_
            refine inb_x ?_
            refine thn_i ?_
            refine wpn_assoc ?_
            refine wpn_qa hO [] [(7, .int .i64 (p0.length : Int)), (9, .slice A20 c15.length c21), (20, .int .i64 (p0.length : Int))] (And.intro rfl (And.intro rfl (And.intro rfl trivial))) fun j => ?_
            refine wpn_bl ?_
            refine wpn_lp (fun (n : Nat) e' σ' => ∃ (x222 : Int) (τ' : Hp), agr [(7, .int .i64 (p0.length : Int)), (9, .slice A20 c15.length c21), (20, .int .i64 x222)] e' ∧ Obs τ' σ' [] ∧ Hp.le τ τ' ∧ RdT Ty.u8 τ' (.slice A20 c15.length c21) c15 ∧ F_law02_LebBack_l15 p0 c15 n x222 = some rr) big ⟨(p0.length : Int), _, And.intro rfl (And.intro rfl (And.intro rfl trivial)), hO, hL, r131, hF⟩ ?_
            clear hF hO hL
            rintro n238 e σ ⟨x222, _, hA, hO, hL, r221, hF⟩
            rw [← sets_agr _ _ hA]
            cases n238 with
            | zero => exact nomatch (show none = some rr from hF)
            | succ n238 =>
              replace hF : F_law02_LebBack_l15B (F_law02_LebBack_l15 p0 c15 n238) p0 c15 x222 = some rr := hF
              unfold F_law02_LebBack_l15B at hF
              refine wpn_assoc ?_
              refine wpn_qa hO [] [(7, .int .i64 (p0.length : Int)), (9, .slice A20 c15.length c21), (20, .int .i64 x222), (123, .bool (decide (x222 < (c15.length : Int))))] (And.intro rfl (And.intro rfl (And.intro rfl (And.intro rfl trivial)))) fun j => ?_
              rcases ite_some hF with ⟨hb239, hF⟩ | ⟨hb239, hF⟩
              · refine wpn_cT (congrArg Value.bool hb239) ?_
                refine wpn_sk ?_
                refine wpn_bl ?_
                refine wpn_q hO 2 [] [(7, .int .i64 (p0.length : Int)), (9, .slice A20 c15.length c21), (20, .int .i64 x222), (127, .slice A20 c15.length c21), (128, .int .i64 x222)] (And.intro rfl (And.intro rfl (And.intro rfl (And.intro rfl (And.intro rfl trivial))))) fun j => ?_
                obtain ⟨y240, g241, hF⟩ := bind_some hF
                refine wpn_sl (T := Ty.u8) r221 rfl rfl rfl g241 fun _ r242 => ?_
                obtain ⟨A243, c244, rfl, -⟩ := r242.form
                refine wpn_q hO 1 [] [(7, .int .i64 (p0.length : Int)), (9, .slice A20 c15.length c21), (20, .int .i64 x222), (129, .slice A243 y240.length c244), (130, .int .i64 (p0.length : Int))] (And.intro rfl (And.intro rfl (And.intro rfl (And.intro rfl (And.intro rfl trivial))))) fun j => ?_
                obtain ⟨c245, h246, hF⟩ := bind_some hF
                refine wpn_c0 hO (w_leb_S r242 h246) rfl fun _ σ _ _ hO h247 h248 => ?_
                have hL := hL.trans h247
                have r221 := r221.le h247
                have r242 := r242.le h247
                obtain ⟨rfl, rfl⟩ := h248
                have hO : Obs _ _ [] := hO
                refine wpn_qa hO [] [(7, .int .i64 (p0.length : Int)), (9, .slice A20 c15.length c21), (20, .int .i64 x222), (23, .int .i64 c245.2.2)] (And.intro rfl (And.intro rfl (And.intro rfl (And.intro rfl trivial)))) fun j => ?_
                refine wpn_qa hO [] [(7, .int .i64 (p0.length : Int)), (9, .slice A20 c15.length c21), (20, .int .i64 x222), (136, .bool (c245.2.2 == 0))] (And.intro rfl (And.intro rfl (And.intro rfl (And.intro rfl trivial)))) fun j => ?_
                refine wpn_clast ?_
                rcases ite_some hF with ⟨hb249, hF⟩ | ⟨hb249, hF⟩
                · refine wpn_cT (congrArg Value.bool hb249) ?_
                  refine wpn_assoc ?_
                  refine wpn_qa hO [] [(6, .bool false)] (And.intro rfl trivial) fun j => ?_
                  refine wpn_rt ?_
                  refine inb_r1 ?_
                  refine thn_r1 ?_
                  refine thn_r1 ?_
                  refine inb_r1 ?_
                  refine thn_r1 ?_
                  injection hF with hF
                  subst hF
                  exact hQ _ _ _ _ _ rfl hO hL ⟨rfl, rfl⟩
                · refine wpn_cF (congrArg Value.bool hb249) ?_
                  refine wpn_sk ?_
                  refine wpn_end ?_
                  refine inb_i ?_
                  refine thn_i ?_
                  refine wpn_rlast ?_
                  refine wpn_qa hO [] [(7, .int .i64 (p0.length : Int)), (9, .slice A20 c15.length c21), (20, .int .i64 (IntKind.i64.wrap (x222 + 1)))] (And.intro rfl (And.intro rfl (And.intro rfl trivial))) fun j => ?_
                  refine wpn_end ?_
                  refine thn_i ?_
                  exact ⟨n238, Nat.lt_succ_self _, (IntKind.i64.wrap (x222 + 1)), _, And.intro rfl (And.intro rfl (And.intro rfl trivial)), hO, hL, r221, hF⟩
              · refine wpn_cF (congrArg Value.bool hb239) ?_
                refine wpn_ex ?_
                refine thn_x ?_
                refine inb_x ?_
                refine thn_i ?_
                obtain ⟨c250, h251, hF⟩ := bind_some hF
                refine wpn_c0 hO (w_law02_works h251) rfl fun _ σ _ _ hO h252 h253 => ?_
                have hL := hL.trans h252
                have r221 := r221.le h252
                obtain ⟨rfl, rfl⟩ := h253
                have hO : Obs _ _ [] := hO
                refine wpn_qa hO [] [(6, .bool c250)] (And.intro rfl trivial) fun j => ?_
                refine wpn_r1 ?_
                injection hF with hF
                subst hF
                exact hQ _ _ _ _ _ rfl hO hL ⟨rfl, rfl⟩

/-! theodolite/theodolitelaw02.LebOne -/
theorem w_law02_LebOne {τ : Hp} {v0 : Value} {p0 : (List UInt8)} {p1 : Int} (r0 : RdT Ty.u8 τ v0 p0) {rr : Bool} (hF : F_law02_LebOne p0 p1 = some rr) :
    Ctr Try.prog 6 #[v0, .int .i64 p1] τ [] (fun v τ' vs' => v = .bool rr ∧ vs' = []) := by
  obtain ⟨A0, c0, rfl, -⟩ := r0.form
  refine ctr_of (args := [.slice A0 p0.length c0, .int .i64 p1]) hm Try.func6 s6 rfl fun w0 σ hO Q hQ => ?_
  unfold F_law02_LebOne at hF
  have hL := Hp.le.refl τ
  show wpn _ _ a6.body _ _ _
  unfold a6
  dsimp only
  refine wpn_qa hO [] [(0, .slice A0 p0.length c0), (1, .int .i64 p1)] (And.intro rfl (And.intro rfl trivial)) fun j => ?_
  refine wpn_assoc ?_
  refine wpn_qa hO [] [(0, .slice A0 p0.length c0), (1, .int .i64 p1), (13, .bool (decide ((p0.length : Int) > 1024)))] (And.intro rfl (And.intro rfl (And.intro rfl trivial))) fun j => ?_
  rcases ite_some hF with ⟨hb1, hF⟩ | ⟨hb1, hF⟩
  · refine wpn_cT (congrArg Value.bool hb1) ?_
    refine wpn_assoc ?_
    obtain ⟨c2, h3, hF⟩ := bind_some hF
    refine wpn_c0 hO (w_law02_works h3) rfl fun _ σ _ _ hO h4 h5 => ?_
    have hL := hL.trans h4
    have r0 := r0.le h4
    obtain ⟨rfl, rfl⟩ := h5
    have hO : Obs _ _ [] := hO
    refine wpn_qa hO [] [(4, .bool c2)] (And.intro rfl trivial) fun j => ?_
    refine wpn_rt ?_
    injection hF with hF
    subst hF
    exact hQ _ _ _ _ _ rfl hO hL ⟨rfl, rfl⟩
  · refine wpn_cF (congrArg Value.bool hb1) ?_
    refine wpn_sk ?_
    refine wpn_q hO 2 [] [(0, .slice A0 p0.length c0), (1, .int .i64 p1), (16, .slice A0 p0.length c0), (17, .int .i64 p1)] (And.intro rfl (And.intro rfl (And.intro rfl (And.intro rfl trivial)))) fun j => ?_
    obtain ⟨c6, h7, hF⟩ := bind_some hF
    refine wpn_c0 hO (w_leb_U r0 h7) rfl fun _ σ _ _ hO h8 h9 => ?_
    have hL := hL.trans h8
    have r0 := r0.le h8
    obtain ⟨rfl, rfl⟩ := h9
    have hO : Obs _ _ [] := hO
    refine wpn_qa hO [] [(0, .slice A0 p0.length c0), (1, .int .i64 p1), (5, .int .u64 c6.1), (6, .int .i64 c6.2.1), (7, .int .i64 c6.2.2)] (And.intro rfl (And.intro rfl (And.intro rfl (And.intro rfl (And.intro rfl trivial))))) fun j => ?_
    refine wpn_q hO 2 [] [(0, .slice A0 p0.length c0), (1, .int .i64 p1), (5, .int .u64 c6.1), (6, .int .i64 c6.2.1), (7, .int .i64 c6.2.2), (23, .slice A0 p0.length c0), (24, .int .i64 p1)] (And.intro rfl (And.intro rfl (And.intro rfl (And.intro rfl (And.intro rfl (And.intro rfl (And.intro rfl trivial))))))) fun j => ?_
    obtain ⟨c10, h11, hF⟩ := bind_some hF
    refine wpn_c0 hO (w_leb_S r0 h11) rfl fun _ σ _ _ hO h12 h13 => ?_
    have hL := hL.trans h12
    have r0 := r0.le h12
    obtain ⟨rfl, rfl⟩ := h13
    have hO : Obs _ _ [] := hO
    refine wpn_qa hO [] [(0, .slice A0 p0.length c0), (1, .int .i64 p1), (5, .int .u64 c6.1), (6, .int .i64 c6.2.1), (7, .int .i64 c6.2.2), (8, .int .i64 c10.1), (9, .int .i64 c10.2.1), (10, .int .i64 c10.2.2)] (And.intro rfl (And.intro rfl (And.intro rfl (And.intro rfl (And.intro rfl (And.intro rfl (And.intro rfl (And.intro rfl trivial)))))))) fun j => ?_
    refine wpn_assoc ?_
    refine wpn_p2r ?_
    refine wpn_q hO 3 [] [(0, .slice A0 p0.length c0), (1, .int .i64 p1), (5, .int .u64 c6.1), (6, .int .i64 c6.2.1), (7, .int .i64 c6.2.2), (8, .int .i64 c10.1), (9, .int .i64 c10.2.1), (10, .int .i64 c10.2.2), (31, .bool (c6.2.2 == 0))] (And.intro rfl (And.intro rfl (And.intro rfl (And.intro rfl (And.intro rfl (And.intro rfl (And.intro rfl (And.intro rfl (And.intro rfl trivial))))))))) fun j => ?_
    obtain ⟨c14, h15, hF⟩ := bind_some hF
    refine wpn_mid 8 (fun e' σ' => ∃ (τ' : Hp), agr [(57, .bool c14), (0, .slice A0 p0.length c0), (1, .int .i64 p1), (5, .int .u64 c6.1), (6, .int .i64 c6.2.1), (7, .int .i64 c6.2.2), (8, .int .i64 c10.1), (9, .int .i64 c10.2.1), (10, .int .i64 c10.2.2)] e' ∧ Obs τ' σ' [] ∧ Hp.le τ τ' ∧ RdT Ty.u8 τ' (.slice A0 p0.length c0) p0) ?_ ?_
    · have hF := h15
      rcases ite_some hF with ⟨hb16, hF⟩ | ⟨hb16, hF⟩
      · refine wpn_gT (congrArg (fun x => isB (.bool x) true) hb16) ?_
        refine wpn_q hO 4 [] [(0, .slice A0 p0.length c0), (1, .int .i64 p1), (5, .int .u64 c6.1), (6, .int .i64 c6.2.1), (7, .int .i64 c6.2.2), (8, .int .i64 c10.1), (9, .int .i64 c10.2.1), (10, .int .i64 c10.2.2), (31, .bool (c6.2.2 == 0)), (35, .bool (decide (c6.2.1 ≤ p1)))] (And.intro rfl (And.intro rfl (And.intro rfl (And.intro rfl (And.intro rfl (And.intro rfl (And.intro rfl (And.intro rfl (And.intro rfl (And.intro rfl trivial)))))))))) fun j => ?_
        rcases ite_some hF with ⟨hb17, hF⟩ | ⟨hb17, hF⟩
        · refine wpn_gF (congrArg (fun x => isB (.bool x) false) hb17) ?_
          refine wpn_gT (congrArg (fun x => isB (.bool x) true) hb16) ?_
          refine wpn_pk (congrArg Value.bool hb17) ?_
          refine wpn_q hO 1 [] [(0, .slice A0 p0.length c0), (1, .int .i64 p1), (5, .int .u64 c6.1), (6, .int .i64 c6.2.1), (7, .int .i64 c6.2.2), (8, .int .i64 c10.1), (9, .int .i64 c10.2.1), (10, .int .i64 c10.2.2), (31, .bool (c6.2.2 == 0)), (41, .bool true)] (And.intro rfl (And.intro rfl (And.intro rfl (And.intro rfl (And.intro rfl (And.intro rfl (And.intro rfl (And.intro rfl (And.intro rfl (And.intro rfl trivial)))))))))) fun j => ?_
          rcases ite_some hF with ⟨hb18, hF⟩ | ⟨hb18, hF⟩
          · refine wpn_gF (congrArg (fun x => isB (.bool x) false) hb18) ?_
            refine wpn_gT (congrArg (fun x => isB (.bool x) true) hb16) ?_
            refine wpn_pk (congrArg Value.bool hb18) ?_
            refine wpn_q hO 1 [] [(0, .slice A0 p0.length c0), (1, .int .i64 p1), (5, .int .u64 c6.1), (6, .int .i64 c6.2.1), (7, .int .i64 c6.2.2), (8, .int .i64 c10.1), (9, .int .i64 c10.2.1), (10, .int .i64 c10.2.2), (31, .bool (c6.2.2 == 0)), (47, .bool true)] (And.intro rfl (And.intro rfl (And.intro rfl (And.intro rfl (And.intro rfl (And.intro rfl (And.intro rfl (And.intro rfl (And.intro rfl (And.intro rfl trivial)))))))))) fun j => ?_
            rcases ite_some hF with ⟨hb19, hF⟩ | ⟨hb19, hF⟩
            · refine wpn_gF (congrArg (fun x => isB (.bool x) false) hb19) ?_
              refine wpn_gT (congrArg (fun x => isB (.bool x) true) hb16) ?_
              refine wpn_pk (congrArg Value.bool hb19) ?_
              refine wpn_pk (congrArg Value.bool hb16) ?_
              refine wpn_nil ?_
              injection hF with hF
              subst hF
              refine wpn_end ?_
              exact ⟨rfl, _, And.intro rfl (And.intro rfl (And.intro rfl (And.intro rfl (And.intro rfl (And.intro rfl (And.intro rfl (And.intro rfl (And.intro rfl trivial)))))))), hO, hL, r0⟩
            · refine wpn_gT (congrArg (fun x => isB (.bool x) false) hb19) ?_
              refine wpn_q hO 4 [] [(0, .slice A0 p0.length c0), (1, .int .i64 p1), (5, .int .u64 c6.1), (6, .int .i64 c6.2.1), (7, .int .i64 c6.2.2), (8, .int .i64 c10.1), (9, .int .i64 c10.2.1), (10, .int .i64 c10.2.2), (31, .bool (c6.2.2 == 0)), (47, .bool true), (48, .int .u64 c6.1), (50, .slice A0 p0.length c0), (51, .int .i64 p1), (52, .int .i64 c6.2.1)] (And.intro rfl (And.intro rfl (And.intro rfl (And.intro rfl (And.intro rfl (And.intro rfl (And.intro rfl (And.intro rfl (And.intro rfl (And.intro rfl (And.intro rfl (And.intro rfl (And.intro rfl (And.intro rfl trivial)))))))))))))) fun j => ?_
              obtain ⟨y20, g21, hF⟩ := bind_some hF
              refine wpn_sl (T := Ty.u8) r0 rfl rfl rfl g21 fun _ r22 => ?_
              obtain ⟨A23, c24, rfl, -⟩ := r22.form
              obtain ⟨c25, h26, hF⟩ := bind_some hF
              refine wpn_c0 hO (w_leb_PutU (RdT.nil Ty.u8 _) h26) rfl fun _ σ _ _ hO h27 h28 => ?_
              have hL := hL.trans h27
              have r0 := r0.le h27
              have r22 := r22.le h27
              obtain ⟨v29, o32, rfl, rfl, w33⟩ := h28
              obtain ⟨A30, c31, rfl, -⟩ := w33.form
              have hO : Obs _ _ [_] := hO
              obtain ⟨_, h35, r34, hO⟩ := w33.share hO (i := 0) rfl
              have hL := hL.trans h35
              have r0 := r0.le h35
              have r22 := r22.le h35
              have hO : Obs _ _ [_] := hO
              obtain ⟨c36, h37, hF⟩ := bind_some hF
              refine wpn_c0 hO (w_ref00_EqBytes r34 r22 h37) rfl fun _ σ _ _ hO h38 h39 => ?_
              have hL := hL.trans h38
              have r0 := r0.le h38
              have r34 := r34.le h38
              have r22 := r22.le h38
              obtain ⟨rfl, rfl⟩ := h39
              have hO : Obs _ _ [_] := hO
              refine wpn_q hO 1 [] [(0, .slice A0 p0.length c0), (1, .int .i64 p1), (5, .int .u64 c6.1), (6, .int .i64 c6.2.1), (7, .int .i64 c6.2.2), (8, .int .i64 c10.1), (9, .int .i64 c10.2.1), (10, .int .i64 c10.2.2), (31, .bool (c6.2.2 == 0)), (47, .bool true), (55, .bool (!c36))] (And.intro rfl (And.intro rfl (And.intro rfl (And.intro rfl (And.intro rfl (And.intro rfl (And.intro rfl (And.intro rfl (And.intro rfl (And.intro rfl (And.intro rfl trivial))))))))))) fun j => ?_
              refine wpn_gT (congrArg (fun x => isB (.bool x) true) hb16) ?_
              refine wpn_pk (congrArg Value.bool hb19) ?_
              refine wpn_pk (congrArg Value.bool hb16) ?_
              refine wpn_nil ?_
              injection hF with hF
              subst hF
              refine wpn_end ?_
              have hO := hO.sel [] (by decide)
              exact ⟨rfl, _, And.intro rfl (And.intro rfl (And.intro rfl (And.intro rfl (And.intro rfl (And.intro rfl (And.intro rfl (And.intro rfl (And.intro rfl trivial)))))))), hO, hL, r0⟩
          · refine wpn_gT (congrArg (fun x => isB (.bool x) false) hb18) ?_
            refine wpn_q hO 4 [] [(0, .slice A0 p0.length c0), (1, .int .i64 p1), (5, .int .u64 c6.1), (6, .int .i64 c6.2.1), (7, .int .i64 c6.2.2), (8, .int .i64 c10.1), (9, .int .i64 c10.2.1), (10, .int .i64 c10.2.2), (31, .bool (c6.2.2 == 0)), (41, .bool true), (45, .bool (decide ((IntKind.i64.wrap (c6.2.1 - p1)) > 10)))] (And.intro rfl (And.intro rfl (And.intro rfl (And.intro rfl (And.intro rfl (And.intro rfl (And.intro rfl (And.intro rfl (And.intro rfl (And.intro rfl (And.intro rfl trivial))))))))))) fun j => ?_
            refine wpn_gT (congrArg (fun x => isB (.bool x) true) hb16) ?_
            refine wpn_pk (congrArg Value.bool hb18) ?_
            refine wpn_q hO 1 [] [(0, .slice A0 p0.length c0), (1, .int .i64 p1), (5, .int .u64 c6.1), (6, .int .i64 c6.2.1), (7, .int .i64 c6.2.2), (8, .int .i64 c10.1), (9, .int .i64 c10.2.1), (10, .int .i64 c10.2.2), (31, .bool (c6.2.2 == 0)), (47, .bool (decide ((IntKind.i64.wrap (c6.2.1 - p1)) > 10)))] (And.intro rfl (And.intro rfl (And.intro rfl (And.intro rfl (And.intro rfl (And.intro rfl (And.intro rfl (And.intro rfl (And.intro rfl (And.intro rfl trivial)))))))))) fun j => ?_
            rcases ite_some hF with ⟨hb40, hF⟩ | ⟨hb40, hF⟩
            · refine wpn_gF (congrArg (fun x => isB (.bool x) false) hb40) ?_
              refine wpn_gT (congrArg (fun x => isB (.bool x) true) hb16) ?_
              refine wpn_pk (congrArg Value.bool hb40) ?_
              refine wpn_pk (congrArg Value.bool hb16) ?_
              refine wpn_nil ?_
              injection hF with hF
              subst hF
              refine wpn_end ?_
              exact ⟨rfl, _, And.intro rfl (And.intro rfl (And.intro rfl (And.intro rfl (And.intro rfl (And.intro rfl (And.intro rfl (And.intro rfl (And.intro rfl trivial)))))))), hO, hL, r0⟩
            · refine wpn_gT (congrArg (fun x => isB (.bool x) false) hb40) ?_
              refine wpn_q hO 4 [] [(0, .slice A0 p0.length c0), (1, .int .i64 p1), (5, .int .u64 c6.1), (6, .int .i64 c6.2.1), (7, .int .i64 c6.2.2), (8, .int .i64 c10.1), (9, .int .i64 c10.2.1), (10, .int .i64 c10.2.2), (31, .bool (c6.2.2 == 0)), (47, .bool (decide ((IntKind.i64.wrap (c6.2.1 - p1)) > 10))), (48, .int .u64 c6.1), (50, .slice A0 p0.length c0), (51, .int .i64 p1), (52, .int .i64 c6.2.1)] (And.intro rfl (And.intro rfl (And.intro rfl (And.intro rfl (And.intro rfl (And.intro rfl (And.intro rfl (And.intro rfl (And.intro rfl (And.intro rfl (And.intro rfl (And.intro rfl (And.intro rfl (And.intro rfl trivial)))))))))))))) fun j => ?_
              obtain ⟨y41, g42, hF⟩ := bind_some hF
              refine wpn_sl (T := Ty.u8) r0 rfl rfl rfl g42 fun _ r43 => ?_
              obtain ⟨A44, c45, rfl, -⟩ := r43.form
              obtain ⟨c46, h47, hF⟩ := bind_some hF
              refine wpn_c0 hO (w_leb_PutU (RdT.nil Ty.u8 _) h47) rfl fun _ σ _ _ hO h48 h49 => ?_
              have hL := hL.trans h48
              have r0 := r0.le h48
              have r43 := r43.le h48
              obtain ⟨v50, o53, rfl, rfl, w54⟩ := h49
              obtain ⟨A51, c52, rfl, -⟩ := w54.form
              have hO : Obs _ _ [_] := hO
              obtain ⟨_, h56, r55, hO⟩ := w54.share hO (i := 0) rfl
              have hL := hL.trans h56
              have r0 := r0.le h56
              have r43 := r43.le h56
              have hO : Obs _ _ [_] := hO
              obtain ⟨c57, h58, hF⟩ := bind_some hF
              refine wpn_c0 hO (w_ref00_EqBytes r55 r43 h58) rfl fun _ σ _ _ hO h59 h60 => ?_
              have hL := hL.trans h59
              have r0 := r0.le h59
              have r55 := r55.le h59
              have r43 := r43.le h59
              obtain ⟨rfl, rfl⟩ := h60
              have hO : Obs _ _ [_] := hO
              refine wpn_q hO 1 [] [(0, .slice A0 p0.length c0), (1, .int .i64 p1), (5, .int .u64 c6.1), (6, .int .i64 c6.2.1), (7, .int .i64 c6.2.2), (8, .int .i64 c10.1), (9, .int .i64 c10.2.1), (10, .int .i64 c10.2.2), (31, .bool (c6.2.2 == 0)), (47, .bool (decide ((IntKind.i64.wrap (c6.2.1 - p1)) > 10))), (55, .bool (!c57))] (And.intro rfl (And.intro rfl (And.intro rfl (And.intro rfl (And.intro rfl (And.intro rfl (And.intro rfl (And.intro rfl (And.intro rfl (And.intro rfl (And.intro rfl trivial))))))))))) fun j => ?_
              refine wpn_gT (congrArg (fun x => isB (.bool x) true) hb16) ?_
              refine wpn_pk (congrArg Value.bool hb40) ?_
              refine wpn_pk (congrArg Value.bool hb16) ?_
              refine wpn_nil ?_
              injection hF with hF
              subst hF
              refine wpn_end ?_
              have hO := hO.sel [] (by decide)
              exact ⟨rfl, _, And.intro rfl (And.intro rfl (And.intro rfl (And.intro rfl (And.intro rfl (And.intro rfl (And.intro rfl (And.intro rfl (And.intro rfl trivial)))))))), hO, hL, r0⟩
        · refine wpn_gT (congrArg (fun x => isB (.bool x) false) hb17) ?_
          refine wpn_q hO 4 [] [(0, .slice A0 p0.length c0), (1, .int .i64 p1), (5, .int .u64 c6.1), (6, .int .i64 c6.2.1), (7, .int .i64 c6.2.2), (8, .int .i64 c10.1), (9, .int .i64 c10.2.1), (10, .int .i64 c10.2.2), (31, .bool (c6.2.2 == 0)), (35, .bool (decide (c6.2.1 ≤ p1))), (39, .bool (decide (c6.2.1 > (p0.length : Int))))] (And.intro rfl (And.intro rfl (And.intro rfl (And.intro rfl (And.intro rfl (And.intro rfl (And.intro rfl (And.intro rfl (And.intro rfl (And.intro rfl (And.intro rfl trivial))))))))))) fun j => ?_
          refine wpn_gT (congrArg (fun x => isB (.bool x) true) hb16) ?_
          refine wpn_pk (congrArg Value.bool hb17) ?_
          refine wpn_q hO 1 [] [(0, .slice A0 p0.length c0), (1, .int .i64 p1), (5, .int .u64 c6.1), (6, .int .i64 c6.2.1), (7, .int .i64 c6.2.2), (8, .int .i64 c10.1), (9, .int .i64 c10.2.1), (10, .int .i64 c10.2.2), (31, .bool (c6.2.2 == 0)), (41, .bool (decide (c6.2.1 > (p0.length : Int))))] (And.intro rfl (And.intro rfl (And.intro rfl (And.intro rfl (And.intro rfl (And.intro rfl (And.intro rfl (And.intro rfl (And.intro rfl (And.intro rfl trivial)))))))))) fun j => ?_
          rcases ite_some hF with ⟨hb61, hF⟩ | ⟨hb61, hF⟩
          · refine wpn_gF (congrArg (fun x => isB (.bool x) false) hb61) ?_
            refine wpn_gT (congrArg (fun x => isB (.bool x) true) hb16) ?_
            refine wpn_pk (congrArg Value.bool hb61) ?_
            refine wpn_q hO 1 [] [(0, .slice A0 p0.length c0), (1, .int .i64 p1), (5, .int .u64 c6.1), (6, .int .i64 c6.2.1), (7, .int .i64 c6.2.2), (8, .int .i64 c10.1), (9, .int .i64 c10.2.1), (10, .int .i64 c10.2.2), (31, .bool (c6.2.2 == 0)), (47, .bool true)] (And.intro rfl (And.intro rfl (And.intro rfl (And.intro rfl (And.intro rfl (And.intro rfl (And.intro rfl (And.intro rfl (And.intro rfl (And.intro rfl trivial)))))))))) fun j => ?_
            rcases ite_some hF with ⟨hb62, hF⟩ | ⟨hb62, hF⟩
            · refine wpn_gF (congrArg (fun x => isB (.bool x) false) hb62) ?_
              refine wpn_gT (congrArg (fun x => isB (.bool x) true) hb16) ?_
              refine wpn_pk (congrArg Value.bool hb62) ?_
              refine wpn_pk (congrArg Value.bool hb16) ?_
              refine wpn_nil ?_
              injection hF with hF
              subst hF
              refine wpn_end ?_
              exact ⟨rfl, _, And.intro rfl (And.intro rfl (And.intro rfl (And.intro rfl (And.intro rfl (And.intro rfl (And.intro rfl (And.intro rfl (And.intro rfl trivial)))))))), hO, hL, r0⟩
            · refine wpn_gT (congrArg (fun x => isB (.bool x) false) hb62) ?_
              refine wpn_q hO 4 [] [(0, .slice A0 p0.length c0), (1, .int .i64 p1), (5, .int .u64 c6.1), (6, .int .i64 c6.2.1), (7, .int .i64 c6.2.2), (8, .int .i64 c10.1), (9, .int .i64 c10.2.1), (10, .int .i64 c10.2.2), (31, .bool (c6.2.2 == 0)), (47, .bool true), (48, .int .u64 c6.1), (50, .slice A0 p0.length c0), (51, .int .i64 p1), (52, .int .i64 c6.2.1)] (And.intro rfl (And.intro rfl (And.intro rfl (And.intro rfl (And.intro rfl (And.intro rfl (And.intro rfl (And.intro rfl (And.intro rfl (And.intro rfl (And.intro rfl (And.intro rfl (And.intro rfl (And.intro rfl trivial)))))))))))))) fun j => ?_
              obtain ⟨y63, g64, hF⟩ := bind_some hF
              refine wpn_sl (T := Ty.u8) r0 rfl rfl rfl g64 fun _ r65 => ?_
              obtain ⟨A66, c67, rfl, -⟩ := r65.form
              obtain ⟨c68, h69, hF⟩ := bind_some hF
              refine wpn_c0 hO (w_leb_PutU (RdT.nil Ty.u8 _) h69) rfl fun _ σ _ _ hO h70 h71 => ?_
              have hL := hL.trans h70
              have r0 := r0.le h70
              have r65 := r65.le h70
              obtain ⟨v72, o75, rfl, rfl, w76⟩ := h71
              obtain ⟨A73, c74, rfl, -⟩ := w76.form
              have hO : Obs _ _ [_] := hO
              obtain ⟨_, h78, r77, hO⟩ := w76.share hO (i := 0) rfl
              have hL := hL.trans h78
              have r0 := r0.le h78
              have r65 := r65.le h78
              have hO : Obs _ _ [_] := hO
              obtain ⟨c79, h80, hF⟩ := bind_some hF
              refine wpn_c0 hO (w_ref00_EqBytes r77 r65 h80) rfl fun _ σ _ _ hO h81 h82 => ?_
              have hL := hL.trans h81
              have r0 := r0.le h81
              have r77 := r77.le h81
              have r65 := r65.le h81
              obtain ⟨rfl, rfl⟩ := h82
              have hO : Obs _ _ [_] := hO
              refine wpn_q hO 1 [] [(0, .slice A0 p0.length c0), (1, .int .i64 p1), (5, .int .u64 c6.1), (6, .int .i64 c6.2.1), (7, .int .i64 c6.2.2), (8, .int .i64 c10.1), (9, .int .i64 c10.2.1), (10, .int .i64 c10.2.2), (31, .bool (c6.2.2 == 0)), (47, .bool true), (55, .bool (!c79))] (And.intro rfl (And.intro rfl (And.intro rfl (And.intro rfl (And.intro rfl (And.intro rfl (And.intro rfl (And.intro rfl (And.intro rfl (And.intro rfl (And.intro rfl trivial))))))))))) fun j => ?_
              refine wpn_gT (congrArg (fun x => isB (.bool x) true) hb16) ?_
              refine wpn_pk (congrArg Value.bool hb62) ?_
              refine wpn_pk (congrArg Value.bool hb16) ?_
              refine wpn_nil ?_
              injection hF with hF
              subst hF
              refine wpn_end ?_
              have hO := hO.sel [] (by decide)
              exact ⟨rfl, _, And.intro rfl (And.intro rfl (And.intro rfl (And.intro rfl (And.intro rfl (And.intro rfl (And.intro rfl (And.intro rfl (And.intro rfl trivial)))))))), hO, hL, r0⟩
          · refine wpn_gT (congrArg (fun x => isB (.bool x) false) hb61) ?_
            refine wpn_q hO 4 [] [(0, .slice A0 p0.length c0), (1, .int .i64 p1), (5, .int .u64 c6.1), (6, .int .i64 c6.2.1), (7, .int .i64 c6.2.2), (8, .int .i64 c10.1), (9, .int .i64 c10.2.1), (10, .int .i64 c10.2.2), (31, .bool (c6.2.2 == 0)), (41, .bool (decide (c6.2.1 > (p0.length : Int)))), (45, .bool (decide ((IntKind.i64.wrap (c6.2.1 - p1)) > 10)))] (And.intro rfl (And.intro rfl (And.intro rfl (And.intro rfl (And.intro rfl (And.intro rfl (And.intro rfl (And.intro rfl (And.intro rfl (And.intro rfl (And.intro rfl trivial))))))))))) fun j => ?_
            refine wpn_gT (congrArg (fun x => isB (.bool x) true) hb16) ?_
            refine wpn_pk (congrArg Value.bool hb61) ?_
            refine wpn_q hO 1 [] [(0, .slice A0 p0.length c0), (1, .int .i64 p1), (5, .int .u64 c6.1), (6, .int .i64 c6.2.1), (7, .int .i64 c6.2.2), (8, .int .i64 c10.1), (9, .int .i64 c10.2.1), (10, .int .i64 c10.2.2), (31, .bool (c6.2.2 == 0)), (47, .bool (decide ((IntKind.i64.wrap (c6.2.1 - p1)) > 10)))] (And.intro rfl (And.intro rfl (And.intro rfl (And.intro rfl (And.intro rfl (And.intro rfl (And.intro rfl (And.intro rfl (And.intro rfl (And.intro rfl trivial)))))))))) fun j => ?_
            rcases ite_some hF with ⟨hb83, hF⟩ | ⟨hb83, hF⟩
            · refine wpn_gF (congrArg (fun x => isB (.bool x) false) hb83) ?_
              refine wpn_gT (congrArg (fun x => isB (.bool x) true) hb16) ?_
              refine wpn_pk (congrArg Value.bool hb83) ?_
              refine wpn_pk (congrArg Value.bool hb16) ?_
              refine wpn_nil ?_
              injection hF with hF
              subst hF
              refine wpn_end ?_
              exact ⟨rfl, _, And.intro rfl (And.intro rfl (And.intro rfl (And.intro rfl (And.intro rfl (And.intro rfl (And.intro rfl (And.intro rfl (And.intro rfl trivial)))))))), hO, hL, r0⟩
            · refine wpn_gT (congrArg (fun x => isB (.bool x) false) hb83) ?_
              refine wpn_q hO 4 [] [(0, .slice A0 p0.length c0), (1, .int .i64 p1), (5, .int .u64 c6.1), (6, .int .i64 c6.2.1), (7, .int .i64 c6.2.2), (8, .int .i64 c10.1), (9, .int .i64 c10.2.1), (10, .int .i64 c10.2.2), (31, .bool (c6.2.2 == 0)), (47, .bool (decide ((IntKind.i64.wrap (c6.2.1 - p1)) > 10))), (48, .int .u64 c6.1), (50, .slice A0 p0.length c0), (51, .int .i64 p1), (52, .int .i64 c6.2.1)] (And.intro rfl (And.intro rfl (And.intro rfl (And.intro rfl (And.intro rfl (And.intro rfl (And.intro rfl (And.intro rfl (And.intro rfl (And.intro rfl (And.intro rfl (And.intro rfl (And.intro rfl (And.intro rfl trivial)))))))))))))) fun j => ?_
              obtain ⟨y84, g85, hF⟩ := bind_some hF
              refine wpn_sl (T := Ty.u8) r0 rfl rfl rfl g85 fun _ r86 => ?_
              obtain ⟨A87, c88, rfl, -⟩ := r86.form
              obtain ⟨c89, h90, hF⟩ := bind_some hF
              refine wpn_c0 hO (w_leb_PutU (RdT.nil Ty.u8 _) h90) rfl fun _ σ _ _ hO h91 h92 => ?_
              have hL := hL.trans h91
              have r0 := r0.le h91
              have r86 := r86.le h91
              obtain ⟨v93, o96, rfl, rfl, w97⟩ := h92
              obtain ⟨A94, c95, rfl, -⟩ := w97.form
              have hO : Obs _ _ [_] := hO
              obtain ⟨_, h99, r98, hO⟩ := w97.share hO (i := 0) rfl
              have hL := hL.trans h99
              have r0 := r0.le h99
              have r86 := r86.le h99
              have hO : Obs _ _ [_] := hO
              obtain ⟨c100, h101, hF⟩ := bind_some hF
              refine wpn_c0 hO (w_ref00_EqBytes r98 r86 h101) rfl fun _ σ _ _ hO h102 h103 => ?_
              have hL := hL.trans h102
              have r0 := r0.le h102
              have r98 := r98.le h102
              have r86 := r86.le h102
              obtain ⟨rfl, rfl⟩ := h103
              have hO : Obs _ _ [_] := hO
              refine wpn_q hO 1 [] [(0, .slice A0 p0.length c0), (1, .int .i64 p1), (5, .int .u64 c6.1), (6, .int .i64 c6.2.1), (7, .int .i64 c6.2.2), (8, .int .i64 c10.1), (9, .int .i64 c10.2.1), (10, .int .i64 c10.2.2), (31, .bool (c6.2.2 == 0)), (47, .bool (decide ((IntKind.i64.wrap (c6.2.1 - p1)) > 10))), (55, .bool (!c100))] (And.intro rfl (And.intro rfl (And.intro rfl (And.intro rfl (And.intro rfl (And.intro rfl (And.intro rfl (And.intro rfl (And.intro rfl (And.intro rfl (And.intro rfl trivial))))))))))) fun j => ?_
              refine wpn_gT (congrArg (fun x => isB (.bool x) true) hb16) ?_
              refine wpn_pk (congrArg Value.bool hb83) ?_
              refine wpn_pk (congrArg Value.bool hb16) ?_
              refine wpn_nil ?_
              injection hF with hF
              subst hF
              refine wpn_end ?_
              have hO := hO.sel [] (by decide)
              exact ⟨rfl, _, And.intro rfl (And.intro rfl (And.intro rfl (And.intro rfl (And.intro rfl (And.intro rfl (And.intro rfl (And.intro rfl (And.intro rfl trivial)))))))), hO, hL, r0⟩
      · refine wpn_gF (congrArg (fun x => isB (.bool x) true) hb16) ?_
        refine wpn_gF rfl ?_
        refine wpn_gF (congrArg (fun x => isB (.bool x) true) hb16) ?_
        refine wpn_gF rfl ?_
        refine wpn_gF (congrArg (fun x => isB (.bool x) true) hb16) ?_
        refine wpn_gF rfl ?_
        refine wpn_gF (congrArg (fun x => isB (.bool x) true) hb16) ?_
        refine wpn_pk (congrArg Value.bool hb16) ?_
        refine wpn_nil ?_
        injection hF with hF
        subst hF
        refine wpn_end ?_
        exact ⟨rfl, _, And.intro rfl (And.intro rfl (And.intro rfl (And.intro rfl (And.intro rfl (And.intro rfl (And.intro rfl (And.intro rfl (And.intro rfl trivial)))))))), hO, hL, r0⟩
    · rintro e σ ⟨_, hA, hO, hL, r0⟩
      rw [← sets_agr _ _ hA]
      refine wpn_nil ?_
      rcases ite_some hF with ⟨hb104, hF⟩ | ⟨hb104, hF⟩
      · refine wpn_cT (congrArg Value.bool hb104) ?_
        refine wpn_assoc ?_
        refine wpn_qa hO [] [(4, .bool false)] (And.intro rfl trivial) fun j => ?_
        refine wpn_rt ?_
        injection hF with hF
        subst hF
        exact hQ _ _ _ _ _ rfl hO hL ⟨rfl, rfl⟩
      · refine wpn_cF (congrArg Value.bool hb104) ?_
        refine wpn_sk ?_
        refine wpn_assoc ?_
        refine wpn_p2r ?_
        refine wpn_q hO 3 [] [(0, .slice A0 p0.length c0), (1, .int .i64 p1), (5, .int .u64 c6.1), (6, .int .i64 c6.2.1), (7, .int .i64 c6.2.2), (8, .int .i64 c10.1), (9, .int .i64 c10.2.1), (10, .int .i64 c10.2.2), (60, .bool (c10.2.2 == 0))] (And.intro rfl (And.intro rfl (And.intro rfl (And.intro rfl (And.intro rfl (And.intro rfl (And.intro rfl (And.intro rfl (And.intro rfl trivial))))))))) fun j => ?_
        obtain ⟨c105, h106, hF⟩ := bind_some hF
        refine wpn_mid 8 (fun e' σ' => ∃ (τ' : Hp), agr [(86, .bool c105), (5, .int .u64 c6.1), (6, .int .i64 c6.2.1), (7, .int .i64 c6.2.2), (8, .int .i64 c10.1), (9, .int .i64 c10.2.1), (10, .int .i64 c10.2.2)] e' ∧ Obs τ' σ' [] ∧ Hp.le τ τ') ?_ ?_
        · have hF := h106
          rcases ite_some hF with ⟨hb107, hF⟩ | ⟨hb107, hF⟩
          · refine wpn_gT (congrArg (fun x => isB (.bool x) true) hb107) ?_
            refine wpn_q hO 4 [] [(0, .slice A0 p0.length c0), (1, .int .i64 p1), (5, .int .u64 c6.1), (6, .int .i64 c6.2.1), (7, .int .i64 c6.2.2), (8, .int .i64 c10.1), (9, .int .i64 c10.2.1), (10, .int .i64 c10.2.2), (60, .bool (c10.2.2 == 0)), (64, .bool (decide (c10.2.1 ≤ p1)))] (And.intro rfl (And.intro rfl (And.intro rfl (And.intro rfl (And.intro rfl (And.intro rfl (And.intro rfl (And.intro rfl (And.intro rfl (And.intro rfl trivial)))))))))) fun j => ?_
            rcases ite_some hF with ⟨hb108, hF⟩ | ⟨hb108, hF⟩
            · refine wpn_gF (congrArg (fun x => isB (.bool x) false) hb108) ?_
              refine wpn_gT (congrArg (fun x => isB (.bool x) true) hb107) ?_
              refine wpn_pk (congrArg Value.bool hb108) ?_
              refine wpn_q hO 1 [] [(0, .slice A0 p0.length c0), (1, .int .i64 p1), (5, .int .u64 c6.1), (6, .int .i64 c6.2.1), (7, .int .i64 c6.2.2), (8, .int .i64 c10.1), (9, .int .i64 c10.2.1), (10, .int .i64 c10.2.2), (60, .bool (c10.2.2 == 0)), (70, .bool true)] (And.intro rfl (And.intro rfl (And.intro rfl (And.intro rfl (And.intro rfl (And.intro rfl (And.intro rfl (And.intro rfl (And.intro rfl (And.intro rfl trivial)))))))))) fun j => ?_
              rcases ite_some hF with ⟨hb109, hF⟩ | ⟨hb109, hF⟩
              · refine wpn_gF (congrArg (fun x => isB (.bool x) false) hb109) ?_
                refine wpn_gT (congrArg (fun x => isB (.bool x) true) hb107) ?_
                refine wpn_pk (congrArg Value.bool hb109) ?_
                refine wpn_q hO 1 [] [(0, .slice A0 p0.length c0), (1, .int .i64 p1), (5, .int .u64 c6.1), (6, .int .i64 c6.2.1), (7, .int .i64 c6.2.2), (8, .int .i64 c10.1), (9, .int .i64 c10.2.1), (10, .int .i64 c10.2.2), (60, .bool (c10.2.2 == 0)), (76, .bool true)] (And.intro rfl (And.intro rfl (And.intro rfl (And.intro rfl (And.intro rfl (And.intro rfl (And.intro rfl (And.intro rfl (And.intro rfl (And.intro rfl trivial)))))))))) fun j => ?_
                rcases ite_some hF with ⟨hb110, hF⟩ | ⟨hb110, hF⟩
                · refine wpn_gF (congrArg (fun x => isB (.bool x) false) hb110) ?_
                  refine wpn_gT (congrArg (fun x => isB (.bool x) true) hb107) ?_
                  refine wpn_pk (congrArg Value.bool hb110) ?_
                  refine wpn_pk (congrArg Value.bool hb107) ?_
                  refine wpn_nil ?_
                  injection hF with hF
                  subst hF
                  refine wpn_end ?_
                  exact ⟨rfl, _, And.intro rfl (And.intro rfl (And.intro rfl (And.intro rfl (And.intro rfl (And.intro rfl (And.intro rfl trivial)))))), hO, hL⟩
                · refine wpn_gT (congrArg (fun x => isB (.bool x) false) hb110) ?_
                  refine wpn_q hO 4 [] [(5, .int .u64 c6.1), (6, .int .i64 c6.2.1), (7, .int .i64 c6.2.2), (8, .int .i64 c10.1), (9, .int .i64 c10.2.1), (10, .int .i64 c10.2.2), (60, .bool (c10.2.2 == 0)), (76, .bool true), (77, .int .i64 c10.1), (79, .slice A0 p0.length c0), (80, .int .i64 p1), (81, .int .i64 c10.2.1)] (And.intro rfl (And.intro rfl (And.intro rfl (And.intro rfl (And.intro rfl (And.intro rfl (And.intro rfl (And.intro rfl (And.intro rfl (And.intro rfl (And.intro rfl (And.intro rfl trivial)))))))))))) fun j => ?_
                  obtain ⟨y111, g112, hF⟩ := bind_some hF
                  refine wpn_sl (T := Ty.u8) r0 rfl rfl rfl g112 fun _ r113 => ?_
                  obtain ⟨A114, c115, rfl, -⟩ := r113.form
                  obtain ⟨c116, h117, hF⟩ := bind_some hF
                  refine wpn_c0 hO (w_leb_PutS (RdT.nil Ty.u8 _) h117) rfl fun _ σ _ _ hO h118 h119 => ?_
                  have hL := hL.trans h118
                  have r0 := r0.le h118
                  have r113 := r113.le h118
                  obtain ⟨v120, o123, rfl, rfl, w124⟩ := h119
                  obtain ⟨A121, c122, rfl, -⟩ := w124.form
                  have hO : Obs _ _ [_] := hO
                  obtain ⟨_, h126, r125, hO⟩ := w124.share hO (i := 0) rfl
                  have hL := hL.trans h126
                  have r0 := r0.le h126
                  have r113 := r113.le h126
                  have hO : Obs _ _ [_] := hO
                  obtain ⟨c127, h128, hF⟩ := bind_some hF
                  refine wpn_c0 hO (w_ref00_EqBytes r125 r113 h128) rfl fun _ σ _ _ hO h129 h130 => ?_
                  have hL := hL.trans h129
                  have r125 := r125.le h129
                  have r0 := r0.le h129
                  have r113 := r113.le h129
                  obtain ⟨rfl, rfl⟩ := h130
                  have hO : Obs _ _ [_] := hO
                  refine wpn_q hO 1 [] [(5, .int .u64 c6.1), (6, .int .i64 c6.2.1), (7, .int .i64 c6.2.2), (8, .int .i64 c10.1), (9, .int .i64 c10.2.1), (10, .int .i64 c10.2.2), (60, .bool (c10.2.2 == 0)), (76, .bool true), (84, .bool (!c127))] (And.intro rfl (And.intro rfl (And.intro rfl (And.intro rfl (And.intro rfl (And.intro rfl (And.intro rfl (And.intro rfl (And.intro rfl trivial))))))))) fun j => ?_
                  refine wpn_gT (congrArg (fun x => isB (.bool x) true) hb107) ?_
                  refine wpn_pk (congrArg Value.bool hb110) ?_
                  refine wpn_pk (congrArg Value.bool hb107) ?_
                  refine wpn_nil ?_
                  injection hF with hF
                  subst hF
                  refine wpn_end ?_
                  have hO := hO.sel [] (by decide)
                  exact ⟨rfl, _, And.intro rfl (And.intro rfl (And.intro rfl (And.intro rfl (And.intro rfl (And.intro rfl (And.intro rfl trivial)))))), hO, hL⟩
              · refine wpn_gT (congrArg (fun x => isB (.bool x) false) hb109) ?_
                refine wpn_q hO 4 [] [(0, .slice A0 p0.length c0), (1, .int .i64 p1), (5, .int .u64 c6.1), (6, .int .i64 c6.2.1), (7, .int .i64 c6.2.2), (8, .int .i64 c10.1), (9, .int .i64 c10.2.1), (10, .int .i64 c10.2.2), (60, .bool (c10.2.2 == 0)), (70, .bool true), (74, .bool (decide ((IntKind.i64.wrap (c10.2.1 - p1)) > 10)))] (And.intro rfl (And.intro rfl (And.intro rfl (And.intro rfl (And.intro rfl (And.intro rfl (And.intro rfl (And.intro rfl (And.intro rfl (And.intro rfl (And.intro rfl trivial))))))))))) fun j => ?_
                refine wpn_gT (congrArg (fun x => isB (.bool x) true) hb107) ?_
                refine wpn_pk (congrArg Value.bool hb109) ?_
                refine wpn_q hO 1 [] [(0, .slice A0 p0.length c0), (1, .int .i64 p1), (5, .int .u64 c6.1), (6, .int .i64 c6.2.1), (7, .int .i64 c6.2.2), (8, .int .i64 c10.1), (9, .int .i64 c10.2.1), (10, .int .i64 c10.2.2), (60, .bool (c10.2.2 == 0)), (76, .bool (decide ((IntKind.i64.wrap (c10.2.1 - p1)) > 10)))] (And.intro rfl (And.intro rfl (And.intro rfl (And.intro rfl (And.intro rfl (And.intro rfl (And.intro rfl (And.intro rfl (And.intro rfl (And.intro rfl trivial)))))))))) fun j => ?_
                rcases ite_some hF with ⟨hb131, hF⟩ | ⟨hb131, hF⟩
                · refine wpn_gF (congrArg (fun x => isB (.bool x) false) hb131) ?_
                  refine wpn_gT (congrArg (fun x => isB (.bool x) true) hb107) ?_
                  refine wpn_pk (congrArg Value.bool hb131) ?_
                  refine wpn_pk (congrArg Value.bool hb107) ?_
                  refine wpn_nil ?_
                  injection hF with hF
                  subst hF
                  refine wpn_end ?_
                  exact ⟨rfl, _, And.intro rfl (And.intro rfl (And.intro rfl (And.intro rfl (And.intro rfl (And.intro rfl (And.intro rfl trivial)))))), hO, hL⟩
                · refine wpn_gT (congrArg (fun x => isB (.bool x) false) hb131) ?_
                  refine wpn_q hO 4 [] [(5, .int .u64 c6.1), (6, .int .i64 c6.2.1), (7, .int .i64 c6.2.2), (8, .int .i64 c10.1), (9, .int .i64 c10.2.1), (10, .int .i64 c10.2.2), (60, .bool (c10.2.2 == 0)), (76, .bool (decide ((IntKind.i64.wrap (c10.2.1 - p1)) > 10))), (77, .int .i64 c10.1), (79, .slice A0 p0.length c0), (80, .int .i64 p1), (81, .int .i64 c10.2.1)] (And.intro rfl (And.intro rfl (And.intro rfl (And.intro rfl (And.intro rfl (And.intro rfl (And.intro rfl (And.intro rfl (And.intro rfl (And.intro rfl (And.intro rfl (And.intro rfl trivial)))))))))))) fun j => ?_
                  obtain ⟨y132, g133, hF⟩ := bind_some hF
                  refine wpn_sl (T := Ty.u8) r0 rfl rfl rfl g133 fun _ r134 => ?_
                  obtain ⟨A135, c136, rfl, -⟩ := r134.form
                  obtain ⟨c137, h138, hF⟩ := bind_some hF
                  refine wpn_c0 hO (w_leb_PutS (RdT.nil Ty.u8 _) h138) rfl fun _ σ _ _ hO h139 h140 => ?_
                  have hL := hL.trans h139
                  have r0 := r0.le h139
                  have r134 := r134.le h139
                  obtain ⟨v141, o144, rfl, rfl, w145⟩ := h140
                  obtain ⟨A142, c143, rfl, -⟩ := w145.form
                  have hO : Obs _ _ [_] := hO
                  obtain ⟨_, h147, r146, hO⟩ := w145.share hO (i := 0) rfl
                  have hL := hL.trans h147
                  have r0 := r0.le h147
                  have r134 := r134.le h147
                  have hO : Obs _ _ [_] := hO
                  obtain ⟨c148, h149, hF⟩ := bind_some hF
                  refine wpn_c0 hO (w_ref00_EqBytes r146 r134 h149) rfl fun _ σ _ _ hO h150 h151 => ?_
                  have hL := hL.trans h150
                  have r146 := r146.le h150
                  have r0 := r0.le h150
                  have r134 := r134.le h150
                  obtain ⟨rfl, rfl⟩ := h151
                  have hO : Obs _ _ [_] := hO
                  refine wpn_q hO 1 [] [(5, .int .u64 c6.1), (6, .int .i64 c6.2.1), (7, .int .i64 c6.2.2), (8, .int .i64 c10.1), (9, .int .i64 c10.2.1), (10, .int .i64 c10.2.2), (60, .bool (c10.2.2 == 0)), (76, .bool (decide ((IntKind.i64.wrap (c10.2.1 - p1)) > 10))), (84, .bool (!c148))] (And.intro rfl (And.intro rfl (And.intro rfl (And.intro rfl (And.intro rfl (And.intro rfl (And.intro rfl (And.intro rfl (And.intro rfl trivial))))))))) fun j => ?_
                  refine wpn_gT (congrArg (fun x => isB (.bool x) true) hb107) ?_
                  refine wpn_pk (congrArg Value.bool hb131) ?_
                  refine wpn_pk (congrArg Value.bool hb107) ?_
                  refine wpn_nil ?_
                  injection hF with hF
                  subst hF
                  refine wpn_end ?_
                  have hO := hO.sel [] (by decide)
                  exact ⟨rfl, _, And.intro rfl (And.intro rfl (And.intro rfl (And.intro rfl (And.intro rfl (And.intro rfl (And.intro rfl trivial)))))), hO, hL⟩
            · refine wpn_gT (congrArg (fun x => isB (.bool x) false) hb108) ?_
              refine wpn_q hO 4 [] [(0, .slice A0 p0.length c0), (1, .int .i64 p1), (5, .int .u64 c6.1), (6, .int .i64 c6.2.1), (7, .int .i64 c6.2.2), (8, .int .i64 c10.1), (9, .int .i64 c10.2.1), (10, .int .i64 c10.2.2), (60, .bool (c10.2.2 == 0)), (64, .bool (decide (c10.2.1 ≤ p1))), (68, .bool (decide (c10.2.1 > (p0.length : Int))))] (And.intro rfl (And.intro rfl (And.intro rfl (And.intro rfl (And.intro rfl (And.intro rfl (And.intro rfl (And.intro rfl (And.intro rfl (And.intro rfl (And.intro rfl trivial))))))))))) fun j => ?_
              refine wpn_gT (congrArg (fun x => isB (.bool x) true) hb107) ?_
              refine wpn_pk (congrArg Value.bool hb108) ?_
              refine wpn_q hO 1 [] [(0, .slice A0 p0.length c0), (1, .int .i64 p1), (5, .int .u64 c6.1), (6, .int .i64 c6.2.1), (7, .int .i64 c6.2.2), (8, .int .i64 c10.1), (9, .int .i64 c10.2.1), (10, .int .i64 c10.2.2), (60, .bool (c10.2.2 == 0)), (70, .bool (decide (c10.2.1 > (p0.length : Int))))] (And.intro rfl (And.intro rfl (And.intro rfl (And.intro rfl (And.intro rfl (And.intro rfl (And.intro rfl (And.intro rfl (And.intro rfl (And.intro rfl trivial)))))))))) fun j => ?_
              rcases ite_some hF with ⟨hb152, hF⟩ | ⟨hb152, hF⟩
              · refine wpn_gF (congrArg (fun x => isB (.bool x) false) hb152) ?_
                refine wpn_gT (congrArg (fun x => isB (.bool x) true) hb107) ?_
                refine wpn_pk (congrArg Value.bool hb152) ?_
                refine wpn_q hO 1 [] [(0, .slice A0 p0.length c0), (1, .int .i64 p1), (5, .int .u64 c6.1), (6, .int .i64 c6.2.1), (7, .int .i64 c6.2.2), (8, .int .i64 c10.1), (9, .int .i64 c10.2.1), (10, .int .i64 c10.2.2), (60, .bool (c10.2.2 == 0)), (76, .bool true)] (And.intro rfl (And.intro rfl (And.intro rfl (And.intro rfl (And.intro rfl (And.intro rfl (And.intro rfl (And.intro rfl (And.intro rfl (And.intro rfl trivial)))))))))) fun j => ?_
                rcases ite_some hF with ⟨hb153, hF⟩ | ⟨hb153, hF⟩
                · refine wpn_gF (congrArg (fun x => isB (.bool x) false) hb153) ?_
                  refine wpn_gT (congrArg (fun x => isB (.bool x) true) hb107) ?_
                  refine wpn_pk (congrArg Value.bool hb153) ?_
                  refine wpn_pk (congrArg Value.bool hb107) ?_
                  refine wpn_nil ?_
                  injection hF with hF
                  subst hF
                  refine wpn_end ?_
                  exact ⟨rfl, _, And.intro rfl (And.intro rfl (And.intro rfl (And.intro rfl (And.intro rfl (And.intro rfl (And.intro rfl trivial)))))), hO, hL⟩
                · refine wpn_gT (congrArg (fun x => isB (.bool x) false) hb153) ?_
                  refine wpn_q hO 4 [] [(5, .int .u64 c6.1), (6, .int .i64 c6.2.1), (7, .int .i64 c6.2.2), (8, .int .i64 c10.1), (9, .int .i64 c10.2.1), (10, .int .i64 c10.2.2), (60, .bool (c10.2.2 == 0)), (76, .bool true), (77, .int .i64 c10.1), (79, .slice A0 p0.length c0), (80, .int .i64 p1), (81, .int .i64 c10.2.1)] (And.intro rfl (And.intro rfl (And.intro rfl (And.intro rfl (And.intro rfl (And.intro rfl (And.intro rfl (And.intro rfl (And.intro rfl (And.intro rfl (And.intro rfl (And.intro rfl trivial)))))))))))) fun j => ?_
                  obtain ⟨y154, g155, hF⟩ := bind_some hF
                  refine wpn_sl (T := Ty.u8) r0 rfl rfl rfl g155 fun _ r156 => ?_
                  obtain ⟨A157, c158, rfl, -⟩ := r156.form
                  obtain ⟨c159, h160, hF⟩ := bind_some hF
                  refine wpn_c0 hO (w_leb_PutS (RdT.nil Ty.u8 _) h160) rfl fun _ σ _ _ hO h161 h162 => ?_
                  have hL := hL.trans h161
                  have r0 := r0.le h161
                  have r156 := r156.le h161
                  obtain ⟨v163, o166, rfl, rfl, w167⟩ := h162
                  obtain ⟨A164, c165, rfl, -⟩ := w167.form
                  have hO : Obs _ _ [_] := hO
                  obtain ⟨_, h169, r168, hO⟩ := w167.share hO (i := 0) rfl
                  have hL := hL.trans h169
                  have r0 := r0.le h169
                  have r156 := r156.le h169
                  have hO : Obs _ _ [_] := hO
                  obtain ⟨c170, h171, hF⟩ := bind_some hF
                  refine wpn_c0 hO (w_ref00_EqBytes r168 r156 h171) rfl fun _ σ _ _ hO h172 h173 => ?_
                  have hL := hL.trans h172
                  have r168 := r168.le h172
                  have r0 := r0.le h172
                  have r156 := r156.le h172
                  obtain ⟨rfl, rfl⟩ := h173
                  have hO : Obs _ _ [_] := hO
                  refine wpn_q hO 1 [] [(5, .int .u64 c6.1), (6, .int .i64 c6.2.1), (7, .int .i64 c6.2.2), (8, .int .i64 c10.1), (9, .int .i64 c10.2.1), (10, .int .i64 c10.2.2), (60, .bool (c10.2.2 == 0)), (76, .bool true), (84, .bool (!c170))] (And.intro rfl (And.intro rfl (And.intro rfl (And.intro rfl (And.intro rfl (And.intro rfl (And.intro rfl (And.intro rfl (And.intro rfl trivial))))))))) fun j => ?_
                  refine wpn_gT (congrArg (fun x => isB (.bool x) true) hb107) ?_
                  refine wpn_pk (congrArg Value.bool hb153) ?_
                  refine wpn_pk (congrArg Value.bool hb107) ?_
                  refine wpn_nil ?_
                  injection hF with hF
                  subst hF
                  refine wpn_end ?_
                  have hO := hO.sel [] (by decide)
                  exact ⟨rfl, _, And.intro rfl (And.intro rfl (And.intro rfl (And.intro rfl (And.intro rfl (And.intro rfl (And.intro rfl trivial)))))), hO, hL⟩
              · refine wpn_gT (congrArg (fun x => isB (.bool x) false) hb152) ?_
                refine wpn_q hO 4 [] [(0, .slice A0 p0.length c0), (1, .int .i64 p1), (5, .int .u64 c6.1), (6, .int .i64 c6.2.1), (7, .int .i64 c6.2.2), (8, .int .i64 c10.1), (9, .int .i64 c10.2.1), (10, .int .i64 c10.2.2), (60, .bool (c10.2.2 == 0)), (70, .bool (decide (c10.2.1 > (p0.length : Int)))), (74, .bool (decide ((IntKind.i64.wrap (c10.2.1 - p1)) > 10)))] (And.intro rfl (And.intro rfl (And.intro rfl (And.intro rfl (And.intro rfl (And.intro rfl (And.intro rfl (And.intro rfl (And.intro rfl (And.intro rfl (And.intro rfl trivial))))))))))) fun j => ?_
                refine wpn_gT (congrArg (fun x => isB (.bool x) true) hb107) ?_
                refine wpn_pk (congrArg Value.bool hb152) ?_
                refine wpn_q hO 1 [] [(0, .slice A0 p0.length c0), (1, .int .i64 p1), (5, .int .u64 c6.1), (6, .int .i64 c6.2.1), (7, .int .i64 c6.2.2), (8, .int .i64 c10.1), (9, .int .i64 c10.2.1), (10, .int .i64 c10.2.2), (60, .bool (c10.2.2 == 0)), (76, .bool (decide ((IntKind.i64.wrap (c10.2.1 - p1)) > 10)))] (And.intro rfl (And.intro rfl (And.intro rfl (And.intro rfl (And.intro rfl (And.intro rfl (And.intro rfl (And.intro rfl (And.intro rfl (And.intro rfl trivial)))))))))) fun j => ?_
                rcases ite_some hF with ⟨hb174, hF⟩ | ⟨hb174, hF⟩
                · refine wpn_gF (congrArg (fun x => isB (.bool x) false) hb174) ?_
                  refine wpn_gT (congrArg (fun x => isB (.bool x) true) hb107) ?_
                  refine wpn_pk (congrArg Value.bool hb174) ?_
                  refine wpn_pk (congrArg Value.bool hb107) ?_
                  refine wpn_nil ?_
                  injection hF with hF
                  subst hF
                  refine wpn_end ?_
                  exact ⟨rfl, _, And.intro rfl (And.intro rfl (And.intro rfl (And.intro rfl (And.intro rfl (And.intro rfl (And.intro rfl trivial)))))), hO, hL⟩
                · refine wpn_gT (congrArg (fun x => isB (.bool x) false) hb174) ?_
                  refine wpn_q hO 4 [] [(5, .int .u64 c6.1), (6, .int .i64 c6.2.1), (7, .int .i64 c6.2.2), (8, .int .i64 c10.1), (9, .int .i64 c10.2.1), (10, .int .i64 c10.2.2), (60, .bool (c10.2.2 == 0)), (76, .bool (decide ((IntKind.i64.wrap (c10.2.1 - p1)) > 10))), (77, .int .i64 c10.1), (79, .slice A0 p0.length c0), (80, .int .i64 p1), (81, .int .i64 c10.2.1)] (And.intro rfl (And.intro rfl (And.intro rfl (And.intro rfl (And.intro rfl (And.intro rfl (And.intro rfl (And.intro rfl (And.intro rfl (And.intro rfl (And.intro rfl (And.intro rfl trivial)))))))))))) fun j => ?_
                  obtain ⟨y175, g176, hF⟩ := bind_some hF
                  refine wpn_sl (T := Ty.u8) r0 rfl rfl rfl g176 fun _ r177 => ?_
                  obtain ⟨A178, c179, rfl, -⟩ := r177.form
                  obtain ⟨c180, h181, hF⟩ := bind_some hF
                  refine wpn_c0 hO (w_leb_PutS (RdT.nil Ty.u8 _) h181) rfl fun _ σ _ _ hO h182 h183 => ?_
                  have hL := hL.trans h182
                  have r0 := r0.le h182
                  have r177 := r177.le h182
                  obtain ⟨v184, o187, rfl, rfl, w188⟩ := h183
                  obtain ⟨A185, c186, rfl, -⟩ := w188.form
                  have hO : Obs _ _ [_] := hO
                  obtain ⟨_, h190, r189, hO⟩ := w188.share hO (i := 0) rfl
                  have hL := hL.trans h190
                  have r0 := r0.le h190
                  have r177 := r177.le h190
                  have hO : Obs _ _ [_] := hO
                  obtain ⟨c191, h192, hF⟩ := bind_some hF
                  refine wpn_c0 hO (w_ref00_EqBytes r189 r177 h192) rfl fun _ σ _ _ hO h193 h194 => ?_
                  have hL := hL.trans h193
                  have r189 := r189.le h193
                  have r0 := r0.le h193
                  have r177 := r177.le h193
                  obtain ⟨rfl, rfl⟩ := h194
                  have hO : Obs _ _ [_] := hO
                  refine wpn_q hO 1 [] [(5, .int .u64 c6.1), (6, .int .i64 c6.2.1), (7, .int .i64 c6.2.2), (8, .int .i64 c10.1), (9, .int .i64 c10.2.1), (10, .int .i64 c10.2.2), (60, .bool (c10.2.2 == 0)), (76, .bool (decide ((IntKind.i64.wrap (c10.2.1 - p1)) > 10))), (84, .bool (!c191))] (And.intro rfl (And.intro rfl (And.intro rfl (And.intro rfl (And.intro rfl (And.intro rfl (And.intro rfl (And.intro rfl (And.intro rfl trivial))))))))) fun j => ?_
                  refine wpn_gT (congrArg (fun x => isB (.bool x) true) hb107) ?_
                  refine wpn_pk (congrArg Value.bool hb174) ?_
                  refine wpn_pk (congrArg Value.bool hb107) ?_
                  refine wpn_nil ?_
                  injection hF with hF
                  subst hF
                  refine wpn_end ?_
                  have hO := hO.sel [] (by decide)
                  exact ⟨rfl, _, And.intro rfl (And.intro rfl (And.intro rfl (And.intro rfl (And.intro rfl (And.intro rfl (And.intro rfl trivial)))))), hO, hL⟩
          · refine wpn_gF (congrArg (fun x => isB (.bool x) true) hb107) ?_
            refine wpn_gF rfl ?_
            refine wpn_gF (congrArg (fun x => isB (.bool x) true) hb107) ?_
            refine wpn_gF rfl ?_
            refine wpn_gF (congrArg (fun x => isB (.bool x) true) hb107) ?_
            refine wpn_gF rfl ?_
            refine wpn_gF (congrArg (fun x => isB (.bool x) true) hb107) ?_
            refine wpn_pk (congrArg Value.bool hb107) ?_
            refine wpn_nil ?_
            injection hF with hF
            subst hF
            refine wpn_end ?_
            exact ⟨rfl, _, And.intro rfl (And.intro rfl (And.intro rfl (And.intro rfl (And.intro rfl (And.intro rfl (And.intro rfl trivial)))))), hO, hL⟩
        · rintro e σ ⟨_, hA, hO, hL⟩
          rw [← sets_agr _ _ hA]
          refine wpn_nil ?_
          rcases ite_some hF with ⟨hb195, hF⟩ | ⟨hb195, hF⟩
          · refine wpn_cT (congrArg Value.bool hb195) ?_
            refine wpn_assoc ?_
            refine wpn_qa hO [] [(4, .bool false)] (And.intro rfl trivial) fun j => ?_
            refine wpn_rt ?_
            injection hF with hF
            subst hF
            exact hQ _ _ _ _ _ rfl hO hL ⟨rfl, rfl⟩
          · refine wpn_cF (congrArg Value.bool hb195) ?_
            refine wpn_sk ?_
            refine wpn_q hO 3 [] [(5, .int .u64 c6.1), (6, .int .i64 c6.2.1), (8, .int .i64 c10.1), (9, .int .i64 c10.2.1), (10, .int .i64 c10.2.2), (89, .bool (c6.2.2 == 0))] (And.intro rfl (And.intro rfl (And.intro rfl (And.intro rfl (And.intro rfl (And.intro rfl trivial)))))) fun j => ?_
            obtain ⟨c196, h197, hF⟩ := bind_some hF
            refine wpn_midq 4 [(96, .bool c196), (8, .int .i64 c10.1), (9, .int .i64 c10.2.1), (10, .int .i64 c10.2.2)] (fun Q hQ => ?_) fun j => ?_
            · have hF := h197
              rcases ite_some hF with ⟨hb198, hF⟩ | ⟨hb198, hF⟩
              · refine wpn_gF (congrArg (fun x => isB (.bool x) false) hb198) ?_
                refine wpn_gF rfl ?_
                refine wpn_gF (congrArg (fun x => isB (.bool x) false) hb198) ?_
                refine wpn_pk (congrArg Value.bool hb198) ?_
                refine wpn_nil ?_
                injection hF with hF
                subst hF
                refine wpn_end ?_
                exact hQ _ (And.intro rfl (And.intro rfl (And.intro rfl (And.intro rfl trivial))))
              · refine wpn_gT (congrArg (fun x => isB (.bool x) false) hb198) ?_
                refine wpn_q hO 3 [] [(6, .int .i64 c6.2.1), (8, .int .i64 c10.1), (9, .int .i64 c10.2.1), (10, .int .i64 c10.2.2), (89, .bool (c6.2.2 == 0)), (92, .bool (c6.1 == 0))] (And.intro rfl (And.intro rfl (And.intro rfl (And.intro rfl (And.intro rfl (And.intro rfl trivial)))))) fun j => ?_
                rcases ite_some hF with ⟨hb199, hF⟩ | ⟨hb199, hF⟩
                · refine wpn_gT (congrArg (fun x => isB (.bool x) true) hb199) ?_
                  refine wpn_q hO 2 [] [(8, .int .i64 c10.1), (9, .int .i64 c10.2.1), (10, .int .i64 c10.2.2), (89, .bool (c6.2.2 == 0)), (92, .bool (c6.1 == 0)), (94, .bool (c6.2.1 == 0))] (And.intro rfl (And.intro rfl (And.intro rfl (And.intro rfl (And.intro rfl (And.intro rfl trivial)))))) fun j => ?_
                  refine wpn_gT (congrArg (fun x => isB (.bool x) false) hb198) ?_
                  refine wpn_pk (congrArg Value.bool hb199) ?_
                  refine wpn_pk (congrArg Value.bool hb198) ?_
                  refine wpn_nil ?_
                  injection hF with hF
                  subst hF
                  refine wpn_end ?_
                  exact hQ _ (And.intro rfl (And.intro rfl (And.intro rfl (And.intro rfl trivial))))
                · refine wpn_gF (congrArg (fun x => isB (.bool x) true) hb199) ?_
                  refine wpn_gT (congrArg (fun x => isB (.bool x) false) hb198) ?_
                  refine wpn_pk (congrArg Value.bool hb199) ?_
                  refine wpn_pk (congrArg Value.bool hb198) ?_
                  refine wpn_nil ?_
                  injection hF with hF
                  subst hF
                  refine wpn_end ?_
                  exact hQ _ (And.intro rfl (And.intro rfl (And.intro rfl (And.intro rfl trivial))))
            · refine wpn_q hO 1 [] [(8, .int .i64 c10.1), (9, .int .i64 c10.2.1), (10, .int .i64 c10.2.2), (97, .bool c196)] (And.intro rfl (And.intro rfl (And.intro rfl (And.intro rfl trivial)))) fun j => ?_
              obtain ⟨c200, h201, hF⟩ := bind_some hF
              refine wpn_midq 6 [(108, .bool c200)] (fun Q hQ => ?_) fun j => ?_
              · have hF := h201
                rcases ite_some hF with ⟨hb202, hF⟩ | ⟨hb202, hF⟩
                · refine wpn_gT (congrArg (fun x => isB (.bool x) true) hb202) ?_
                  refine wpn_q hO 3 [] [(8, .int .i64 c10.1), (9, .int .i64 c10.2.1), (97, .bool c196), (100, .bool (c10.2.2 == 0))] (And.intro rfl (And.intro rfl (And.intro rfl (And.intro rfl trivial)))) fun j => ?_
                  rcases ite_some hF with ⟨hb203, hF⟩ | ⟨hb203, hF⟩
                  · refine wpn_gF (congrArg (fun x => isB (.bool x) false) hb203) ?_
                    refine wpn_gF rfl ?_
                    refine wpn_gF (congrArg (fun x => isB (.bool x) false) hb203) ?_
                    refine wpn_gT (congrArg (fun x => isB (.bool x) true) hb202) ?_
                    refine wpn_pk (congrArg Value.bool hb203) ?_
                    refine wpn_pk (congrArg Value.bool hb202) ?_
                    refine wpn_nil ?_
                    injection hF with hF
                    subst hF
                    refine wpn_end ?_
                    exact hQ _ (And.intro rfl (trivial))
                  · refine wpn_gT (congrArg (fun x => isB (.bool x) false) hb203) ?_
                    refine wpn_q hO 3 [] [(9, .int .i64 c10.2.1), (97, .bool c196), (100, .bool (c10.2.2 == 0)), (103, .bool (c10.1 == 0))] (And.intro rfl (And.intro rfl (And.intro rfl (And.intro rfl trivial)))) fun j => ?_
                    rcases ite_some hF with ⟨hb204, hF⟩ | ⟨hb204, hF⟩
                    · refine wpn_gT (congrArg (fun x => isB (.bool x) true) hb204) ?_
                      refine wpn_q hO 2 [] [(97, .bool c196), (100, .bool (c10.2.2 == 0)), (103, .bool (c10.1 == 0)), (105, .bool (c10.2.1 == 0))] (And.intro rfl (And.intro rfl (And.intro rfl (And.intro rfl trivial)))) fun j => ?_
                      refine wpn_gT (congrArg (fun x => isB (.bool x) false) hb203) ?_
                      refine wpn_pk (congrArg Value.bool hb204) ?_
                      refine wpn_gT (congrArg (fun x => isB (.bool x) true) hb202) ?_
                      refine wpn_pk (congrArg Value.bool hb203) ?_
                      refine wpn_pk (congrArg Value.bool hb202) ?_
                      refine wpn_nil ?_
                      injection hF with hF
                      subst hF
                      refine wpn_end ?_
                      exact hQ _ (And.intro rfl (trivial))
                    · refine wpn_gF (congrArg (fun x => isB (.bool x) true) hb204) ?_
                      refine wpn_gT (congrArg (fun x => isB (.bool x) false) hb203) ?_
                      refine wpn_pk (congrArg Value.bool hb204) ?_
                      refine wpn_gT (congrArg (fun x => isB (.bool x) true) hb202) ?_
                      refine wpn_pk (congrArg Value.bool hb203) ?_
                      refine wpn_pk (congrArg Value.bool hb202) ?_
                      refine wpn_nil ?_
                      injection hF with hF
                      subst hF
                      refine wpn_end ?_
                      exact hQ _ (And.intro rfl (trivial))
                · refine wpn_gF (congrArg (fun x => isB (.bool x) true) hb202) ?_
                  refine wpn_gF rfl ?_
                  refine wpn_gF rfl ?_
                  refine wpn_gF rfl ?_
                  refine wpn_gF (congrArg (fun x => isB (.bool x) true) hb202) ?_
                  refine wpn_pk (congrArg Value.bool hb202) ?_
                  refine wpn_nil ?_
                  injection hF with hF
                  subst hF
                  refine wpn_end ?_
                  exact hQ _ (And.intro rfl (trivial))
              · refine wpn_q hO 1 [] [(109, .bool c200)] (And.intro rfl trivial) fun j => ?_
                obtain ⟨c205, h206, hF⟩ := bind_some hF
                refine wpn_mid 2 (fun e' σ' => ∃ (τ' : Hp), agr [(111, .bool c205)] e' ∧ Obs τ' σ' [] ∧ Hp.le τ τ') ?_ ?_
                · have hF := h206
                  rcases ite_some hF with ⟨hb207, hF⟩ | ⟨hb207, hF⟩
                  · refine wpn_gT (congrArg (fun x => isB (.bool x) true) hb207) ?_
                    obtain ⟨c208, h209, hF⟩ := bind_some hF
                    refine wpn_c0 hO (w_law02_works h209) rfl fun _ σ _ _ hO h210 h211 => ?_
                    have hL := hL.trans h210
                    obtain ⟨rfl, rfl⟩ := h211
                    have hO : Obs _ _ [] := hO
                    refine wpn_pk (congrArg Value.bool hb207) ?_
                    refine wpn_nil ?_
                    injection hF with hF
                    subst hF
                    refine wpn_end ?_
                    exact ⟨rfl, _, And.intro rfl (trivial), hO, hL⟩
                  · refine wpn_gF (congrArg (fun x => isB (.bool x) true) hb207) ?_
                    refine wpn_pk (congrArg Value.bool hb207) ?_
                    refine wpn_nil ?_
                    injection hF with hF
                    subst hF
                    refine wpn_end ?_
                    exact ⟨rfl, _, And.intro rfl (trivial), hO, hL⟩
                · rintro e σ ⟨_, hA, hO, hL⟩
                  rw [← sets_agr _ _ hA]
                  refine wpn_qa hO [] [(4, .bool c205)] (And.intro rfl trivial) fun j => ?_
                  refine wpn_r1 ?_
                  injection hF with hF
                  subst hF
                  exact hQ _ _ _ _ _ rfl hO hL ⟨rfl, rfl⟩

/-! theodolite/theodolitelaw02.LebLong -/
theorem w_law02_LebLong {τ : Hp} {p0 : Int} {p1 : Int}  {rr : Bool} (hF : F_law02_LebLong p0 p1 = some rr) :
    Ctr Try.prog 7 #[.int .u64 p0, .int .u64 p1] τ [] (fun v τ' vs' => v = .bool rr ∧ vs' = []) := by
  refine ctr_of (args := [.int .u64 p0, .int .u64 p1]) hm Try.func7 s7 rfl fun w0 σ hO Q hQ => ?_
  unfold F_law02_LebLong at hF
  have hL := Hp.le.refl τ
  show wpn _ _ a7.body _ _ _
  unfold a7
  dsimp only
  refine wpn_qa hO [] [(0, .int .u64 p0), (1, .int .u64 p1)] (And.intro rfl (And.intro rfl trivial)) fun j => ?_
  refine wpn_q hO 1 [] [(0, .int .u64 p0), (1, .int .u64 p1), (9, .int .u64 p0)] (And.intro rfl (And.intro rfl (And.intro rfl trivial))) fun j => ?_
  obtain ⟨c1, h2, hF⟩ := bind_some hF
  refine wpn_c0 hO (w_leb_PutU (RdT.nil Ty.u8 _) h2) rfl fun _ σ _ _ hO h3 h4 => ?_
  have hL := hL.trans h3
  obtain ⟨v5, o8, rfl, rfl, w9⟩ := h4
  obtain ⟨A6, c7, rfl, -⟩ := w9.form
  have hO : Obs _ _ [_] := hO
  refine wpn_qa hO [] [(0, .int .u64 p0), (1, .int .u64 p1), (5, .int .i64 (c1.length : Int))] (And.intro rfl (And.intro rfl (And.intro rfl trivial))) fun j => ?_
  refine wpn_q hO 1 [] [(0, .int .u64 p0), (1, .int .u64 p1), (5, .int .i64 (c1.length : Int)), (12, .int .u64 p1)] (And.intro rfl (And.intro rfl (And.intro rfl (And.intro rfl trivial)))) fun j => ?_
  obtain ⟨c10, h11, hF⟩ := bind_some hF
  refine wpn_c0 hO (w_leb_PutU (RdT.nil Ty.u8 _) h11) rfl fun _ σ _ _ hO h12 h13 => ?_
  have hL := hL.trans h12
  obtain ⟨v14, o17, rfl, rfl, w18⟩ := h13
  obtain ⟨A15, c16, rfl, -⟩ := w18.form
  have hO : Obs _ _ [_, _] := hO
  refine wpn_qa hO [] [(0, .int .u64 p0), (1, .int .u64 p1), (5, .int .i64 (c1.length : Int)), (6, .int .i64 (c10.length : Int))] (And.intro rfl (And.intro rfl (And.intro rfl (And.intro rfl trivial)))) fun j => ?_
  refine wpn_assoc ?_
  refine wpn_q hO 7 [] [(0, .int .u64 p0), (1, .int .u64 p1), (5, .int .i64 (c1.length : Int)), (6, .int .i64 (c10.length : Int)), (23, .bool ((decide (p0 ≤ p1)) && (decide ((c1.length : Int) > (c10.length : Int)))))] (And.intro (And.intro rfl rfl) (fun _ => And.intro rfl (And.intro rfl (And.intro rfl (And.intro rfl (And.intro rfl trivial)))))) fun j => ?_
  obtain ⟨c19, h20, hF⟩ := bind_some hF
  refine wpn_midq 4 [(32, .bool c19), (0, .int .u64 p0), (5, .int .i64 (c1.length : Int))] (fun Q hQ => ?_) fun j => ?_
  · have hF := h20
    rcases ite_some hF with ⟨hb21, hF⟩ | ⟨hb21, hF⟩
    · refine wpn_gF (congrArg (fun x => isB (.bool x) false) hb21) ?_
      refine wpn_gF rfl ?_
      refine wpn_gF (congrArg (fun x => isB (.bool x) false) hb21) ?_
      refine wpn_pk (congrArg Value.bool hb21) ?_
      refine wpn_nil ?_
      injection hF with hF
      subst hF
      refine wpn_end ?_
      exact hQ _ (And.intro rfl (And.intro rfl (And.intro rfl trivial)))
    · refine wpn_gT (congrArg (fun x => isB (.bool x) false) hb21) ?_
      refine wpn_q hO 4 [] [(0, .int .u64 p0), (5, .int .i64 (c1.length : Int)), (6, .int .i64 (c10.length : Int)), (23, .bool ((decide (p0 ≤ p1)) && (decide ((c1.length : Int) > (c10.length : Int))))), (27, .bool (decide (p0 ≥ p1)))] (And.intro rfl (And.intro rfl (And.intro rfl (And.intro rfl (And.intro rfl trivial))))) fun j => ?_
      rcases ite_some hF with ⟨hb22, hF⟩ | ⟨hb22, hF⟩
      · refine wpn_gT (congrArg (fun x => isB (.bool x) true) hb22) ?_
        refine wpn_q hO 3 [] [(0, .int .u64 p0), (5, .int .i64 (c1.length : Int)), (23, .bool ((decide (p0 ≤ p1)) && (decide ((c1.length : Int) > (c10.length : Int))))), (27, .bool (decide (p0 ≥ p1))), (30, .bool (decide ((c1.length : Int) < (c10.length : Int))))] (And.intro rfl (And.intro rfl (And.intro rfl (And.intro rfl (And.intro rfl trivial))))) fun j => ?_
        refine wpn_gT (congrArg (fun x => isB (.bool x) false) hb21) ?_
        refine wpn_pk (congrArg Value.bool hb22) ?_
        refine wpn_pk (congrArg Value.bool hb21) ?_
        refine wpn_nil ?_
        injection hF with hF
        subst hF
        refine wpn_end ?_
        exact hQ _ (And.intro rfl (And.intro rfl (And.intro rfl trivial)))
      · refine wpn_gF (congrArg (fun x => isB (.bool x) true) hb22) ?_
        refine wpn_gT (congrArg (fun x => isB (.bool x) false) hb21) ?_
        refine wpn_pk (congrArg Value.bool hb22) ?_
        refine wpn_pk (congrArg Value.bool hb21) ?_
        refine wpn_nil ?_
        injection hF with hF
        subst hF
        refine wpn_end ?_
        exact hQ _ (And.intro rfl (And.intro rfl (And.intro rfl trivial)))
  · refine wpn_qa hO [] [(0, .int .u64 p0), (5, .int .i64 (c1.length : Int)), (40, .bool ((c19 || (decide ((c1.length : Int) < 1))) || (decide ((c1.length : Int) > 10))))] (And.intro (And.intro rfl rfl) (fun _ => And.intro (And.intro rfl rfl) (fun _ => And.intro rfl (And.intro rfl (And.intro rfl trivial))))) fun j => ?_
    rcases ite_some hF with ⟨hb23, hF⟩ | ⟨hb23, hF⟩
    · refine wpn_cT (congrArg Value.bool hb23) ?_
      refine wpn_assoc ?_
      refine wpn_qa hO [] [(4, .bool false)] (And.intro rfl trivial) fun j => ?_
      refine wpn_rt ?_
      injection hF with hF
      subst hF
      have hO := hO.sel [] (by decide)
      exact hQ _ _ _ _ _ rfl hO hL ⟨rfl, rfl⟩
    · refine wpn_cF (congrArg Value.bool hb23) ?_
      refine wpn_sk ?_
      refine wpn_assoc ?_
      refine wpn_q hO 3 [] [(0, .int .u64 p0), (5, .int .i64 (c1.length : Int)), (43, .bool (decide ((c1.length : Int) < 10)))] (And.intro rfl (And.intro rfl (And.intro rfl trivial))) fun j => ?_
      obtain ⟨c24, h25, hF⟩ := bind_some hF
      refine wpn_midq 2 [(50, .bool c24), (0, .int .u64 p0), (5, .int .i64 (c1.length : Int))] (fun Q hQ => ?_) fun j => ?_
      · have hF := h25
        rcases ite_some hF with ⟨hb26, hF⟩ | ⟨hb26, hF⟩
        · refine wpn_gT (congrArg (fun x => isB (.bool x) true) hb26) ?_
          refine wpn_q hO 4 [] [(0, .int .u64 p0), (5, .int .i64 (c1.length : Int)), (43, .bool (decide ((c1.length : Int) < 10))), (44, .int .u64 p0), (47, .int .u64 (IntKind.u64.wrap (IntKind.i64.wrap (7 * (c1.length : Int)))))] (And.intro rfl (And.intro rfl (And.intro rfl (And.intro rfl (And.intro rfl trivial))))) fun j => ?_
          obtain ⟨y27, g28, hF⟩ := bind_some hF
          refine wpn_bn (shrO_bin g28) ?_
          refine wpn_q hO 1 [] [(0, .int .u64 p0), (5, .int .i64 (c1.length : Int)), (43, .bool (decide ((c1.length : Int) < 10))), (49, .bool (y27 != 0))] (And.intro rfl (And.intro rfl (And.intro rfl (And.intro rfl trivial)))) fun j => ?_
          refine wpn_pk (congrArg Value.bool hb26) ?_
          refine wpn_nil ?_
          injection hF with hF
          subst hF
          refine wpn_end ?_
          exact hQ _ (And.intro rfl (And.intro rfl (And.intro rfl trivial)))
        · refine wpn_gF (congrArg (fun x => isB (.bool x) true) hb26) ?_
          refine wpn_pk (congrArg Value.bool hb26) ?_
          refine wpn_nil ?_
          injection hF with hF
          subst hF
          refine wpn_end ?_
          exact hQ _ (And.intro rfl (And.intro rfl (And.intro rfl trivial)))
      · refine wpn_q hO 1 [] [(0, .int .u64 p0), (5, .int .i64 (c1.length : Int)), (51, .bool c24)] (And.intro rfl (And.intro rfl (And.intro rfl trivial))) fun j => ?_
        obtain ⟨c29, h30, hF⟩ := bind_some hF
        refine wpn_midq 4 [(63, .bool c29), (0, .int .u64 p0)] (fun Q hQ => ?_) fun j => ?_
        · have hF := h30
          rcases ite_some hF with ⟨hb31, hF⟩ | ⟨hb31, hF⟩
          · refine wpn_gF (congrArg (fun x => isB (.bool x) false) hb31) ?_
            refine wpn_gF rfl ?_
            refine wpn_gF (congrArg (fun x => isB (.bool x) false) hb31) ?_
            refine wpn_pk (congrArg Value.bool hb31) ?_
            refine wpn_nil ?_
            injection hF with hF
            subst hF
            refine wpn_end ?_
            exact hQ _ (And.intro rfl (And.intro rfl trivial))
          · refine wpn_gT (congrArg (fun x => isB (.bool x) false) hb31) ?_
            refine wpn_q hO 3 [] [(0, .int .u64 p0), (5, .int .i64 (c1.length : Int)), (51, .bool c24), (54, .bool (decide ((c1.length : Int) > 1)))] (And.intro rfl (And.intro rfl (And.intro rfl (And.intro rfl trivial)))) fun j => ?_
            rcases ite_some hF with ⟨hb32, hF⟩ | ⟨hb32, hF⟩
            · refine wpn_gT (congrArg (fun x => isB (.bool x) true) hb32) ?_
              refine wpn_q hO 5 [] [(0, .int .u64 p0), (51, .bool c24), (54, .bool (decide ((c1.length : Int) > 1))), (55, .int .u64 p0), (59, .int .u64 (IntKind.u64.wrap (IntKind.i64.wrap ((IntKind.i64.wrap (7 * (c1.length : Int))) - 7))))] (And.intro rfl (And.intro rfl (And.intro rfl (And.intro rfl (And.intro rfl trivial))))) fun j => ?_
              obtain ⟨y33, g34, hF⟩ := bind_some hF
              refine wpn_bn (shrO_bin g34) ?_
              refine wpn_q hO 1 [] [(0, .int .u64 p0), (51, .bool c24), (54, .bool (decide ((c1.length : Int) > 1))), (61, .bool (y33 == 0))] (And.intro rfl (And.intro rfl (And.intro rfl (And.intro rfl trivial)))) fun j => ?_
              refine wpn_gT (congrArg (fun x => isB (.bool x) false) hb31) ?_
              refine wpn_pk (congrArg Value.bool hb32) ?_
              refine wpn_pk (congrArg Value.bool hb31) ?_
              refine wpn_nil ?_
              injection hF with hF
              subst hF
              refine wpn_end ?_
              exact hQ _ (And.intro rfl (And.intro rfl trivial))
            · refine wpn_gF (congrArg (fun x => isB (.bool x) true) hb32) ?_
              refine wpn_gT (congrArg (fun x => isB (.bool x) false) hb31) ?_
              refine wpn_pk (congrArg Value.bool hb32) ?_
              refine wpn_pk (congrArg Value.bool hb31) ?_
              refine wpn_nil ?_
              injection hF with hF
              subst hF
              refine wpn_end ?_
              exact hQ _ (And.intro rfl (And.intro rfl trivial))
        · refine wpn_nil ?_
          rcases ite_some hF with ⟨hb35, hF⟩ | ⟨hb35, hF⟩
          · refine wpn_cT (congrArg Value.bool hb35) ?_
            refine wpn_assoc ?_
            refine wpn_qa hO [] [(4, .bool false)] (And.intro rfl trivial) fun j => ?_
            refine wpn_rt ?_
            injection hF with hF
            subst hF
            have hO := hO.sel [] (by decide)
            exact hQ _ _ _ _ _ rfl hO hL ⟨rfl, rfl⟩
          · refine wpn_cF (congrArg Value.bool hb35) ?_
            refine wpn_sk ?_
            refine wpn_q hO 3 [] [(0, .int .u64 p0), (66, .int .i64 (IntKind.i64.wrap (shrI .u64 p0 1)))] (And.intro rfl (And.intro rfl trivial)) fun j => ?_
            obtain ⟨c36, h37, hF⟩ := bind_some hF
            refine wpn_c0 hO (w_leb_PutS (RdT.nil Ty.u8 _) h37) rfl fun _ σ _ _ hO h38 h39 => ?_
            have hL := hL.trans h38
            obtain ⟨v40, o43, rfl, rfl, w44⟩ := h39
            obtain ⟨A41, c42, rfl, -⟩ := w44.form
            have hO : Obs _ _ [_, _, _] := hO
            refine wpn_qa hO [] [(0, .int .u64 p0), (7, .int .i64 (c36.length : Int))] (And.intro rfl (And.intro rfl trivial)) fun j => ?_
            refine wpn_q hO 5 [] [(0, .int .u64 p0), (7, .int .i64 (c36.length : Int)), (73, .int .i64 (IntKind.i64.wrap ((IntKind.i64.wrap (0 - (IntKind.i64.wrap (shrI .u64 p0 1)))) - 1)))] (And.intro rfl (And.intro rfl (And.intro rfl trivial))) fun j => ?_
            obtain ⟨c45, h46, hF⟩ := bind_some hF
            refine wpn_c0 hO (w_leb_PutS (RdT.nil Ty.u8 _) h46) rfl fun _ σ _ _ hO h47 h48 => ?_
            have hL := hL.trans h47
            obtain ⟨v49, o52, rfl, rfl, w53⟩ := h48
            obtain ⟨A50, c51, rfl, -⟩ := w53.form
            have hO : Obs _ _ [_, _, _, _] := hO
            refine wpn_qa hO [] [(0, .int .u64 p0), (7, .int .i64 (c36.length : Int)), (8, .int .i64 (c45.length : Int))] (And.intro rfl (And.intro rfl (And.intro rfl trivial))) fun j => ?_
            refine wpn_q hO 4 [] [(0, .int .u64 p0), (7, .int .i64 (c36.length : Int)), (79, .bool ((c36.length : Int) == (c45.length : Int)))] (And.intro rfl (And.intro rfl (And.intro rfl trivial))) fun j => ?_
            have hO := hO.sel [] (by decide)
            have hO : Obs _ _ [] := hO
            obtain ⟨c54, h55, hF⟩ := bind_some hF
            refine wpn_mid 2 (fun e' σ' => ∃ (τ' : Hp), agr [(86, .bool c54), (0, .int .u64 p0), (7, .int .i64 (c36.length : Int))] e' ∧ Obs τ' σ' [] ∧ Hp.le τ τ') ?_ ?_
            · have hF := h55
              rcases ite_some hF with ⟨hb56, hF⟩ | ⟨hb56, hF⟩
              · refine wpn_gT (congrArg (fun x => isB (.bool x) true) hb56) ?_
                refine wpn_q hO 3 [] [(0, .int .u64 p0), (7, .int .i64 (c36.length : Int)), (79, .bool ((c36.length : Int) == (c45.length : Int))), (80, .int .i64 (c36.length : Int)), (82, .int .u64 (shrI .u64 p0 1))] (And.intro rfl (And.intro rfl (And.intro rfl (And.intro rfl (And.intro rfl trivial))))) fun j => ?_
                obtain ⟨c57, h58, hF⟩ := bind_some hF
                refine wpn_c0 hO (w_leb_PutU (RdT.nil Ty.u8 _) h58) rfl fun _ σ _ _ hO h59 h60 => ?_
                have hL := hL.trans h59
                obtain ⟨v61, o64, rfl, rfl, w65⟩ := h60
                obtain ⟨A62, c63, rfl, -⟩ := w65.form
                have hO : Obs _ _ [_] := hO
                refine wpn_q hO 2 [] [(0, .int .u64 p0), (7, .int .i64 (c36.length : Int)), (79, .bool ((c36.length : Int) == (c45.length : Int))), (85, .bool (decide ((c36.length : Int) ≥ (c57.length : Int))))] (And.intro rfl (And.intro rfl (And.intro rfl (And.intro rfl trivial)))) fun j => ?_
                refine wpn_pk (congrArg Value.bool hb56) ?_
                refine wpn_nil ?_
                injection hF with hF
                subst hF
                refine wpn_end ?_
                have hO := hO.sel [] (by decide)
                exact ⟨rfl, _, And.intro rfl (And.intro rfl (And.intro rfl trivial)), hO, hL⟩
              · refine wpn_gF (congrArg (fun x => isB (.bool x) true) hb56) ?_
                refine wpn_pk (congrArg Value.bool hb56) ?_
                refine wpn_nil ?_
                injection hF with hF
                subst hF
                refine wpn_end ?_
                exact ⟨rfl, _, And.intro rfl (And.intro rfl (And.intro rfl trivial)), hO, hL⟩
            · rintro e σ ⟨_, hA, hO, hL⟩
              rw [← sets_agr _ _ hA]
              refine wpn_q hO 1 [] [(0, .int .u64 p0), (7, .int .i64 (c36.length : Int)), (87, .bool c54)] (And.intro rfl (And.intro rfl (And.intro rfl trivial))) fun j => ?_
              obtain ⟨c66, h67, hF⟩ := bind_some hF
              refine wpn_mid 2 (fun e' σ' => ∃ (τ' : Hp), agr [(95, .bool c66)] e' ∧ Obs τ' σ' [] ∧ Hp.le τ τ') ?_ ?_
              · have hF := h67
                rcases ite_some hF with ⟨hb68, hF⟩ | ⟨hb68, hF⟩
                · refine wpn_gT (congrArg (fun x => isB (.bool x) true) hb68) ?_
                  refine wpn_q hO 3 [] [(87, .bool c54), (88, .int .i64 (c36.length : Int)), (90, .int .u64 (shrI .u64 p0 1))] (And.intro rfl (And.intro rfl (And.intro rfl trivial))) fun j => ?_
                  obtain ⟨c69, h70, hF⟩ := bind_some hF
                  refine wpn_c0 hO (w_leb_PutU (RdT.nil Ty.u8 _) h70) rfl fun _ σ _ _ hO h71 h72 => ?_
                  have hL := hL.trans h71
                  obtain ⟨v73, o76, rfl, rfl, w77⟩ := h72
                  obtain ⟨A74, c75, rfl, -⟩ := w77.form
                  have hO : Obs _ _ [_] := hO
                  refine wpn_q hO 3 [] [(87, .bool c54), (94, .bool (decide ((c36.length : Int) ≤ (IntKind.i64.wrap ((c69.length : Int) + 1)))))] (And.intro rfl (And.intro rfl trivial)) fun j => ?_
                  refine wpn_pk (congrArg Value.bool hb68) ?_
                  refine wpn_nil ?_
                  injection hF with hF
                  subst hF
                  refine wpn_end ?_
                  have hO := hO.sel [] (by decide)
                  exact ⟨rfl, _, And.intro rfl (trivial), hO, hL⟩
                · refine wpn_gF (congrArg (fun x => isB (.bool x) true) hb68) ?_
                  refine wpn_pk (congrArg Value.bool hb68) ?_
                  refine wpn_nil ?_
                  injection hF with hF
                  subst hF
                  refine wpn_end ?_
                  exact ⟨rfl, _, And.intro rfl (trivial), hO, hL⟩
              · rintro e σ ⟨_, hA, hO, hL⟩
                rw [← sets_agr _ _ hA]
                refine wpn_q hO 1 [] [(96, .bool c66)] (And.intro rfl trivial) fun j => ?_
                obtain ⟨c78, h79, hF⟩ := bind_some hF
                refine wpn_mid 2 (fun e' σ' => ∃ (τ' : Hp), agr [(98, .bool c78)] e' ∧ Obs τ' σ' [] ∧ Hp.le τ τ') ?_ ?_
                · have hF := h79
                  rcases ite_some hF with ⟨hb80, hF⟩ | ⟨hb80, hF⟩
                  · refine wpn_gT (congrArg (fun x => isB (.bool x) true) hb80) ?_
                    obtain ⟨c81, h82, hF⟩ := bind_some hF
                    refine wpn_c0 hO (w_law02_works h82) rfl fun _ σ _ _ hO h83 h84 => ?_
                    have hL := hL.trans h83
                    obtain ⟨rfl, rfl⟩ := h84
                    have hO : Obs _ _ [] := hO
                    refine wpn_pk (congrArg Value.bool hb80) ?_
                    refine wpn_nil ?_
                    injection hF with hF
                    subst hF
                    refine wpn_end ?_
                    exact ⟨rfl, _, And.intro rfl (trivial), hO, hL⟩
                  · refine wpn_gF (congrArg (fun x => isB (.bool x) true) hb80) ?_
                    refine wpn_pk (congrArg Value.bool hb80) ?_
                    refine wpn_nil ?_
                    injection hF with hF
                    subst hF
                    refine wpn_end ?_
                    exact ⟨rfl, _, And.intro rfl (trivial), hO, hL⟩
                · rintro e σ ⟨_, hA, hO, hL⟩
                  rw [← sets_agr _ _ hA]
                  refine wpn_qa hO [] [(4, .bool c78)] (And.intro rfl trivial) fun j => ?_
                  refine wpn_r1 ?_
                  injection hF with hF
                  subst hF
                  exact hQ _ _ _ _ _ rfl hO hL ⟨rfl, rfl⟩

/-! theodolite/octet.Pair -/
theorem w_octet_Pair {τ : Hp} {p0 : Int} {p1 : Int}  {rr : Int × Bool} (hF : F_octet_Pair p0 p1 = some rr) :
    Ctr Try.prog 27 #[.int .i64 p0, .int .i64 p1] τ [] (fun v τ' vs' => v = .tuple #[.int .u8 rr.1, .bool rr.2] ∧ vs' = []) := by
  refine ctr_of (args := [.int .i64 p0, .int .i64 p1]) hm Try.func27 s27 rfl fun w0 σ hO Q hQ => ?_
  unfold F_octet_Pair at hF
  have hL := Hp.le.refl τ
  show wpn _ _ a27.body _ _ _
  unfold a27
  dsimp only
  refine wpn_qa hO [] [(0, .int .i64 p0), (1, .int .i64 p1)] (And.intro rfl (And.intro rfl trivial)) fun j => ?_
  refine wpn_assoc ?_
  refine wpn_qa hO [] [(0, .int .i64 p0), (1, .int .i64 p1), (19, .bool ((((decide (p0 < 0)) || (decide (p0 ≥ 16))) || (decide (p1 < 0))) || (decide (p1 ≥ 16))))] (And.intro (And.intro rfl rfl) (fun _ => And.intro (And.intro rfl rfl) (fun _ => And.intro (And.intro rfl rfl) (fun _ => And.intro rfl (And.intro rfl (And.intro rfl trivial)))))) fun j => ?_
  rcases ite_some hF with ⟨hb1, hF⟩ | ⟨hb1, hF⟩
  · refine wpn_cT (congrArg Value.bool hb1) ?_
    refine wpn_assoc ?_
    refine wpn_qa hO [] [(4, .int .u8 0), (5, .bool false)] (And.intro rfl (And.intro rfl trivial)) fun j => ?_
    refine wpn_rt ?_
    injection hF with hF
    subst hF
    exact hQ _ _ _ _ _ rfl hO hL ⟨rfl, rfl⟩
  · refine wpn_cF (congrArg Value.bool hb1) ?_
    refine wpn_sk ?_
    refine wpn_qa hO [] [(4, .int .u8 (IntKind.u8.wrap (orI .i64 (shlI .i64 p0 4) p1))), (5, .bool true)] (And.intro rfl (And.intro rfl trivial)) fun j => ?_
    refine wpn_r1 ?_
    injection hF with hF
    subst hF
    exact hQ _ _ _ _ _ rfl hO hL ⟨rfl, rfl⟩

/-! theodolite/theodoliteref01.Pair -/
theorem w_ref01_Pair {τ : Hp} {p0 : Int} {p1 : Int}  {rr : Int × Bool} (hF : F_ref01_Pair p0 p1 = some rr) :
    Ctr Try.prog 28 #[.int .i64 p0, .int .i64 p1] τ [] (fun v τ' vs' => v = .tuple #[.int .u8 rr.1, .bool rr.2] ∧ vs' = []) := by
  refine ctr_of (args := [.int .i64 p0, .int .i64 p1]) hm Try.func28 s28 rfl fun w0 σ hO Q hQ => ?_
  unfold F_ref01_Pair at hF
  have hL := Hp.le.refl τ
  show wpn _ _ a28.body _ _ _
  unfold a28
  dsimp only
  refine wpn_qa hO [] [(0, .int .i64 p0), (1, .int .i64 p1)] (And.intro rfl (And.intro rfl trivial)) fun j => ?_
  refine wpn_assoc ?_
  refine wpn_qa hO [] [(0, .int .i64 p0), (1, .int .i64 p1), (6, .int .i64 0)] (And.intro rfl (And.intro rfl (And.intro rfl trivial))) fun j => ?_
  refine wpn_bl ?_
  refine wpn_lp (fun (n : Nat) e' σ' => ∃ (x3 : Int) (τ' : Hp), agr [(0, .int .i64 p0), (1, .int .i64 p1), (6, .int .i64 x3)] e' ∧ Obs τ' σ' [] ∧ Hp.le τ τ' ∧ F_ref01_Pair_l3 p0 p1 n x3 = some rr) big ⟨0, _, And.intro rfl (And.intro rfl (And.intro rfl trivial)), hO, hL, hF⟩ ?_
  clear hF hO hL
  rintro n6 e σ ⟨x3, _, hA, hO, hL, hF⟩
  rw [← sets_agr _ _ hA]
  cases n6 with
  | zero => exact nomatch (show none = some rr from hF)
  | succ n6 =>
    replace hF : F_ref01_Pair_l3B (F_ref01_Pair_l3 p0 p1 n6) p0 p1 x3 = some rr := hF
    unfold F_ref01_Pair_l3B at hF
    refine wpn_assoc ?_
    refine wpn_qa hO [] [(0, .int .i64 p0), (1, .int .i64 p1), (6, .int .i64 x3), (8, .bool (decide (x3 < 256)))] (And.intro rfl (And.intro rfl (And.intro rfl (And.intro rfl trivial)))) fun j => ?_
    rcases ite_some hF with ⟨hb7, hF⟩ | ⟨hb7, hF⟩
    · refine wpn_cT (congrArg Value.bool hb7) ?_
      refine wpn_sk ?_
      refine wpn_bl ?_
      refine wpn_qa hO [] [(0, .int .i64 p0), (1, .int .i64 p1), (6, .int .i64 x3), (20, .bool (((IntKind.i64.wrap (Int.tdiv x3 16)) == p0) && ((Int.tmod x3 16) == p1)))] (And.intro (And.intro rfl rfl) (fun _ => And.intro rfl (And.intro rfl (And.intro rfl (And.intro rfl trivial))))) fun j => ?_
      refine wpn_clast ?_
      rcases ite_some hF with ⟨hb8, hF⟩ | ⟨hb8, hF⟩
      · refine wpn_cT (congrArg Value.bool hb8) ?_
        refine wpn_assoc ?_
        refine wpn_qa hO [] [(4, .int .u8 (IntKind.u8.wrap x3)), (5, .bool true)] (And.intro rfl (And.intro rfl trivial)) fun j => ?_
        refine wpn_rt ?_
        refine inb_r1 ?_
        refine thn_r1 ?_
        refine thn_r1 ?_
        refine inb_r1 ?_
        refine thn_r1 ?_
        injection hF with hF
        subst hF
        exact hQ _ _ _ _ _ rfl hO hL ⟨rfl, rfl⟩
      · refine wpn_cF (congrArg Value.bool hb8) ?_
        refine wpn_sk ?_
        refine wpn_end ?_
        refine inb_i ?_
        refine thn_i ?_
        refine wpn_rlast ?_
        refine wpn_qa hO [] [(0, .int .i64 p0), (1, .int .i64 p1), (6, .int .i64 (IntKind.i64.wrap (x3 + 1)))] (And.intro rfl (And.intro rfl (And.intro rfl trivial))) fun j => ?_
        refine wpn_end ?_
        refine thn_i ?_
        exact ⟨n6, Nat.lt_succ_self _, (IntKind.i64.wrap (x3 + 1)), _, And.intro rfl (And.intro rfl (And.intro rfl trivial)), hO, hL, hF⟩
    · refine wpn_cF (congrArg Value.bool hb7) ?_
      refine wpn_ex ?_
      refine thn_x ?_
      refine inb_x ?_
      refine thn_i ?_
      refine wpn_qa hO [] [(4, .int .u8 0), (5, .bool false)] (And.intro rfl (And.intro rfl trivial)) fun j => ?_
      refine wpn_r1 ?_
      injection hF with hF
      subst hF
      exact hQ _ _ _ _ _ rfl hO hL ⟨rfl, rfl⟩

/-! theodolite/octet.Halves -/
theorem w_octet_Halves {τ : Hp} {p0 : Int}  {rr : Int × Int} (hF : F_octet_Halves p0 = some rr) :
    Ctr Try.prog 29 #[.int .u8 p0] τ [] (fun v τ' vs' => v = .tuple #[.int .i64 rr.1, .int .i64 rr.2] ∧ vs' = []) := by
  refine ctr_of (args := [.int .u8 p0]) hm Try.func29 s29 rfl fun w0 σ hO Q hQ => ?_
  unfold F_octet_Halves at hF
  have hL := Hp.le.refl τ
  show wpn _ _ a29.body _ _ _
  unfold a29
  dsimp only
  refine wpn_qa hO [] [(0, .int .u8 p0)] (And.intro rfl trivial) fun j => ?_
  refine wpn_qa hO [] [(2, .int .i64 (IntKind.i64.wrap (shrI .u8 p0 4))), (3, .int .i64 (IntKind.i64.wrap (andI .u8 p0 15)))] (And.intro rfl (And.intro rfl trivial)) fun j => ?_
  refine wpn_r1 ?_
  injection hF with hF
  subst hF
  exact hQ _ _ _ _ _ rfl hO hL ⟨rfl, rfl⟩

/-! theodolite/octet.cut -/
theorem w_octet_cut {τ : Hp} {v0 : Value} {p0 : (List UInt8)} {p1 : Int} {p2 : Int} (r0 : RdT Ty.u8 τ v0 p0) {rr : (List UInt8) × Int × Int} (hF : F_octet_cut p0 p1 p2 = some rr) :
    Ctr Try.prog 57 #[v0, .int .i64 p1, .int .i64 p2] τ [] (fun v τ' vs' => ∃ (v0 : Value), v = .tuple #[v0, .int .i64 rr.2.1, .int .i64 rr.2.2] ∧ vs' = [] ∧ RdT Ty.u8 τ' v0 rr.1) := by
  obtain ⟨A0, c0, rfl, -⟩ := r0.form
  refine ctr_of (args := [.slice A0 p0.length c0, .int .i64 p1, .int .i64 p2]) hm Try.func57 s57 rfl fun w0 σ hO Q hQ => ?_
  unfold F_octet_cut at hF
  have hL := Hp.le.refl τ
  show wpn _ _ a57.body _ _ _
  unfold a57
  dsimp only
  refine wpn_qa hO [] [(0, .slice A0 p0.length c0), (1, .int .i64 p1), (2, .int .i64 p2)] (And.intro rfl (And.intro rfl (And.intro rfl trivial))) fun j => ?_
  refine wpn_assoc ?_
  refine wpn_qa hO [] [(0, .slice A0 p0.length c0), (1, .int .i64 p1), (2, .int .i64 p2), (17, .bool ((decide (p1 < 0)) || (decide (p1 > (p0.length : Int)))))] (And.intro (And.intro rfl rfl) (fun _ => And.intro rfl (And.intro rfl (And.intro rfl (And.intro rfl trivial))))) fun j => ?_
  rcases ite_some hF with ⟨hb1, hF⟩ | ⟨hb1, hF⟩
  · refine wpn_cT (congrArg Value.bool hb1) ?_
    refine wpn_assoc ?_
    refine wpn_qa hO [] [(6, .slice none 0 0), (7, .int .i64 0), (8, .int .i64 1)] (And.intro rfl (And.intro rfl (And.intro rfl trivial))) fun j => ?_
    refine wpn_rt ?_
    injection hF with hF
    subst hF
    exact hQ _ _ _ _ _ rfl hO hL ⟨_, rfl, rfl, (RdT.nil _ _)⟩
  · refine wpn_cF (congrArg Value.bool hb1) ?_
    refine wpn_sk ?_
    refine wpn_assoc ?_
    refine wpn_q hO 2 [] [(1, .int .i64 p1), (2, .int .i64 p2), (18, .slice A0 p0.length c0), (19, .int .i64 p1)] (And.intro rfl (And.intro rfl (And.intro rfl (And.intro rfl trivial)))) fun j => ?_
    obtain ⟨y2, g3, hF⟩ := bind_some hF
    refine wpn_sl (T := Ty.u8) r0 rfl rfl rfl g3 fun _ r4 => ?_
    obtain ⟨A5, c6, rfl, -⟩ := r4.form
    refine wpn_qa hO [] [(1, .int .i64 p1), (2, .int .i64 p2), (9, .slice A5 y2.length c6)] (And.intro rfl (And.intro rfl (And.intro rfl trivial))) fun j => ?_
    refine wpn_assoc ?_
    refine wpn_qa hO [] [(1, .int .i64 p1), (2, .int .i64 p2), (9, .slice A5 y2.length c6), (24, .bool (decide ((y2.length : Int) ≥ p2)))] (And.intro rfl (And.intro rfl (And.intro rfl (And.intro rfl trivial)))) fun j => ?_
    rcases ite_some hF with ⟨hb7, hF⟩ | ⟨hb7, hF⟩
    · refine wpn_cT (congrArg Value.bool hb7) ?_
      refine wpn_assoc ?_
      refine wpn_q hO 2 [] [(1, .int .i64 p1), (2, .int .i64 p2), (25, .slice A5 y2.length c6), (26, .int .i64 p2)] (And.intro rfl (And.intro rfl (And.intro rfl (And.intro rfl trivial)))) fun j => ?_
      obtain ⟨y8, g9, hF⟩ := bind_some hF
      refine wpn_sl (T := Ty.u8) r4 rfl rfl rfl g9 fun _ r10 => ?_
      obtain ⟨A11, c12, rfl, -⟩ := r10.form
      refine wpn_qa hO [] [(6, .slice A11 y8.length c12), (7, .int .i64 (IntKind.i64.wrap (p1 + p2))), (8, .int .i64 0)] (And.intro rfl (And.intro rfl (And.intro rfl trivial))) fun j => ?_
      refine wpn_rt ?_
      injection hF with hF
      subst hF
      exact hQ _ _ _ _ _ rfl hO hL ⟨_, rfl, rfl, r10⟩
    · refine wpn_cF (congrArg Value.bool hb7) ?_
      refine wpn_sk ?_
      refine wpn_qa hO [] [(6, .slice none 0 0), (7, .int .i64 0), (8, .int .i64 5)] (And.intro rfl (And.intro rfl (And.intro rfl trivial))) fun j => ?_
      refine wpn_r1 ?_
      injection hF with hF
      subst hF
      exact hQ _ _ _ _ _ rfl hO hL ⟨_, rfl, rfl, (RdT.nil _ _)⟩

/-! theodolite/octet.One -/
theorem w_octet_One {τ : Hp} {v0 : Value} {p0 : (List UInt8)} {p1 : Int} (r0 : RdT Ty.u8 τ v0 p0) {rr : Int × Int × Int} (hF : F_octet_One p0 p1 = some rr) :
    Ctr Try.prog 32 #[v0, .int .i64 p1] τ [] (fun v τ' vs' => v = .tuple #[.int .u8 rr.1, .int .i64 rr.2.1, .int .i64 rr.2.2] ∧ vs' = []) := by
  obtain ⟨A0, c0, rfl, -⟩ := r0.form
  refine ctr_of (args := [.slice A0 p0.length c0, .int .i64 p1]) hm Try.func32 s32 rfl fun w0 σ hO Q hQ => ?_
  unfold F_octet_One at hF
  have hL := Hp.le.refl τ
  show wpn _ _ a32.body _ _ _
  unfold a32
  dsimp only
  refine wpn_qa hO [] [(0, .slice A0 p0.length c0), (1, .int .i64 p1)] (And.intro rfl (And.intro rfl trivial)) fun j => ?_
  refine wpn_q hO 2 [] [(9, .slice A0 p0.length c0), (10, .int .i64 p1)] (And.intro rfl (And.intro rfl trivial)) fun j => ?_
  obtain ⟨c1, h2, hF⟩ := bind_some hF
  refine wpn_c0 hO (w_octet_cut r0 h2) rfl fun _ σ _ _ hO h3 h4 => ?_
  have hL := hL.trans h3
  have r0 := r0.le h3
  obtain ⟨v5, rfl, rfl, r8⟩ := h4
  obtain ⟨A6, c7, rfl, -⟩ := r8.form
  have hO : Obs _ _ [] := hO
  refine wpn_qa hO [] [(5, .int .i64 c1.2.1), (6, .int .i64 c1.2.2), (7, .slice A6 c1.1.length c7)] (And.intro rfl (And.intro rfl (And.intro rfl trivial))) fun j => ?_
  refine wpn_assoc ?_
  refine wpn_qa hO [] [(5, .int .i64 c1.2.1), (6, .int .i64 c1.2.2), (7, .slice A6 c1.1.length c7), (16, .bool (c1.2.2 != 0))] (And.intro rfl (And.intro rfl (And.intro rfl (And.intro rfl trivial)))) fun j => ?_
  rcases ite_some hF with ⟨hb9, hF⟩ | ⟨hb9, hF⟩
  · refine wpn_cT (congrArg Value.bool hb9) ?_
    refine wpn_assoc ?_
    refine wpn_qa hO [] [(4, .int .u8 0), (5, .int .i64 0), (6, .int .i64 c1.2.2)] (And.intro rfl (And.intro rfl (And.intro rfl trivial))) fun j => ?_
    refine wpn_rt ?_
    injection hF with hF
    subst hF
    exact hQ _ _ _ _ _ rfl hO hL ⟨rfl, rfl⟩
  · refine wpn_cF (congrArg Value.bool hb9) ?_
    refine wpn_sk ?_
    refine wpn_q hO 1 [] [(5, .int .i64 c1.2.1), (18, .slice A6 c1.1.length c7)] (And.intro rfl (And.intro rfl trivial)) fun j => ?_
    obtain ⟨y10, g11, hF⟩ := bind_some hF
    refine wpn_idx (T := Ty.u8) r8 hO.base rfl rfl g11 (by decide) fun a12 _ k13 m14 => ?_
    obtain rfl : _ = ([.int .u8 y10.toNat] : List Value) := k13
    refine wpn_ld rfl m14.fst ?_
    refine wpn_qa hO [] [(4, .int .u8 (y10.toNat : Int)), (5, .int .i64 c1.2.1), (6, .int .i64 0)] (And.intro rfl (And.intro rfl (And.intro rfl trivial))) fun j => ?_
    refine wpn_r1 ?_
    injection hF with hF
    subst hF
    exact hQ _ _ _ _ _ rfl hO hL ⟨rfl, rfl⟩

/-! theodolite/octet.Place -/
theorem w_octet_Place {τ : Hp} {v0 : Value} {p0 : (List UInt8)} {p1 : Int} (r0 : RdT Ty.u8 τ v0 p0) {rr : Int × Int × Int} (hF : F_octet_Place p0 p1 = some rr) :
    Ctr Try.prog 34 #[v0, .int .i64 p1] τ [] (fun v τ' vs' => v = .tuple #[.int .i64 rr.1, .int .i64 rr.2.1, .int .i64 rr.2.2] ∧ vs' = []) := by
  obtain ⟨A0, c0, rfl, -⟩ := r0.form
  refine ctr_of (args := [.slice A0 p0.length c0, .int .i64 p1]) hm Try.func34 s34 rfl fun w0 σ hO Q hQ => ?_
  unfold F_octet_Place at hF
  have hL := Hp.le.refl τ
  show wpn _ _ a34.body _ _ _
  unfold a34
  dsimp only
  refine wpn_qa hO [] [(0, .slice A0 p0.length c0), (1, .int .i64 p1), (4, .int .i64 0)] (And.intro rfl (And.intro rfl (And.intro rfl trivial))) fun j => ?_
  refine wpn_q hO 2 [] [(4, .int .i64 0), (11, .slice A0 p0.length c0), (12, .int .i64 p1)] (And.intro rfl (And.intro rfl (And.intro rfl trivial))) fun j => ?_
  obtain ⟨c1, h2, hF⟩ := bind_some hF
  refine wpn_c0 hO (w_octet_cut r0 h2) rfl fun _ σ _ _ hO h3 h4 => ?_
  have hL := hL.trans h3
  have r0 := r0.le h3
  obtain ⟨v5, rfl, rfl, r8⟩ := h4
  obtain ⟨A6, c7, rfl, -⟩ := r8.form
  have hO : Obs _ _ [] := hO
  refine wpn_qa hO [] [(4, .int .i64 0), (5, .int .i64 c1.2.1), (6, .int .i64 c1.2.2), (7, .slice A6 c1.1.length c7)] (And.intro rfl (And.intro rfl (And.intro rfl (And.intro rfl trivial)))) fun j => ?_
  refine wpn_assoc ?_
  refine wpn_qa hO [] [(4, .int .i64 0), (5, .int .i64 c1.2.1), (6, .int .i64 c1.2.2), (17, .slice A6 c1.1.length c7), (18, .int .i64 (c1.1.length : Int)), (19, .int .i64 0)] (And.intro rfl (And.intro rfl (And.intro rfl (And.intro rfl (And.intro rfl (And.intro rfl trivial)))))) fun j => ?_
  refine wpn_bl ?_
  refine wpn_lp (fun (n : Nat) e' σ' => ∃ (x16 : Int) (x18 : Int) (τ' : Hp), agr [(4, .int .i64 x16), (5, .int .i64 c1.2.1), (6, .int .i64 c1.2.2), (17, .slice A6 c1.1.length c7), (18, .int .i64 (c1.1.length : Int)), (19, .int .i64 x18)] e' ∧ Obs τ' σ' [] ∧ Hp.le τ τ' ∧ RdT Ty.u8 τ' (.slice A6 c1.1.length c7) c1.1 ∧ F_octet_Place_l3 c1 n x16 x18 = some rr) big ⟨0, 0, _, And.intro rfl (And.intro rfl (And.intro rfl (And.intro rfl (And.intro rfl (And.intro rfl trivial))))), hO, hL, r8, hF⟩ ?_
  clear hF hO hL
  rintro n25 e σ ⟨x16, x18, _, hA, hO, hL, r17, hF⟩
  rw [← sets_agr _ _ hA]
  cases n25 with
  | zero => exact nomatch (show none = some rr from hF)
  | succ n25 =>
    replace hF : F_octet_Place_l3B (F_octet_Place_l3 c1 n25) c1 x16 x18 = some rr := hF
    unfold F_octet_Place_l3B at hF
    refine wpn_qa hO [] [(4, .int .i64 x16), (5, .int .i64 c1.2.1), (6, .int .i64 c1.2.2), (17, .slice A6 c1.1.length c7), (18, .int .i64 (c1.1.length : Int)), (19, .int .i64 x18), (20, .bool (decide (x18 < (c1.1.length : Int))))] (And.intro rfl (And.intro rfl (And.intro rfl (And.intro rfl (And.intro rfl (And.intro rfl (And.intro rfl trivial))))))) fun j => ?_
    rcases ite_some hF with ⟨hb26, hF⟩ | ⟨hb26, hF⟩
    · refine wpn_cT (congrArg Value.bool hb26) ?_
      refine wpn_sk ?_
      refine wpn_bl ?_
      obtain ⟨y27, g28, hF⟩ := bind_some hF
      refine wpn_idx (T := Ty.u8) r17 hO.base rfl rfl g28 (by decide) fun a29 _ k30 m31 => ?_
      obtain rfl : _ = ([.int .u8 y27.toNat] : List Value) := k30
      refine wpn_ld rfl m31.fst ?_
      refine wpn_qa hO [] [(4, .int .i64 x16), (5, .int .i64 c1.2.1), (6, .int .i64 c1.2.2), (9, .int .u8 (y27.toNat : Int)), (17, .slice A6 c1.1.length c7), (18, .int .i64 (c1.1.length : Int)), (19, .int .i64 x18)] (And.intro rfl (And.intro rfl (And.intro rfl (And.intro rfl (And.intro rfl (And.intro rfl (And.intro rfl trivial))))))) fun j => ?_
      refine wpn_rlast ?_
      refine wpn_qa hO [] [(4, .int .i64 (orI .i64 (shlI .i64 x16 8) (IntKind.i64.wrap (y27.toNat : Int)))), (5, .int .i64 c1.2.1), (6, .int .i64 c1.2.2), (17, .slice A6 c1.1.length c7), (18, .int .i64 (c1.1.length : Int)), (19, .int .i64 x18)] (And.intro rfl (And.intro rfl (And.intro rfl (And.intro rfl (And.intro rfl (And.intro rfl trivial)))))) fun j => ?_
      refine wpn_end ?_
      refine inb_i ?_
      refine thn_i ?_
      refine wpn_rlast ?_
      refine wpn_qa hO [] [(4, .int .i64 (orI .i64 (shlI .i64 x16 8) (IntKind.i64.wrap (y27.toNat : Int)))), (5, .int .i64 c1.2.1), (6, .int .i64 c1.2.2), (17, .slice A6 c1.1.length c7), (18, .int .i64 (c1.1.length : Int)), (19, .int .i64 (IntKind.i64.wrap (x18 + 1)))] (And.intro rfl (And.intro rfl (And.intro rfl (And.intro rfl (And.intro rfl (And.intro rfl trivial)))))) fun j => ?_
      refine wpn_end ?_
      refine thn_i ?_
      exact ⟨n25, Nat.lt_succ_self _, (orI .i64 (shlI .i64 x16 8) (IntKind.i64.wrap (y27.toNat : Int))), (IntKind.i64.wrap (x18 + 1)), _, And.intro rfl (And.intro rfl (And.intro rfl (And.intro rfl (And.intro rfl (And.intro rfl trivial))))), hO, hL, r17, hF⟩
    · refine wpn_cF (congrArg Value.bool hb26) ?_
      refine wpn_ex ?_
      refine thn_x ?_
      refine inb_x ?_
      refine thn_i ?_
      refine wpn_qa hO [] [(4, .int .i64 x16), (5, .int .i64 c1.2.1), (6, .int .i64 c1.2.2)] (And.intro rfl (And.intro rfl (And.intro rfl trivial))) fun j => ?_
      refine wpn_r1 ?_
      injection hF with hF
      subst hF
      exact hQ _ _ _ _ _ rfl hO hL ⟨rfl, rfl⟩

/-! theodolite/octet.Text -/
theorem w_octet_Text {τ : Hp} {v0 : Value} {p0 : (List UInt8)} {p1 : Int} (r0 : RdT Ty.u8 τ v0 p0) {rr : ByteArray × Int × Int} (hF : F_octet_Text p0 p1 = some rr) :
    Ctr Try.prog 36 #[v0, .int .i64 p1] τ [] (fun v τ' vs' => v = .tuple #[.string rr.1, .int .i64 rr.2.1, .int .i64 rr.2.2] ∧ vs' = []) := by
  obtain ⟨A0, c0, rfl, -⟩ := r0.form
  refine ctr_of (args := [.slice A0 p0.length c0, .int .i64 p1]) hm Try.func36 s36 rfl fun w0 σ hO Q hQ => ?_
  unfold F_octet_Text at hF
  have hL := Hp.le.refl τ
  show wpn _ _ a36.body _ _ _
  unfold a36
  dsimp only
  refine wpn_qa hO [] [(0, .slice A0 p0.length c0), (1, .int .i64 p1)] (And.intro rfl (And.intro rfl trivial)) fun j => ?_
  refine wpn_q hO 2 [] [(0, .slice A0 p0.length c0), (10, .slice A0 p0.length c0), (11, .int .i64 p1)] (And.intro rfl (And.intro rfl (And.intro rfl trivial))) fun j => ?_
  obtain ⟨c1, h2, hF⟩ := bind_some hF
  refine wpn_c0 hO (w_octet_One r0 h2) rfl fun _ σ _ _ hO h3 h4 => ?_
  have hL := hL.trans h3
  have r0 := r0.le h3
  obtain ⟨rfl, rfl⟩ := h4
  have hO : Obs _ _ [] := hO
  refine wpn_qa hO [] [(0, .slice A0 p0.length c0), (5, .int .i64 c1.2.1), (6, .int .i64 c1.2.2), (7, .int .u8 c1.1)] (And.intro rfl (And.intro rfl (And.intro rfl (And.intro rfl trivial)))) fun j => ?_
  refine wpn_assoc ?_
  refine wpn_qa hO [] [(0, .slice A0 p0.length c0), (5, .int .i64 c1.2.1), (6, .int .i64 c1.2.2), (7, .int .u8 c1.1), (17, .bool (c1.2.2 != 0))] (And.intro rfl (And.intro rfl (And.intro rfl (And.intro rfl (And.intro rfl trivial))))) fun j => ?_
  rcases ite_some hF with ⟨hb5, hF⟩ | ⟨hb5, hF⟩
  · refine wpn_cT (congrArg Value.bool hb5) ?_
    refine wpn_assoc ?_
    refine wpn_qa hO [] [(4, .string (⟨#[]⟩ : ByteArray)), (5, .int .i64 0), (6, .int .i64 c1.2.2)] (And.intro rfl (And.intro rfl (And.intro rfl trivial))) fun j => ?_
    refine wpn_rt ?_
    injection hF with hF
    subst hF
    exact hQ _ _ _ _ _ rfl hO hL ⟨rfl, rfl⟩
  · refine wpn_cF (congrArg Value.bool hb5) ?_
    refine wpn_sk ?_
    refine wpn_q hO 4 [] [(20, .slice A0 p0.length c0), (21, .int .i64 c1.2.1), (23, .int .i64 (IntKind.i64.wrap c1.1))] (And.intro rfl (And.intro rfl (And.intro rfl trivial))) fun j => ?_
    obtain ⟨c6, h7, hF⟩ := bind_some hF
    refine wpn_c0 hO (w_octet_cut r0 h7) rfl fun _ σ _ _ hO h8 h9 => ?_
    have hL := hL.trans h8
    have r0 := r0.le h8
    obtain ⟨v10, rfl, rfl, r13⟩ := h9
    obtain ⟨A11, c12, rfl, -⟩ := r13.form
    have hO : Obs _ _ [] := hO
    refine wpn_qa hO [] [(5, .int .i64 c6.2.1), (6, .int .i64 c6.2.2), (8, .slice A11 c6.1.length c12)] (And.intro rfl (And.intro rfl (And.intro rfl trivial))) fun j => ?_
    refine wpn_q hO 1 [] [(5, .int .i64 c6.2.1), (6, .int .i64 c6.2.2), (28, .slice A11 c6.1.length c12)] (And.intro rfl (And.intro rfl (And.intro rfl trivial))) fun j => ?_
    refine wpn_ts (l := c6.1) (r13.le hO.base) rfl ?_
    refine wpn_qa hO [] [(4, .string (⟨c6.1.toArray⟩ : ByteArray)), (5, .int .i64 c6.2.1), (6, .int .i64 c6.2.2)] (And.intro rfl (And.intro rfl (And.intro rfl trivial))) fun j => ?_
    refine wpn_r1 ?_
    injection hF with hF
    subst hF
    exact hQ _ _ _ _ _ rfl hO hL ⟨rfl, rfl⟩

/-! slices.Grow[[]byte,byte] -/
theorem w_slices_Grow_Sbyte_byte {τ : Hp} {p1 : Int} (r0 : RdT Ty.u8 τ (.slice none 0 0) []) {rr : (List UInt8)} (hF : F_slices_Grow_Sbyte_byte [] p1 = some rr) :
    Ctr Try.prog 62 #[.slice none 0 0, .int .i64 p1] τ [] (fun v τ' vs' => ∃ (v0 : Value) (o0 : Ob), v = v0 ∧ vs' = [o0] ∧ OwnO Ty.u8 5 τ' v0 rr o0) := by
  refine ctr_of (args := [.slice none 0 0, .int .i64 p1]) hm Try.func62 s62 rfl fun w0 σ hO Q hQ => ?_
  unfold F_slices_Grow_Sbyte_byte at hF
  have hL := Hp.le.refl τ
  show wpn _ _ a62.body _ _ _
  unfold a62
  dsimp only
  refine wpn_qa hO [] [(0, .slice none 0 0), (1, .int .i64 p1)] (And.intro rfl (And.intro rfl trivial)) fun j => ?_
  refine wpn_assoc ?_
  refine wpn_qa hO [] [(0, .slice none 0 0), (1, .int .i64 p1), (6, .bool (decide (p1 < 0)))] (And.intro rfl (And.intro rfl (And.intro rfl trivial))) fun j => ?_
  refine wpn_cut (fun e' σ' => ∃ (τ' : Hp), agr [(0, .slice none 0 0), (1, .int .i64 p1)] e' ∧ Obs τ' σ' [] ∧ Hp.le τ τ' ∧ F_slices_Grow_Sbyte_byte_k3 p1 = some rr) ?_ ?_
  · refine wpn_clast ?_
    rcases ite_some hF with ⟨hb12, hF⟩ | ⟨hb12, hF⟩
    · refine wpn_cT (congrArg Value.bool hb12) ?_
      refine wpn_q hO 1 [] [(0, .slice none 0 0), (1, .int .i64 p1), (7, .iface 9 (.string (⟨#[99, 97, 110, 110, 111, 116, 32, 98, 101, 32, 110, 101, 103, 97, 116, 105, 118, 101]⟩ : ByteArray)))] (And.intro rfl (And.intro rfl (And.intro rfl trivial))) fun j => ?_
      exact nomatch (show none = some _ from hF)
    · refine wpn_cF (congrArg Value.bool hb12) ?_
      refine wpn_sk ?_
      refine wpn_end ?_
      refine thn_i ?_
      exact ⟨_, And.intro rfl (And.intro rfl trivial), hO, hL, hF⟩
  · rintro e σ ⟨_, hA, hO, hL, hF⟩
    rw [← sets_agr _ _ hA]
    unfold F_slices_Grow_Sbyte_byte_k3 at hF
    refine wpn_assoc ?_
    refine wpn_qa hO [] [(0, .slice none 0 0), (1, .int .i64 (IntKind.i64.wrap (p1 - (IntKind.i64.wrap (0 - 0)))))] (And.intro rfl (And.intro rfl trivial)) fun j => ?_
    refine wpn_assoc ?_
    refine wpn_qa hO [] [(0, .slice none 0 0), (1, .int .i64 (IntKind.i64.wrap (p1 - (IntKind.i64.wrap (0 - 0))))), (16, .bool (decide ((IntKind.i64.wrap (p1 - (IntKind.i64.wrap (0 - 0)))) > 0)))] (And.intro rfl (And.intro rfl (And.intro rfl trivial))) fun j => ?_
    rcases ite_some hF with ⟨hb2, hF⟩ | ⟨hb2, hF⟩
    · refine wpn_cT (congrArg Value.bool hb2) ?_
      refine wpn_q hO 3 [] [(0, .slice none 0 0), (1, .int .i64 (IntKind.i64.wrap (p1 - (IntKind.i64.wrap (0 - 0))))), (17, .slice none 0 0), (19, .int .i64 0)] (And.intro rfl (And.intro rfl (And.intro rfl (And.intro rfl trivial)))) fun j => ?_
      refine wpn_n0 rfl rfl rfl ?_
      refine wpn_q hO 1 [] [(0, .slice none 0 0), (20, .slice none 0 0), (21, .int .i64 (IntKind.i64.wrap (p1 - (IntKind.i64.wrap (0 - 0)))))] (And.intro rfl (And.intro rfl (And.intro rfl trivial))) fun j => ?_
      have hO := hO.no
      have hO : Obs _ _ [_] := hO
      have w3 := OwnO.nil0 (T := Ty.u8) (ty := 5) hO
      obtain ⟨_, g8, hF⟩ := bind_some hF
      obtain ⟨_, hr, hF⟩ := bind_some hF
      refine wpn_apz (T := Ty.u8) (z := (0 : UInt8)) hO w3 (i := 0) rfl rfl rfl (nneg_le g8) (show _ = _ from rfl) hr (by decide) fun _ σ o6 w7 hO => ?_
      obtain ⟨A4, c5, rfl, -⟩ := w7.form
      have hO : Obs _ _ [_] := hO
      refine wpn_q hO 2 [] [(22, .slice A4 (([] : List UInt8) ++ List.replicate (Int.toNat (IntKind.i64.wrap (p1 - (IntKind.i64.wrap (0 - 0))))) (0 : UInt8)).length c5), (24, .int .i64 0)] (And.intro rfl (And.intro rfl trivial)) fun j => ?_
      obtain ⟨y9, g10, hF⟩ := bind_some hF
      refine wpn_tr (T := Ty.u8) w7 rfl rfl g10 fun w11 => ?_
      refine wpn_qa hO [] [(0, .slice A4 y9.length c5)] (And.intro rfl trivial) fun j => ?_
      refine wpn_qa hO [] [(4, .slice A4 y9.length c5)] (And.intro rfl trivial) fun j => ?_
      refine wpn_r1 ?_
      injection hF with hF
      subst hF
      exact hQ _ _ _ _ _ rfl hO hL ⟨_, _, rfl, rfl, w11⟩
    · refine wpn_cF (congrArg Value.bool hb2) ?_
      refine wpn_sk ?_
      refine wpn_qa hO [] [(4, .slice none 0 0)] (And.intro rfl trivial) fun j => ?_
      refine wpn_r1 ?_
      have hO := hO.no
      have hO : Obs _ _ [_] := hO
      injection hF with hF
      subst hF
      exact hQ _ _ _ _ _ rfl hO hL ⟨_, _, rfl, rfl, (OwnO.nil _ _ _)⟩

end Go.Proofs.Ytmcfgapknoiohaa
