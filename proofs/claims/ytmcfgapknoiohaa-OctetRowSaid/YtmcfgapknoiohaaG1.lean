import Derived.Test.YtmcfgapknoiohaaF
import Derived.Test.YtmcfgapknoiohaaAc0
import Derived.Test.YtmcfgapknoiohaaM00
import Derived.Test.YtmcfgapknoiohaaM01
import Derived.Test.YtmcfgapknoiohaaG0
namespace Go.Proofs.Ytmcfgapknoiohaa
open Go.Ab Go.RowKit
set_option linter.unusedVariables false
set_option linter.unusedSimpArgs false
set_option maxRecDepth 10000
theorem zS {τ : Hp} {p0 : Int} {p1 : Int}  {rr : Int × Bool} (hF : zi p0 p1 = some rr) :
    Ctr Try.prog 27 #[.int .i64 p0, .int .i64 p1] τ [] (fun v τ' vs' => v = .tuple #[.int .u8 rr.1, .bool rr.2] ∧ vs' = []) := by
  refine ctr_of (args := [.int .i64 p0, .int .i64 p1]) hm Try.func27 s27 rfl fun w0 σ hO Q hQ => ?_
  unfold zi at hF
  have hL := Hp.le.refl τ
  show wpn _ _ a27.body _ _ _
  unfold a27
  dsimp only
  refine wpn_qa hO [] [(0, .int .i64 p0), (1, .int .i64 p1)] (ar (ar trivial)) fun j => ?_
  refine wpn_assoc ?_
  refine wpn_qa hO [] [(0, .int .i64 p0), (1, .int .i64 p1), (19, .bool ((((decide (p0 < 0)) || (decide (p0 ≥ 16))) || (decide (p1 < 0))) || (decide (p1 ≥ 16))))] (And.intro (And.intro rfl rfl) (fun _ => And.intro (And.intro rfl rfl) (fun _ => And.intro (And.intro rfl rfl) (fun _ => ar (ar (ar trivial)))))) fun j => ?_
  rcases ite_some hF with ⟨hb3, hF⟩ | ⟨hb3, hF⟩
  · refine wpn_cT (congrArg Value.bool hb3) ?_
    refine wpn_assoc ?_
    refine wpn_qa hO [] [(4, .int .u8 0), (5, .bool false)] (ar (ar trivial)) fun j => ?_
    refine wpn_rt ?_
    injection hF with hF
    subst hF
    exact hQ _ _ _ _ _ rfl hO hL ⟨rfl, rfl⟩
  · refine wpn_cF (congrArg Value.bool hb3) ?_
    refine wpn_sk ?_
    refine wpn_qa hO [] [(4, .int .u8 (IntKind.u8.wrap (orI .i64 (shlI .i64 p0 4) p1))), (5, .bool true)] (ar (ar trivial)) fun j => ?_
    refine wpn_r1 ?_
    injection hF with hF
    subst hF
    exact hQ _ _ _ _ _ rfl hO hL ⟨rfl, rfl⟩
theorem zU {τ : Hp} {p0 : Int}  {rr : Int × Int} (hF : zl p0 = some rr) :
    Ctr Try.prog 29 #[.int .u8 p0] τ [] (fun v τ' vs' => v = .tuple #[.int .i64 rr.1, .int .i64 rr.2] ∧ vs' = []) := by
  refine ctr_of (args := [.int .u8 p0]) hm Try.func29 s29 rfl fun w0 σ hO Q hQ => ?_
  unfold zl at hF
  have hL := Hp.le.refl τ
  show wpn _ _ a29.body _ _ _
  unfold a29
  dsimp only
  refine wpn_qa hO [] [(0, .int .u8 p0)] (ar trivial) fun j => ?_
  refine wpn_qa hO [] [(2, .int .i64 (IntKind.i64.wrap (shrI .u8 p0 4))), (3, .int .i64 (IntKind.i64.wrap (andI .u8 p0 15)))] (ar (ar trivial)) fun j => ?_
  refine wpn_r1 ?_
  injection hF with hF
  subst hF
  exact hQ _ _ _ _ _ rfl hO hL ⟨rfl, rfl⟩
theorem zJ {τ : Hp} {v0 : Value} {p0 : (List UInt8)} {p1 : Int} {p2 : Int} (r0 : RdT Ty.u8 τ v0 p0) {rr : (List UInt8) × Int × Int} (hF : zg p0 p1 p2 = some rr) :
    Ctr Try.prog 57 #[v0, .int .i64 p1, .int .i64 p2] τ [] (fun v τ' vs' => ∃ (v0 : Value), v = .tuple #[v0, .int .i64 rr.2.1, .int .i64 rr.2.2] ∧ vs' = [] ∧ RdT Ty.u8 τ' v0 rr.1) := by
  obtain ⟨A0, c0, rfl, -⟩ := r0.form
  refine ctr_of (args := [.slice A0 p0.length c0, .int .i64 p1, .int .i64 p2]) hm Try.func57 s57 rfl fun w0 σ hO Q hQ => ?_
  unfold zg at hF
  have hL := Hp.le.refl τ
  show wpn _ _ a57.body _ _ _
  unfold a57
  dsimp only
  refine wpn_qa hO [] [(0, .slice A0 p0.length c0), (1, .int .i64 p1), (2, .int .i64 p2)] (ar (ar (ar trivial))) fun j => ?_
  refine wpn_assoc ?_
  refine wpn_qa hO [] [(0, .slice A0 p0.length c0), (1, .int .i64 p1), (2, .int .i64 p2), (17, .bool ((decide (p1 < 0)) || (decide (p1 > (p0.length : Int)))))] (And.intro (And.intro rfl rfl) (fun _ => ar (ar (ar (ar trivial))))) fun j => ?_
  rcases ite_some hF with ⟨hb4, hF⟩ | ⟨hb4, hF⟩
  · refine wpn_cT (congrArg Value.bool hb4) ?_
    refine wpn_assoc ?_
    refine wpn_qa hO [] [(6, .slice none 0 0), (7, .int .i64 0), (8, .int .i64 1)] (ar (ar (ar trivial))) fun j => ?_
    refine wpn_rt ?_
    injection hF with hF
    subst hF
    exact hQ _ _ _ _ _ rfl hO hL ⟨_, rfl, rfl, (RdT.nil _ _)⟩
  · refine wpn_cF (congrArg Value.bool hb4) ?_
    refine wpn_sk ?_
    refine wpn_assoc ?_
    refine wpn_q hO 2 [] [(1, .int .i64 p1), (2, .int .i64 p2), (18, .slice A0 p0.length c0), (19, .int .i64 p1)] (ar (ar (ar (ar trivial)))) fun j => ?_
    obtain ⟨y5, g6, hF⟩ := bind_some hF
    refine wpn_sl (T := Ty.u8) r0 rfl rfl rfl g6 fun _ r7 => ?_
    obtain ⟨A8, c9, rfl, -⟩ := r7.form
    refine wpn_qa hO [] [(1, .int .i64 p1), (2, .int .i64 p2), (9, .slice A8 y5.length c9)] (ar (ar (ar trivial))) fun j => ?_
    refine wpn_assoc ?_
    refine wpn_qa hO [] [(1, .int .i64 p1), (2, .int .i64 p2), (9, .slice A8 y5.length c9), (24, .bool (decide ((y5.length : Int) ≥ p2)))] (ar (ar (ar (ar trivial)))) fun j => ?_
    rcases ite_some hF with ⟨hb10, hF⟩ | ⟨hb10, hF⟩
    · refine wpn_cT (congrArg Value.bool hb10) ?_
      refine wpn_assoc ?_
      refine wpn_q hO 2 [] [(1, .int .i64 p1), (2, .int .i64 p2), (25, .slice A8 y5.length c9), (26, .int .i64 p2)] (ar (ar (ar (ar trivial)))) fun j => ?_
      obtain ⟨y11, g12, hF⟩ := bind_some hF
      refine wpn_sl (T := Ty.u8) r7 rfl rfl rfl g12 fun _ r13 => ?_
      obtain ⟨A14, c15, rfl, -⟩ := r13.form
      refine wpn_qa hO [] [(6, .slice A14 y11.length c15), (7, .int .i64 (IntKind.i64.wrap (p1 + p2))), (8, .int .i64 0)] (ar (ar (ar trivial))) fun j => ?_
      refine wpn_rt ?_
      injection hF with hF
      subst hF
      exact hQ _ _ _ _ _ rfl hO hL ⟨_, rfl, rfl, r13⟩
    · refine wpn_cF (congrArg Value.bool hb10) ?_
      refine wpn_sk ?_
      refine wpn_qa hO [] [(6, .slice none 0 0), (7, .int .i64 0), (8, .int .i64 5)] (ar (ar (ar trivial))) fun j => ?_
      refine wpn_r1 ?_
      injection hF with hF
      subst hF
      exact hQ _ _ _ _ _ rfl hO hL ⟨_, rfl, rfl, (RdT.nil _ _)⟩
theorem zM {τ : Hp} {v0 : Value} {p0 : (List UInt8)} {p1 : Int} (r0 : RdT Ty.u8 τ v0 p0) {rr : Int × Int × Int} (hF : zd p0 p1 = some rr) :
    Ctr Try.prog 32 #[v0, .int .i64 p1] τ [] (fun v τ' vs' => v = .tuple #[.int .u8 rr.1, .int .i64 rr.2.1, .int .i64 rr.2.2] ∧ vs' = []) := by
  obtain ⟨A0, c0, rfl, -⟩ := r0.form
  refine ctr_of (args := [.slice A0 p0.length c0, .int .i64 p1]) hm Try.func32 s32 rfl fun w0 σ hO Q hQ => ?_
  unfold zd at hF
  have hL := Hp.le.refl τ
  show wpn _ _ a32.body _ _ _
  unfold a32
  dsimp only
  refine wpn_qa hO [] [(0, .slice A0 p0.length c0), (1, .int .i64 p1)] (ar (ar trivial)) fun j => ?_
  refine wpn_q hO 2 [] [(9, .slice A0 p0.length c0), (10, .int .i64 p1)] (ar (ar trivial)) fun j => ?_
  obtain ⟨c3, h4, hF⟩ := bind_some hF
  refine wpn_c0 hO (zJ r0 h4) rfl fun _ σ _ _ hO h5 h6 => ?_
  have hL := hL.trans h5
  have r0 := r0.le h5
  obtain ⟨v7, rfl, rfl, r10⟩ := h6
  obtain ⟨A8, c9, rfl, -⟩ := r10.form
  have hO : Obs _ _ [] := hO
  refine wpn_qa hO [] [(5, .int .i64 c3.2.1), (6, .int .i64 c3.2.2), (7, .slice A8 c3.1.length c9)] (ar (ar (ar trivial))) fun j => ?_
  refine wpn_assoc ?_
  refine wpn_qa hO [] [(5, .int .i64 c3.2.1), (6, .int .i64 c3.2.2), (7, .slice A8 c3.1.length c9), (16, .bool (c3.2.2 != 0))] (ar (ar (ar (ar trivial)))) fun j => ?_
  rcases ite_some hF with ⟨hb11, hF⟩ | ⟨hb11, hF⟩
  · refine wpn_cT (congrArg Value.bool hb11) ?_
    refine wpn_assoc ?_
    refine wpn_qa hO [] [(4, .int .u8 0), (5, .int .i64 0), (6, .int .i64 c3.2.2)] (ar (ar (ar trivial))) fun j => ?_
    refine wpn_rt ?_
    injection hF with hF
    subst hF
    exact hQ _ _ _ _ _ rfl hO hL ⟨rfl, rfl⟩
  · refine wpn_cF (congrArg Value.bool hb11) ?_
    refine wpn_sk ?_
    refine wpn_q hO 1 [] [(5, .int .i64 c3.2.1), (18, .slice A8 c3.1.length c9)] (ar (ar trivial)) fun j => ?_
    obtain ⟨y12, g13, hF⟩ := bind_some hF
    refine wpn_idx (T := Ty.u8) r10 hO.base rfl rfl g13 (by decide) fun a14 _ k15 m16 => ?_
    obtain rfl : _ = ([.int .u8 y12.toNat] : List Value) := k15
    refine wpn_ld rfl (m16.le hO.base).fst ?_
    refine wpn_qa hO [] [(4, .int .u8 (y12.toNat : Int)), (5, .int .i64 c3.2.1), (6, .int .i64 0)] (ar (ar (ar trivial))) fun j => ?_
    refine wpn_r1 ?_
    injection hF with hF
    subst hF
    exact hQ _ _ _ _ _ rfl hO hL ⟨rfl, rfl⟩
theorem zP {τ : Hp} {v0 : Value} {p0 : (List UInt8)} {p1 : Int} (r0 : RdT Ty.u8 τ v0 p0) {rr : Int × Int × Int} (hF : zf p0 p1 = some rr) :
    Ctr Try.prog 34 #[v0, .int .i64 p1] τ [] (fun v τ' vs' => v = .tuple #[.int .i64 rr.1, .int .i64 rr.2.1, .int .i64 rr.2.2] ∧ vs' = []) := by
  obtain ⟨A0, c0, rfl, -⟩ := r0.form
  refine ctr_of (args := [.slice A0 p0.length c0, .int .i64 p1]) hm Try.func34 s34 rfl fun w0 σ hO Q hQ => ?_
  unfold zf at hF
  have hL := Hp.le.refl τ
  show wpn _ _ a34.body _ _ _
  unfold a34
  dsimp only
  refine wpn_qa hO [] [(0, .slice A0 p0.length c0), (1, .int .i64 p1), (4, .int .i64 0)] (ar (ar (ar trivial))) fun j => ?_
  refine wpn_q hO 2 [] [(4, .int .i64 0), (11, .slice A0 p0.length c0), (12, .int .i64 p1)] (ar (ar (ar trivial))) fun j => ?_
  obtain ⟨c3, h4, hF⟩ := bind_some hF
  refine wpn_c0 hO (zJ r0 h4) rfl fun _ σ _ _ hO h5 h6 => ?_
  have hL := hL.trans h5
  have r0 := r0.le h5
  obtain ⟨v7, rfl, rfl, r10⟩ := h6
  obtain ⟨A8, c9, rfl, -⟩ := r10.form
  have hO : Obs _ _ [] := hO
  refine wpn_qa hO [] [(4, .int .i64 0), (5, .int .i64 c3.2.1), (6, .int .i64 c3.2.2), (7, .slice A8 c3.1.length c9)] (ar (ar (ar (ar trivial)))) fun j => ?_
  refine wpn_assoc ?_
  refine wpn_qa hO [] [(4, .int .i64 0), (5, .int .i64 c3.2.1), (6, .int .i64 c3.2.2), (17, .slice A8 c3.1.length c9), (18, .int .i64 (c3.1.length : Int)), (19, .int .i64 0)] (ar (ar (ar (ar (ar (ar trivial)))))) fun j => ?_
  refine wpn_bl ?_
  refine wpn_lp (fun (n : Nat) e' σ' => ∃ (x18 : Int) (x20 : Int) (τ' : Hp), agr [(4, .int .i64 x18), (5, .int .i64 c3.2.1), (6, .int .i64 c3.2.2), (17, .slice A8 c3.1.length c9), (18, .int .i64 (c3.1.length : Int)), (19, .int .i64 x20)] e' ∧ Obs τ' σ' [] ∧ Hp.le τ τ' ∧ RdT Ty.u8 τ' (.slice A8 c3.1.length c9) c3.1 ∧ zo c3 n x18 x20 = some rr) big ⟨0, 0, _, ar (ar (ar (ar (ar (ar trivial))))), hO, hL, r10, hF⟩ ?_
  clear hF hO hL
  rintro n27 e σ ⟨x18, x20, _, hA, hO, hL, r19, hF⟩
  rw [← sets_agr _ _ hA]
  cases n27 with
  | zero => exact nomatch (show none = some rr from hF)
  | succ n27 =>
    replace hF : zG (zo c3 n27) c3 x18 x20 = some rr := hF
    unfold zG at hF
    refine wpn_qa hO [] [(4, .int .i64 x18), (5, .int .i64 c3.2.1), (6, .int .i64 c3.2.2), (17, .slice A8 c3.1.length c9), (18, .int .i64 (c3.1.length : Int)), (19, .int .i64 x20), (20, .bool (decide (x20 < (c3.1.length : Int))))] (ar (ar (ar (ar (ar (ar (ar trivial))))))) fun j => ?_
    rcases ite_some hF with ⟨hb28, hF⟩ | ⟨hb28, hF⟩
    · refine wpn_cT (congrArg Value.bool hb28) ?_
      refine wpn_sk ?_
      refine wpn_bl ?_
      obtain ⟨y29, g30, hF⟩ := bind_some hF
      refine wpn_idx (T := Ty.u8) r19 hO.base rfl rfl g30 (by decide) fun a31 _ k32 m33 => ?_
      obtain rfl : _ = ([.int .u8 y29.toNat] : List Value) := k32
      refine wpn_ld rfl (m33.le hO.base).fst ?_
      refine wpn_qa hO [] [(4, .int .i64 x18), (5, .int .i64 c3.2.1), (6, .int .i64 c3.2.2), (9, .int .u8 (y29.toNat : Int)), (17, .slice A8 c3.1.length c9), (18, .int .i64 (c3.1.length : Int)), (19, .int .i64 x20)] (ar (ar (ar (ar (ar (ar (ar trivial))))))) fun j => ?_
      refine wpn_rlast ?_
      refine wpn_qa hO [] [(4, .int .i64 (orI .i64 (shlI .i64 x18 8) (IntKind.i64.wrap (y29.toNat : Int)))), (5, .int .i64 c3.2.1), (6, .int .i64 c3.2.2), (17, .slice A8 c3.1.length c9), (18, .int .i64 (c3.1.length : Int)), (19, .int .i64 x20)] (ar (ar (ar (ar (ar (ar trivial)))))) fun j => ?_
      refine wpn_end ?_
      refine inb_i ?_
      refine thn_i ?_
      refine wpn_rlast ?_
      refine wpn_qa hO [] [(4, .int .i64 (orI .i64 (shlI .i64 x18 8) (IntKind.i64.wrap (y29.toNat : Int)))), (5, .int .i64 c3.2.1), (6, .int .i64 c3.2.2), (17, .slice A8 c3.1.length c9), (18, .int .i64 (c3.1.length : Int)), (19, .int .i64 (IntKind.i64.wrap (x20 + 1)))] (ar (ar (ar (ar (ar (ar trivial)))))) fun j => ?_
      refine wpn_end ?_
      refine thn_i ?_
      exact ⟨n27, Nat.lt_succ_self _, (orI .i64 (shlI .i64 x18 8) (IntKind.i64.wrap (y29.toNat : Int))), (IntKind.i64.wrap (x20 + 1)), _, ar (ar (ar (ar (ar (ar trivial))))), hO, hL, r19, hF⟩
    · refine wpn_cF (congrArg Value.bool hb28) ?_
      refine wpn_ex ?_
      refine thn_x ?_
      refine inb_x ?_
      refine thn_i ?_
      refine wpn_qa hO [] [(4, .int .i64 x18), (5, .int .i64 c3.2.1), (6, .int .i64 c3.2.2)] (ar (ar (ar trivial))) fun j => ?_
      refine wpn_r1 ?_
      injection hF with hF
      subst hF
      exact hQ _ _ _ _ _ rfl hO hL ⟨rfl, rfl⟩
theorem zV {τ : Hp} {v0 : Value} {p0 : (List UInt8)} {p1 : Int} (r0 : RdT Ty.u8 τ v0 p0) {rr : ByteArray × Int × Int} (hF : zc p0 p1 = some rr) :
    Ctr Try.prog 36 #[v0, .int .i64 p1] τ [] (fun v τ' vs' => v = .tuple #[.string rr.1, .int .i64 rr.2.1, .int .i64 rr.2.2] ∧ vs' = []) := by
  obtain ⟨A0, c0, rfl, -⟩ := r0.form
  refine ctr_of (args := [.slice A0 p0.length c0, .int .i64 p1]) hm Try.func36 s36 rfl fun w0 σ hO Q hQ => ?_
  unfold zc at hF
  have hL := Hp.le.refl τ
  show wpn _ _ a36.body _ _ _
  unfold a36
  dsimp only
  refine wpn_qa hO [] [(0, .slice A0 p0.length c0), (1, .int .i64 p1)] (ar (ar trivial)) fun j => ?_
  refine wpn_q hO 2 [] [(0, .slice A0 p0.length c0), (10, .slice A0 p0.length c0), (11, .int .i64 p1)] (ar (ar (ar trivial))) fun j => ?_
  obtain ⟨c3, h4, hF⟩ := bind_some hF
  refine wpn_c0 hO (zM r0 h4) rfl fun _ σ _ _ hO h5 h6 => ?_
  have hL := hL.trans h5
  have r0 := r0.le h5
  obtain ⟨rfl, rfl⟩ := h6
  have hO : Obs _ _ [] := hO
  refine wpn_qa hO [] [(0, .slice A0 p0.length c0), (5, .int .i64 c3.2.1), (6, .int .i64 c3.2.2), (7, .int .u8 c3.1)] (ar (ar (ar (ar trivial)))) fun j => ?_
  refine wpn_assoc ?_
  refine wpn_qa hO [] [(0, .slice A0 p0.length c0), (5, .int .i64 c3.2.1), (6, .int .i64 c3.2.2), (7, .int .u8 c3.1), (17, .bool (c3.2.2 != 0))] (ar (ar (ar (ar (ar trivial))))) fun j => ?_
  rcases ite_some hF with ⟨hb7, hF⟩ | ⟨hb7, hF⟩
  · refine wpn_cT (congrArg Value.bool hb7) ?_
    refine wpn_assoc ?_
    refine wpn_qa hO [] [(4, .string (⟨#[]⟩ : ByteArray)), (5, .int .i64 0), (6, .int .i64 c3.2.2)] (ar (ar (ar trivial))) fun j => ?_
    refine wpn_rt ?_
    injection hF with hF
    subst hF
    exact hQ _ _ _ _ _ rfl hO hL ⟨rfl, rfl⟩
  · refine wpn_cF (congrArg Value.bool hb7) ?_
    refine wpn_sk ?_
    refine wpn_q hO 4 [] [(20, .slice A0 p0.length c0), (21, .int .i64 c3.2.1), (23, .int .i64 (IntKind.i64.wrap c3.1))] (ar (ar (ar trivial))) fun j => ?_
    obtain ⟨c8, h9, hF⟩ := bind_some hF
    refine wpn_c0 hO (zJ r0 h9) rfl fun _ σ _ _ hO h10 h11 => ?_
    have hL := hL.trans h10
    have r0 := r0.le h10
    obtain ⟨v12, rfl, rfl, r15⟩ := h11
    obtain ⟨A13, c14, rfl, -⟩ := r15.form
    have hO : Obs _ _ [] := hO
    refine wpn_qa hO [] [(5, .int .i64 c8.2.1), (6, .int .i64 c8.2.2), (8, .slice A13 c8.1.length c14)] (ar (ar (ar trivial))) fun j => ?_
    refine wpn_q hO 1 [] [(5, .int .i64 c8.2.1), (6, .int .i64 c8.2.2), (28, .slice A13 c8.1.length c14)] (ar (ar (ar trivial))) fun j => ?_
    refine wpn_ts (l := c8.1) (r15.le hO.base) rfl ?_
    refine wpn_qa hO [] [(4, .string (⟨c8.1.toArray⟩ : ByteArray)), (5, .int .i64 c8.2.1), (6, .int .i64 c8.2.2)] (ar (ar (ar trivial))) fun j => ?_
    refine wpn_r1 ?_
    injection hF with hF
    subst hF
    exact hQ _ _ _ _ _ rfl hO hL ⟨rfl, rfl⟩
theorem z8 {τ : Hp} {p1 : Int} (r0 : RdT Ty.u8 τ (.slice none 0 0) []) {rr : (List UInt8)} (hF : zx [] p1 = some rr) :
    Ctr Try.prog 62 #[.slice none 0 0, .int .i64 p1] τ [] (fun v τ' vs' => ∃ (v0 : Value) (o0 : Ob), v = v0 ∧ vs' = [o0] ∧ OwnO Ty.u8 5 τ' v0 rr o0) := by
  refine ctr_of (args := [.slice none 0 0, .int .i64 p1]) hm Try.func62 s62 rfl fun w0 σ hO Q hQ => ?_
  unfold zx at hF
  have hL := Hp.le.refl τ
  show wpn _ _ a62.body _ _ _
  unfold a62
  dsimp only
  refine wpn_qa hO [] [(0, .slice none 0 0), (1, .int .i64 p1)] (ar (ar trivial)) fun j => ?_
  refine wpn_assoc ?_
  refine wpn_qa hO [] [(0, .slice none 0 0), (1, .int .i64 p1), (6, .bool (decide (p1 < 0)))] (ar (ar (ar trivial))) fun j => ?_
  refine wpn_cut (fun e' σ' => ∃ (τ' : Hp), agr [(0, .slice none 0 0), (1, .int .i64 p1)] e' ∧ Obs τ' σ' [] ∧ Hp.le τ τ' ∧ zF p1 = some rr) ?_ ?_
  · refine wpn_clast ?_
    rcases ite_some hF with ⟨hb14, hF⟩ | ⟨hb14, hF⟩
    · refine wpn_cT (congrArg Value.bool hb14) ?_
      refine wpn_q hO 1 [] [(0, .slice none 0 0), (1, .int .i64 p1), (7, .iface 9 (.string (⟨#[99, 97, 110, 110, 111, 116, 32, 98, 101, 32, 110, 101, 103, 97, 116, 105, 118, 101]⟩ : ByteArray)))] (ar (ar (ar trivial))) fun j => ?_
      exact nomatch (show none = some _ from hF)
    · refine wpn_cF (congrArg Value.bool hb14) ?_
      refine wpn_sk ?_
      refine wpn_end ?_
      refine thn_i ?_
      exact ⟨_, ar (ar trivial), hO, hL, hF⟩
  · rintro e σ ⟨_, hA, hO, hL, hF⟩
    rw [← sets_agr _ _ hA]
    unfold zF at hF
    refine wpn_assoc ?_
    refine wpn_qa hO [] [(0, .slice none 0 0), (1, .int .i64 (IntKind.i64.wrap (p1 - (IntKind.i64.wrap (0 - 0)))))] (ar (ar trivial)) fun j => ?_
    refine wpn_assoc ?_
    refine wpn_qa hO [] [(0, .slice none 0 0), (1, .int .i64 (IntKind.i64.wrap (p1 - (IntKind.i64.wrap (0 - 0))))), (16, .bool (decide ((IntKind.i64.wrap (p1 - (IntKind.i64.wrap (0 - 0)))) > 0)))] (ar (ar (ar trivial))) fun j => ?_
    rcases ite_some hF with ⟨hb4, hF⟩ | ⟨hb4, hF⟩
    · refine wpn_cT (congrArg Value.bool hb4) ?_
      refine wpn_q hO 3 [] [(0, .slice none 0 0), (1, .int .i64 (IntKind.i64.wrap (p1 - (IntKind.i64.wrap (0 - 0))))), (17, .slice none 0 0), (19, .int .i64 0)] (ar (ar (ar (ar trivial)))) fun j => ?_
      refine wpn_n0 rfl rfl rfl ?_
      refine wpn_q hO 1 [] [(0, .slice none 0 0), (20, .slice none 0 0), (21, .int .i64 (IntKind.i64.wrap (p1 - (IntKind.i64.wrap (0 - 0)))))] (ar (ar (ar trivial))) fun j => ?_
      have hO := hO.no
      have hO : Obs _ _ [_] := hO
      have w5 := OwnO.nil0 (T := Ty.u8) (ty := 5) hO
      obtain ⟨_, g10, hF⟩ := bind_some hF
      obtain ⟨_, hr, hF⟩ := bind_some hF
      refine wpn_apz (T := Ty.u8) (z := (0 : UInt8)) hO w5 (i := 0) rfl rfl rfl (nneg_le g10) (show _ = _ from rfl) hr (by decide) fun _ σ o8 w9 hO => ?_
      obtain ⟨A6, c7, rfl, -⟩ := w9.form
      have hO : Obs _ _ [_] := hO
      refine wpn_q hO 2 [] [(22, .slice A6 (([] : List UInt8) ++ List.replicate (Int.toNat (IntKind.i64.wrap (p1 - (IntKind.i64.wrap (0 - 0))))) (0 : UInt8)).length c7), (24, .int .i64 0)] (ar (ar trivial)) fun j => ?_
      obtain ⟨y11, g12, hF⟩ := bind_some hF
      refine wpn_tr (T := Ty.u8) w9 rfl rfl g12 fun w13 => ?_
      refine wpn_qa hO [] [(0, .slice A6 y11.length c7)] (ar trivial) fun j => ?_
      refine wpn_qa hO [] [(4, .slice A6 y11.length c7)] (ar trivial) fun j => ?_
      refine wpn_r1 ?_
      injection hF with hF
      subst hF
      exact hQ _ _ _ _ _ rfl hO hL ⟨_, _, rfl, rfl, w13⟩
    · refine wpn_cF (congrArg Value.bool hb4) ?_
      refine wpn_sk ?_
      refine wpn_qa hO [] [(4, .slice none 0 0)] (ar trivial) fun j => ?_
      refine wpn_r1 ?_
      have hO := hO.no
      have hO : Obs _ _ [_] := hO
      injection hF with hF
      subst hF
      exact hQ _ _ _ _ _ rfl hO hL ⟨_, _, rfl, rfl, (OwnO.nil _ _ _)⟩
theorem zY {τ : Hp} {v0 : Value} {p0 : (List (List UInt8))} (r0 : RdT (Ty.slice Ty.u8) τ v0 p0) {rr : (List UInt8)} (hF : zv p0 = some rr) :
    Ctr Try.prog 59 #[v0] τ [] (fun v τ' vs' => ∃ (v0 : Value) (o0 : Ob), v = v0 ∧ vs' = [o0] ∧ OwnO Ty.u8 5 τ' v0 rr o0) := by
  obtain ⟨A0, c0, rfl, -⟩ := r0.form
  refine ctr_of (args := [.slice A0 p0.length c0]) hm Try.func59 s59 rfl fun w0 σ hO Q hQ => ?_
  unfold zv at hF
  have hL := Hp.le.refl τ
  show wpn _ _ a59.body _ _ _
  unfold a59
  dsimp only
  refine wpn_qa hO [] [(0, .slice A0 p0.length c0)] (ar trivial) fun j => ?_
  refine wpn_qa hO [] [(0, .slice A0 p0.length c0), (3, .int .i64 0)] (ar (ar trivial)) fun j => ?_
  refine wpn_assoc ?_
  refine wpn_qa hO [] [(0, .slice A0 p0.length c0), (3, .int .i64 0), (9, .slice A0 p0.length c0), (10, .int .i64 (p0.length : Int)), (11, .int .i64 0)] (ar (ar (ar (ar (ar trivial))))) fun j => ?_
  refine wpn_bl ?_
  refine wpn_lp (fun (n : Nat) e' σ' => ∃ (x81 : Int) (x83 : Int) (τ' : Hp), agr [(0, .slice A0 p0.length c0), (3, .int .i64 x81), (9, .slice A0 p0.length c0), (10, .int .i64 (p0.length : Int)), (11, .int .i64 x83)] e' ∧ Obs τ' σ' [] ∧ Hp.le τ τ' ∧ RdT (Ty.slice Ty.u8) τ' (.slice A0 p0.length c0) p0 ∧ RdT (Ty.slice Ty.u8) τ' (.slice A0 p0.length c0) p0 ∧ zy p0 n x81 x83 = some rr) big ⟨0, 0, _, ar (ar (ar (ar (ar trivial)))), hO, hL, r0, r0, hF⟩ ?_
  clear hF hO hL
  rintro n160 e σ ⟨x81, x83, _, hA, hO, hL, r80, r82, hF⟩
  rw [← sets_agr _ _ hA]
  cases n160 with
  | zero => exact nomatch (show none = some rr from hF)
  | succ n160 =>
    replace hF : zq (zy p0 n160) p0 x81 x83 = some rr := hF
    unfold zq at hF
    refine wpn_qa hO [] [(0, .slice A0 p0.length c0), (3, .int .i64 x81), (9, .slice A0 p0.length c0), (10, .int .i64 (p0.length : Int)), (11, .int .i64 x83), (12, .bool (decide (x83 < (p0.length : Int))))] (ar (ar (ar (ar (ar (ar trivial)))))) fun j => ?_
    rcases ite_some hF with ⟨hb161, hF⟩ | ⟨hb161, hF⟩
    · refine wpn_cT (congrArg Value.bool hb161) ?_
      refine wpn_sk ?_
      refine wpn_bl ?_
      obtain ⟨y162, g163, hF⟩ := bind_some hF
      refine wpn_idx (T := (Ty.slice Ty.u8)) r82 hO.base rfl rfl g163 (by decide) fun a164 _ k165 m166 => ?_
      obtain ⟨v167, rfl, r168⟩ := k165
      obtain ⟨A169, c170, rfl, -⟩ := r168.form
      refine wpn_ld rfl (m166.le hO.base).fst ?_
      refine wpn_qa hO [] [(0, .slice A0 p0.length c0), (3, .int .i64 x81), (5, .slice A169 y162.length c170), (9, .slice A0 p0.length c0), (10, .int .i64 (p0.length : Int)), (11, .int .i64 x83)] (ar (ar (ar (ar (ar (ar trivial)))))) fun j => ?_
      refine wpn_qa hO [] [(0, .slice A0 p0.length c0), (3, .int .i64 (IntKind.i64.wrap (x81 + (y162.length : Int)))), (9, .slice A0 p0.length c0), (10, .int .i64 (p0.length : Int)), (11, .int .i64 x83)] (ar (ar (ar (ar (ar trivial))))) fun j => ?_
      refine wpn_qa hO [] [(0, .slice A0 p0.length c0), (3, .int .i64 (IntKind.i64.wrap (x81 + (y162.length : Int)))), (9, .slice A0 p0.length c0), (10, .int .i64 (p0.length : Int)), (11, .int .i64 x83), (20, .bool (decide ((IntKind.i64.wrap (x81 + (y162.length : Int))) < 0)))] (ar (ar (ar (ar (ar (ar trivial)))))) fun j => ?_
      refine wpn_clast ?_
      rcases ite_some hF with ⟨hb171, hF⟩ | ⟨hb171, hF⟩
      · refine wpn_cT (congrArg Value.bool hb171) ?_
        refine wpn_q hO 1 [] [(0, .slice A0 p0.length c0), (3, .int .i64 (IntKind.i64.wrap (x81 + (y162.length : Int)))), (9, .slice A0 p0.length c0), (10, .int .i64 (p0.length : Int)), (11, .int .i64 x83), (21, .iface 9 (.string (⟨#[108, 101, 110, 32, 111, 117, 116, 32, 111, 102, 32, 114, 97, 110, 103, 101]⟩ : ByteArray)))] (ar (ar (ar (ar (ar (ar trivial)))))) fun j => ?_
        exact nomatch (show none = some _ from hF)
      · refine wpn_cF (congrArg Value.bool hb171) ?_
        refine wpn_sk ?_
        refine wpn_end ?_
        refine inb_i ?_
        refine thn_i ?_
        refine wpn_rlast ?_
        refine wpn_qa hO [] [(0, .slice A0 p0.length c0), (3, .int .i64 (IntKind.i64.wrap (x81 + (y162.length : Int)))), (9, .slice A0 p0.length c0), (10, .int .i64 (p0.length : Int)), (11, .int .i64 (IntKind.i64.wrap (x83 + 1)))] (ar (ar (ar (ar (ar trivial))))) fun j => ?_
        refine wpn_end ?_
        refine thn_i ?_
        exact ⟨n160, Nat.lt_succ_self _, (IntKind.i64.wrap (x81 + (y162.length : Int))), (IntKind.i64.wrap (x83 + 1)), _, ar (ar (ar (ar (ar trivial)))), hO, hL, r80, r82, hF⟩
    · refine wpn_cF (congrArg Value.bool hb161) ?_
      refine wpn_ex ?_
      refine thn_x ?_
      refine inb_x ?_
      refine thn_i ?_
      refine wpn_q hO 1 [] [(0, .slice A0 p0.length c0), (23, .int .i64 x81)] (ar (ar trivial)) fun j => ?_
      obtain ⟨c172, h173, hF⟩ := bind_some hF
      refine wpn_c0 hO (z8 (RdT.nil Ty.u8 _) h173) rfl fun _ σ _ _ hO h174 h175 => ?_
      have hL := hL.trans h174
      have r80 := r80.le h174
      obtain ⟨v176, o179, rfl, rfl, w180⟩ := h175
      obtain ⟨A177, c178, rfl, -⟩ := w180.form
      have hO : Obs _ _ [_] := hO
      refine wpn_qa hO [] [(0, .slice A0 p0.length c0), (6, .slice A177 c172.length c178)] (ar (ar trivial)) fun j => ?_
      refine wpn_assoc ?_
      refine wpn_qa hO [] [(6, .slice A177 c172.length c178), (25, .slice A0 p0.length c0), (26, .int .i64 (p0.length : Int)), (27, .int .i64 0)] (ar (ar (ar (ar trivial)))) fun j => ?_
      refine wpn_bl ?_
      refine wpn_lp (fun (n : Nat) e' σ' => ∃ (A201 : Option Addr) (c202 : Nat) (o203 : Ob) (x204 : List UInt8) (x207 : Int) (τ' : Hp), agr [(6, .slice A201 x204.length c202), (25, .slice A0 p0.length c0), (26, .int .i64 (p0.length : Int)), (27, .int .i64 x207)] e' ∧ Obs τ' σ' [o203] ∧ Hp.le τ τ' ∧ OwnO Ty.u8 5 τ' (.slice A201 x204.length c202) x204 o203 ∧ RdT (Ty.slice Ty.u8) τ' (.slice A0 p0.length c0) p0 ∧ zC p0 n x204 x207 = some rr) big ⟨A177, c178, o179, c172, 0, _, ar (ar (ar (ar trivial))), hO, hL, w180, r80, hF⟩ ?_
      clear hF hO hL
      rintro n222 e σ ⟨A201, c202, o203, x204, x207, _, hA, hO, hL, w205, r206, hF⟩
      rw [← sets_agr _ _ hA]
      cases n222 with
      | zero => exact nomatch (show none = some rr from hF)
      | succ n222 =>
        replace hF : zr (zC p0 n222) p0 x204 x207 = some rr := hF
        unfold zr at hF
        refine wpn_qa hO [] [(6, .slice A201 x204.length c202), (25, .slice A0 p0.length c0), (26, .int .i64 (p0.length : Int)), (27, .int .i64 x207), (28, .bool (decide (x207 < (p0.length : Int))))] (ar (ar (ar (ar (ar trivial))))) fun j => ?_
        rcases ite_some hF with ⟨hb223, hF⟩ | ⟨hb223, hF⟩
        · refine wpn_cT (congrArg Value.bool hb223) ?_
          refine wpn_sk ?_
          refine wpn_bl ?_
          obtain ⟨y224, g225, hF⟩ := bind_some hF
          refine wpn_idx (T := (Ty.slice Ty.u8)) r206 hO.base rfl rfl g225 (by decide) fun a226 _ k227 m228 => ?_
          obtain ⟨v229, rfl, r230⟩ := k227
          obtain ⟨A231, c232, rfl, -⟩ := r230.form
          refine wpn_ld rfl (m228.le hO.base).fst ?_
          refine wpn_qa hO [] [(6, .slice A201 x204.length c202), (8, .slice A231 y224.length c232), (25, .slice A0 p0.length c0), (26, .int .i64 (p0.length : Int)), (27, .int .i64 x207)] (ar (ar (ar (ar (ar trivial))))) fun j => ?_
          refine wpn_rlast ?_
          refine wpn_q hO 2 [] [(25, .slice A0 p0.length c0), (26, .int .i64 (p0.length : Int)), (27, .int .i64 x207), (31, .slice A201 x204.length c202), (32, .slice A231 y224.length c232)] (ar (ar (ar (ar (ar trivial))))) fun j => ?_
          obtain ⟨_, hr, hF⟩ := bind_some hF
          refine wpn_apl (T := Ty.u8) hO w205 (i := 0) rfl rfl rfl r230 hr (by decide) fun _ σ o235 w236 hO => ?_
          obtain ⟨A233, c234, rfl, -⟩ := w236.form
          have hO : Obs _ _ [_] := hO
          refine wpn_qa hO [] [(6, .slice A233 (x204 ++ y224).length c234), (25, .slice A0 p0.length c0), (26, .int .i64 (p0.length : Int)), (27, .int .i64 x207)] (ar (ar (ar (ar trivial)))) fun j => ?_
          refine wpn_end ?_
          refine inb_i ?_
          refine thn_i ?_
          refine wpn_rlast ?_
          refine wpn_qa hO [] [(6, .slice A233 (x204 ++ y224).length c234), (25, .slice A0 p0.length c0), (26, .int .i64 (p0.length : Int)), (27, .int .i64 (IntKind.i64.wrap (x207 + 1)))] (ar (ar (ar (ar trivial)))) fun j => ?_
          refine wpn_end ?_
          refine thn_i ?_
          exact ⟨n222, Nat.lt_succ_self _, A233, c234, o235, (x204 ++ y224), (IntKind.i64.wrap (x207 + 1)), _, ar (ar (ar (ar trivial))), hO, hL, w236, r206, hF⟩
        · refine wpn_cF (congrArg Value.bool hb223) ?_
          refine wpn_ex ?_
          refine thn_x ?_
          refine inb_x ?_
          refine thn_i ?_
          refine wpn_qa hO [] [(2, .slice A201 x204.length c202)] (ar trivial) fun j => ?_
          refine wpn_r1 ?_
          injection hF with hF
          subst hF
          exact hQ _ _ _ _ _ rfl hO hL ⟨_, _, rfl, rfl, w205⟩
theorem zN {τ : Hp} {v0 : Value} {p0 : (List UInt8)} {p1 : Int} (r0 : RdT Ty.u8 τ v0 p0) {rr : (List UInt8) × Int} (hF : zk p0 p1 = some rr) :
    Ctr Try.prog 39 #[v0, .int .i64 p1] τ [] (fun v τ' vs' => ∃ (v0 : Value) (o0 : Ob), v = .tuple #[v0, .int .i64 rr.2] ∧ vs' = [o0] ∧ OwnO Ty.u8 5 τ' v0 rr.1 o0) := by
  obtain ⟨A0, c0, rfl, -⟩ := r0.form
  refine ctr_of (args := [.slice A0 p0.length c0, .int .i64 p1]) hm Try.func39 s39 rfl fun w0 σ hO Q hQ => ?_
  unfold zk at hF
  have hL := Hp.le.refl τ
  show wpn _ _ a39.body _ _ _
  unfold a39
  dsimp only
  refine wpn_qa hO [] [(0, .slice A0 p0.length c0), (1, .int .i64 p1)] (ar (ar trivial)) fun j => ?_
  refine wpn_assoc ?_
  refine wpn_qa hO [] [(0, .slice A0 p0.length c0), (1, .int .i64 p1), (13, .bool ((decide (p1 < 0)) || (decide (p1 ≥ 16777216))))] (And.intro (And.intro rfl rfl) (fun _ => ar (ar (ar trivial)))) fun j => ?_
  rcases ite_some hF with ⟨hb3, hF⟩ | ⟨hb3, hF⟩
  · refine wpn_cT (congrArg Value.bool hb3) ?_
    refine wpn_assoc ?_
    refine wpn_qa hO [] [(4, .slice none 0 0), (5, .int .i64 1)] (ar (ar trivial)) fun j => ?_
    refine wpn_rt ?_
    have hO := hO.no
    have hO : Obs _ _ [_] := hO
    injection hF with hF
    subst hF
    exact hQ _ _ _ _ _ rfl hO hL ⟨_, _, rfl, rfl, (OwnO.nil _ _ _)⟩
  · refine wpn_cF (congrArg Value.bool hb3) ?_
    refine wpn_sk ?_
    refine wpn_ar (T := Ty.u8) (l := ([(0 : UInt8), (0 : UInt8), (0 : UInt8)] : List UInt8)) hO ⟨[.int .u8 0], _, rfl, rfl, ⟨[.int .u8 0], _, rfl, rfl, ⟨[.int .u8 0], _, rfl, rfl, rfl⟩⟩⟩ rfl (by decide) fun b4 σ o5 w6 hO => ?_
    have hO : Obs _ _ [_] := hO
    refine wpn_nil ?_
    refine wpn_assoc ?_
    refine wpn_qa hO [] [(0, .slice A0 p0.length c0), (1, .int .i64 p1), (6, .pointer (some ⟨b4, 0, none⟩)), (14, .int .i64 0)] (ar (ar (ar (ar trivial)))) fun j => ?_
    refine wpn_bl ?_
    refine wpn_lp (fun (n : Nat) e' σ' => ∃ (o43 : Ob) (x44 : List UInt8) (x46 : Int) (τ' : Hp), agr [(0, .slice A0 p0.length c0), (1, .int .i64 p1), (6, .pointer (some ⟨b4, 0, none⟩)), (14, .int .i64 x46)] e' ∧ Obs τ' σ' [o43] ∧ Hp.le τ τ' ∧ RdT Ty.u8 τ' (.slice A0 p0.length c0) p0 ∧ OwnO Ty.u8 79 τ' (.slice (some ⟨b4, 0, none⟩) 3 3) x44 o43 ∧ zm p0 p1 n x44 x46 = some rr) big ⟨o5, ([(0 : UInt8), (0 : UInt8), (0 : UInt8)] : List UInt8), 0, _, ar (ar (ar (ar trivial))), hO, hL, r0, w6, hF⟩ ?_
    clear hF hO hL
    rintro n78 e σ ⟨o43, x44, x46, _, hA, hO, hL, r42, w45, hF⟩
    rw [← sets_agr _ _ hA]
    cases n78 with
    | zero => exact nomatch (show none = some rr from hF)
    | succ n78 =>
      replace hF : zE (zm p0 p1 n78) p0 p1 x44 x46 = some rr := hF
      unfold zE at hF
      refine wpn_qa hO [] [(0, .slice A0 p0.length c0), (1, .int .i64 p1), (6, .pointer (some ⟨b4, 0, none⟩)), (14, .int .i64 x46), (15, .bool (decide (x46 < 3)))] (ar (ar (ar (ar (ar trivial))))) fun j => ?_
      rcases ite_some hF with ⟨hb79, hF⟩ | ⟨hb79, hF⟩
      · refine wpn_cT (congrArg Value.bool hb79) ?_
        refine wpn_sk ?_
        refine wpn_bl ?_
        refine wpn_qa hO [] [(0, .slice A0 p0.length c0), (1, .int .i64 p1), (6, .pointer (some ⟨b4, 0, none⟩)), (7, .int .i64 x46), (14, .int .i64 x46)] (ar (ar (ar (ar (ar trivial))))) fun j => ?_
        refine wpn_rlast ?_
        refine wpn_q hO 5 [] [(0, .slice A0 p0.length c0), (1, .int .i64 p1), (6, .pointer (some ⟨b4, 0, none⟩)), (14, .int .i64 x46), (18, .int .i64 (IntKind.i64.wrap (2 - x46))), (19, .int .i64 p1), (21, .int .i64 (IntKind.i64.wrap (8 * x46)))] (ar (ar (ar (ar (ar (ar (ar trivial))))))) fun j => ?_
        obtain ⟨y80, g81, hF⟩ := bind_some hF
        refine wpn_bn (shrO_bin g81) ?_
        refine wpn_q hO 1 [] [(0, .slice A0 p0.length c0), (1, .int .i64 p1), (6, .pointer (some ⟨b4, 0, none⟩)), (14, .int .i64 x46), (18, .int .i64 (IntKind.i64.wrap (2 - x46))), (23, .int .u8 (IntKind.u8.wrap y80))] (ar (ar (ar (ar (ar (ar trivial)))))) fun j => ?_
        obtain ⟨y82, g83, hF⟩ := bind_some hF
        refine wpn_aa (T := Ty.u8) hO w45 (i := 0) rfl rfl rfl g83 rfl fun a84 _ k85 m86 i87 => ?_
        have k88 := k85
        obtain rfl : _ = ([.int .u8 y82.toNat] : List Value) := k88
        obtain ⟨z89, hz89, hF⟩ := bind_some hF
        refine wpn_sto (T := Ty.u8) (off := 0) (vs := [.int .u8 (IntKind.u8.wrap y80)]) hO w45 (i := 0) rfl (by rw [add_zero]; rfl) i87 g83 k85 m86 rfl rfl rfl rfl (by decide) (u8R hz89) fun σ o90 w91 hO => ?_
        have hO : Obs _ _ [_] := hO
        refine wpn_nil ?_
        refine wpn_end ?_
        refine inb_i ?_
        refine thn_i ?_
        refine wpn_rlast ?_
        refine wpn_qa hO [] [(0, .slice A0 p0.length c0), (1, .int .i64 p1), (6, .pointer (some ⟨b4, 0, none⟩)), (14, .int .i64 (IntKind.i64.wrap (x46 + 1)))] (ar (ar (ar (ar trivial)))) fun j => ?_
        refine wpn_end ?_
        refine thn_i ?_
        exact ⟨n78, Nat.lt_succ_self _, o90, (x44.set (Int.toNat (IntKind.i64.wrap (2 - x46))) z89), (IntKind.i64.wrap (x46 + 1)), _, ar (ar (ar (ar trivial))), hO, hL, r42, w91, hF⟩
      · refine wpn_cF (congrArg Value.bool hb79) ?_
        refine wpn_ex ?_
        refine thn_x ?_
        refine inb_x ?_
        refine thn_i ?_
        refine wpn_q hO 1 [] [(6, .pointer (some ⟨b4, 0, none⟩)), (26, .slice A0 p0.length c0)] (ar (ar trivial)) fun j => ?_
        refine wpn_sa (T := Ty.u8) rfl ?_
        have l94 : 3 = x44.length := w45.len
        obtain ⟨_, h93, r92, hO⟩ := w45.share hO (i := 0) rfl
        have hL := hL.trans h93
        have r42 := r42.le h93
        have hO : Obs _ _ [_] := hO
        refine wpn_lit (T := (Ty.slice Ty.u8)) (l := ([p0, x44] : List (List UInt8))) (cs := [.slice A0 p0.length c0, .slice (some ⟨b4, 0, none⟩) 3 3]) hO rfl ⟨[.slice A0 p0.length c0], _, rfl, ⟨_, rfl, r42⟩, ⟨[.slice (some ⟨b4, 0, none⟩) 3 3], _, rfl, ⟨_, rfl, r92⟩, rfl⟩⟩ rfl (by decide) fun _ σ o97 w98 hO => ?_
        obtain ⟨A95, c96, rfl, -⟩ := w98.form
        have hO : Obs _ _ [_, _] := hO
        obtain ⟨_, h100, r99, hO⟩ := w98.share hO (i := 1) rfl
        have hL := hL.trans h100
        have r42 := r42.le h100
        have r92 := r92.le h100
        have hO : Obs _ _ [_, _] := hO
        obtain ⟨c101, h102, hF⟩ := bind_some hF
        refine wpn_c0 hO (zY r99 h102) rfl fun _ σ _ _ hO h103 h104 => ?_
        have hL := hL.trans h103
        have r42 := r42.le h103
        have r92 := r92.le h103
        have r99 := r99.le h103
        obtain ⟨v105, o108, rfl, rfl, w109⟩ := h104
        obtain ⟨A106, c107, rfl, -⟩ := w109.form
        have hO : Obs _ _ [_, _, _] := hO
        refine wpn_qa hO [] [(4, .slice A106 c101.length c107), (5, .int .i64 0)] (ar (ar trivial)) fun j => ?_
        refine wpn_r1 ?_
        injection hF with hF
        subst hF
        have hO := hO.sel [2] (by decide)
        exact hQ _ _ _ _ _ rfl hO hL ⟨_, _, rfl, rfl, w109⟩
theorem zW {τ : Hp} {v0 : Value} {p0 : (List UInt8)} {p1 : ByteArray} (r0 : RdT Ty.u8 τ v0 p0) {rr : (List UInt8) × Int} (hF : zj p0 p1 = some rr) :
    Ctr Try.prog 41 #[v0, .string p1] τ [] (fun v τ' vs' => ∃ (v0 : Value) (o0 : Ob), v = .tuple #[v0, .int .i64 rr.2] ∧ vs' = [o0] ∧ OwnO Ty.u8 5 τ' v0 rr.1 o0) := by
  obtain ⟨A0, c0, rfl, -⟩ := r0.form
  refine ctr_of (args := [.slice A0 p0.length c0, .string p1]) hm Try.func41 s41 rfl fun w0 σ hO Q hQ => ?_
  unfold zj at hF
  have hL := Hp.le.refl τ
  show wpn _ _ a41.body _ _ _
  unfold a41
  dsimp only
  refine wpn_qa hO [] [(0, .slice A0 p0.length c0), (1, .string p1)] (ar (ar trivial)) fun j => ?_
  refine wpn_assoc ?_
  refine wpn_qa hO [] [(0, .slice A0 p0.length c0), (1, .string p1), (8, .bool (decide ((p1.size : Int) > 255)))] (ar (ar (ar trivial))) fun j => ?_
  rcases ite_some hF with ⟨hb3, hF⟩ | ⟨hb3, hF⟩
  · refine wpn_cT (congrArg Value.bool hb3) ?_
    refine wpn_assoc ?_
    refine wpn_qa hO [] [(4, .slice none 0 0), (5, .int .i64 1)] (ar (ar trivial)) fun j => ?_
    refine wpn_rt ?_
    have hO := hO.no
    have hO : Obs _ _ [_] := hO
    injection hF with hF
    subst hF
    exact hQ _ _ _ _ _ rfl hO hL ⟨_, _, rfl, rfl, (OwnO.nil _ _ _)⟩
  · refine wpn_cF (congrArg Value.bool hb3) ?_
    refine wpn_sk ?_
    refine wpn_q hO 4 [] [(1, .string p1), (9, .slice A0 p0.length c0), (12, .int .u8 (IntKind.u8.wrap (p1.size : Int)))] (ar (ar (ar trivial))) fun j => ?_
    obtain ⟨z4, hz4, hF⟩ := bind_some hF
    refine wpn_lit (T := Ty.u8) (l := ([z4] : List UInt8)) (cs := [.int .u8 (IntKind.u8.wrap (p1.size : Int))]) hO rfl ⟨[.int .u8 (IntKind.u8.wrap (p1.size : Int))], _, rfl, (u8R hz4), rfl⟩ rfl (by decide) fun _ σ o7 w8 hO => ?_
    obtain ⟨A5, c6, rfl, -⟩ := w8.form
    have hO : Obs _ _ [_] := hO
    refine wpn_q hO 1 [] [(9, .slice A0 p0.length c0), (13, .slice A5 ([z4] : List UInt8).length c6), (14, .string p1)] (ar (ar (ar trivial))) fun j => ?_
    refine wpn_tb hO rfl fun _ σ _ hO h12 r9 => ?_
    have hL := hL.trans h12
    have r0 := r0.le h12
    have w8 := w8.le h12
    obtain ⟨A10, c11, rfl, -⟩ := r9.form
    obtain ⟨_, h14, r13, hO⟩ := w8.share hO (i := 0) rfl
    have hL := hL.trans h14
    have r0 := r0.le h14
    have r9 := r9.le h14
    have hO : Obs _ _ [_] := hO
    refine wpn_lit (T := (Ty.slice Ty.u8)) (l := ([p0, ([z4] : List UInt8), (p1.data.toList)] : List (List UInt8))) (cs := [.slice A0 p0.length c0, .slice A5 ([z4] : List UInt8).length c6, .slice A10 (p1.data.toList).length c11]) hO rfl ⟨[.slice A0 p0.length c0], _, rfl, ⟨_, rfl, r0⟩, ⟨[.slice A5 ([z4] : List UInt8).length c6], _, rfl, ⟨_, rfl, r13⟩, ⟨[.slice A10 (p1.data.toList).length c11], _, rfl, ⟨_, rfl, r9⟩, rfl⟩⟩⟩ rfl (by decide) fun _ σ o17 w18 hO => ?_
    obtain ⟨A15, c16, rfl, -⟩ := w18.form
    have hO : Obs _ _ [_, _] := hO
    obtain ⟨_, h20, r19, hO⟩ := w18.share hO (i := 1) rfl
    have hL := hL.trans h20
    have r0 := r0.le h20
    have r13 := r13.le h20
    have r9 := r9.le h20
    have hO : Obs _ _ [_, _] := hO
    obtain ⟨c21, h22, hF⟩ := bind_some hF
    refine wpn_c0 hO (zY r19 h22) rfl fun _ σ _ _ hO h23 h24 => ?_
    have hL := hL.trans h23
    have r0 := r0.le h23
    have r13 := r13.le h23
    have r9 := r9.le h23
    have r19 := r19.le h23
    obtain ⟨v25, o28, rfl, rfl, w29⟩ := h24
    obtain ⟨A26, c27, rfl, -⟩ := w29.form
    have hO : Obs _ _ [_, _, _] := hO
    refine wpn_qa hO [] [(4, .slice A26 c21.length c27), (5, .int .i64 0)] (ar (ar trivial)) fun j => ?_
    refine wpn_r1 ?_
    injection hF with hF
    subst hF
    have hO := hO.sel [2] (by decide)
    exact hQ _ _ _ _ _ rfl hO hL ⟨_, _, rfl, rfl, w29⟩
theorem zH {τ : Hp}   {rr : Bool} (hF : zh  = some rr) :
    Ctr Try.prog 30 #[] τ [] (fun v τ' vs' => v = .bool rr ∧ vs' = []) := by
  refine ctr_of (args := []) hm Try.func30 s30 rfl fun w0 σ hO Q hQ => ?_
  unfold zh at hF
  have hL := Hp.le.refl τ
  show wpn _ _ a30.body _ _ _
  unfold a30
  dsimp only
  refine wpn_qa hO [] [] (trivial) fun j => ?_
  obtain ⟨c1, h2, hF⟩ := bind_some hF
  refine wpn_c0 hO (zS h2) rfl fun _ σ _ _ hO h3 h4 => ?_
  have hL := hL.trans h3
  obtain ⟨rfl, rfl⟩ := h4
  have hO : Obs _ _ [] := hO
  refine wpn_qa hO [] [(1, .int .u8 c1.1), (2, .bool c1.2)] (ar (ar trivial)) fun j => ?_
  refine wpn_q hO 1 [] [(2, .bool c1.2), (23, .int .u8 c1.1)] (ar (ar trivial)) fun j => ?_
  obtain ⟨z5, hz5, hF⟩ := bind_some hF
  refine wpn_lit (T := Ty.u8) (l := ([z5] : List UInt8)) (cs := [.int .u8 c1.1]) hO rfl ⟨[.int .u8 c1.1], _, rfl, (u8R hz5), rfl⟩ rfl (by decide) fun _ σ o8 w9 hO => ?_
  obtain ⟨A6, c7, rfl, -⟩ := w9.form
  have hO : Obs _ _ [_] := hO
  obtain ⟨_, h11, r10, hO⟩ := w9.share hO (i := 0) rfl
  have hL := hL.trans h11
  have hO : Obs _ _ [_] := hO
  obtain ⟨c12, h13, hF⟩ := bind_some hF
  refine wpn_c0 hO (zN r10 h13) rfl fun _ σ _ _ hO h14 h15 => ?_
  have hL := hL.trans h14
  have r10 := r10.le h14
  obtain ⟨v16, o19, rfl, rfl, w20⟩ := h15
  obtain ⟨A17, c18, rfl, -⟩ := w20.form
  have hO : Obs _ _ [_, _] := hO
  refine wpn_qa hO [] [(2, .bool c1.2), (3, .slice A17 c12.1.length c18), (4, .int .i64 c12.2)] (ar (ar (ar trivial))) fun j => ?_
  refine wpn_q hO 1 [] [(2, .bool c1.2), (4, .int .i64 c12.2), (29, .slice A17 c12.1.length c18)] (ar (ar (ar trivial))) fun j => ?_
  obtain ⟨_, h22, r21, hO⟩ := w20.share hO (i := 1) rfl
  have hL := hL.trans h22
  have hO : Obs _ _ [_, _] := hO
  obtain ⟨c23, h24, hF⟩ := bind_some hF
  refine wpn_c0 hO (zW r21 h24) rfl fun _ σ _ _ hO h25 h26 => ?_
  have hL := hL.trans h25
  have r21 := r21.le h25
  obtain ⟨v27, o30, rfl, rfl, w31⟩ := h26
  obtain ⟨A28, c29, rfl, -⟩ := w31.form
  have hO : Obs _ _ [_, _, _] := hO
  refine wpn_qa hO [] [(2, .bool c1.2), (3, .slice A28 c23.1.length c29), (4, .int .i64 c12.2), (5, .int .i64 c23.2)] (ar (ar (ar (ar trivial)))) fun j => ?_
  refine wpn_q hO 1 [] [(2, .bool c1.2), (3, .slice A28 c23.1.length c29), (4, .int .i64 c12.2), (5, .int .i64 c23.2), (34, .slice A28 c23.1.length c29)] (ar (ar (ar (ar (ar trivial))))) fun j => ?_
  obtain ⟨_, h33, r32, hO⟩ := w31.share hO (i := 2) rfl
  have hL := hL.trans h33
  have hO : Obs _ _ [_, _, _] := hO
  obtain ⟨c34, h35, hF⟩ := bind_some hF
  refine wpn_c0 hO (zM r32 h35) rfl fun _ σ _ _ hO h36 h37 => ?_
  have hL := hL.trans h36
  have r32 := r32.le h36
  obtain ⟨rfl, rfl⟩ := h37
  have hO : Obs _ _ [_, _, _] := hO
  refine wpn_qa hO [] [(2, .bool c1.2), (3, .slice A28 c23.1.length c29), (4, .int .i64 c12.2), (5, .int .i64 c23.2), (6, .int .u8 c34.1), (7, .int .i64 c34.2.1), (8, .int .i64 c34.2.2)] (ar (ar (ar (ar (ar (ar (ar trivial))))))) fun j => ?_
  refine wpn_q hO 2 [] [(2, .bool c1.2), (3, .slice A28 c23.1.length c29), (4, .int .i64 c12.2), (5, .int .i64 c23.2), (6, .int .u8 c34.1), (8, .int .i64 c34.2.2), (40, .slice A28 c23.1.length c29), (41, .int .i64 c34.2.1)] (ar (ar (ar (ar (ar (ar (ar (ar trivial)))))))) fun j => ?_
  obtain ⟨c38, h39, hF⟩ := bind_some hF
  refine wpn_c0 hO (zP r32 h39) rfl fun _ σ _ _ hO h40 h41 => ?_
  have hL := hL.trans h40
  have r32 := r32.le h40
  obtain ⟨rfl, rfl⟩ := h41
  have hO : Obs _ _ [_, _, _] := hO
  refine wpn_qa hO [] [(2, .bool c1.2), (3, .slice A28 c23.1.length c29), (4, .int .i64 c12.2), (5, .int .i64 c23.2), (6, .int .u8 c34.1), (8, .int .i64 c34.2.2), (9, .int .i64 c38.1), (10, .int .i64 c38.2.1), (11, .int .i64 c38.2.2)] (ar (ar (ar (ar (ar (ar (ar (ar (ar trivial))))))))) fun j => ?_
  refine wpn_q hO 2 [] [(2, .bool c1.2), (3, .slice A28 c23.1.length c29), (4, .int .i64 c12.2), (5, .int .i64 c23.2), (6, .int .u8 c34.1), (8, .int .i64 c34.2.2), (9, .int .i64 c38.1), (11, .int .i64 c38.2.2), (47, .slice A28 c23.1.length c29), (48, .int .i64 c38.2.1)] (ar (ar (ar (ar (ar (ar (ar (ar (ar (ar trivial)))))))))) fun j => ?_
  obtain ⟨c42, h43, hF⟩ := bind_some hF
  refine wpn_c0 hO (zV r32 h43) rfl fun _ σ _ _ hO h44 h45 => ?_
  have hL := hL.trans h44
  have r32 := r32.le h44
  obtain ⟨rfl, rfl⟩ := h45
  have hO : Obs _ _ [_, _, _] := hO
  refine wpn_qa hO [] [(2, .bool c1.2), (3, .slice A28 c23.1.length c29), (4, .int .i64 c12.2), (5, .int .i64 c23.2), (6, .int .u8 c34.1), (8, .int .i64 c34.2.2), (9, .int .i64 c38.1), (11, .int .i64 c38.2.2), (12, .string c42.1), (13, .int .i64 c42.2.1), (14, .int .i64 c42.2.2)] (ar (ar (ar (ar (ar (ar (ar (ar (ar (ar (ar trivial))))))))))) fun j => ?_
  refine wpn_q hO 1 [] [(2, .bool c1.2), (3, .slice A28 c23.1.length c29), (4, .int .i64 c12.2), (5, .int .i64 c23.2), (8, .int .i64 c34.2.2), (9, .int .i64 c38.1), (11, .int .i64 c38.2.2), (12, .string c42.1), (13, .int .i64 c42.2.1), (14, .int .i64 c42.2.2), (54, .int .u8 c34.1)] (ar (ar (ar (ar (ar (ar (ar (ar (ar (ar (ar trivial))))))))))) fun j => ?_
  obtain ⟨c46, h47, hF⟩ := bind_some hF
  refine wpn_c0 hO (zU h47) rfl fun _ σ _ _ hO h48 h49 => ?_
  have hL := hL.trans h48
  have r32 := r32.le h48
  obtain ⟨rfl, rfl⟩ := h49
  have hO : Obs _ _ [_, _, _] := hO
  refine wpn_qa hO [] [(2, .bool c1.2), (3, .slice A28 c23.1.length c29), (4, .int .i64 c12.2), (5, .int .i64 c23.2), (8, .int .i64 c34.2.2), (9, .int .i64 c38.1), (11, .int .i64 c38.2.2), (12, .string c42.1), (13, .int .i64 c42.2.1), (14, .int .i64 c42.2.2), (15, .int .i64 c46.1), (16, .int .i64 c46.2)] (ar (ar (ar (ar (ar (ar (ar (ar (ar (ar (ar (ar trivial)))))))))))) fun j => ?_
  refine wpn_qa hO [] [(2, .bool c1.2), (3, .slice A28 c23.1.length c29), (9, .int .i64 c38.1), (12, .string c42.1), (13, .int .i64 c42.2.1), (15, .int .i64 c46.1), (16, .int .i64 c46.2), (17, .bool (((((c12.2 == 0) && (c23.2 == 0)) && (c34.2.2 == 0)) && (c38.2.2 == 0)) && (c42.2.2 == 0)))] (And.intro (And.intro rfl rfl) (fun _ => And.intro (And.intro rfl rfl) (fun _ => And.intro (And.intro rfl rfl) (fun _ => And.intro (And.intro rfl rfl) (fun _ => ar (ar (ar (ar (ar (ar (ar (ar trivial)))))))))))) fun j => ?_
  refine wpn_qa hO [] [(0, .bool (((((((c1.2 && (((((c12.2 == 0) && (c23.2 == 0)) && (c34.2.2 == 0)) && (c38.2.2 == 0)) && (c42.2.2 == 0))) && (c46.1 == 1)) && (c46.2 == 2)) && (c38.1 == 258)) && (strEq c42.1 (⟨#[97, 98]⟩ : ByteArray))) && ((c23.1.length : Int) == 7)) && (c42.2.1 == 7)))] (And.intro (And.intro rfl rfl) (fun _ => And.intro (And.intro rfl rfl) (fun _ => And.intro (And.intro rfl rfl) (fun _ => And.intro (And.intro rfl rfl) (fun _ => And.intro (And.intro rfl rfl) (fun _ => And.intro (And.intro rfl rfl) (fun _ => And.intro (And.intro rfl rfl) (fun _ => ar trivial)))))))) fun j => ?_
  refine wpn_r1 ?_
  injection hF with hF
  subst hF
  have hO := hO.sel [] (by decide)
  exact hQ _ _ _ _ _ rfl hO hL ⟨rfl, rfl⟩
end Go.Proofs.Ytmcfgapknoiohaa
