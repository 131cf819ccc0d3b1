import Derived.Test.YtckcngkkofemjaaF
import Derived.Test.YtckcngkkofemjaaAc0
import Derived.Test.YtckcngkkofemjaaM00
import Derived.Test.YtckcngkkofemjaaM01
import Derived.Test.YtckcngkkofemjaaG1
namespace Go.Proofs.Ytckcngkkofemjaa
open Go.Ab Go.RowKit
set_option linter.unusedVariables false
set_option linter.unusedSimpArgs false
set_option maxRecDepth 10000
set_option maxHeartbeats 1000000
theorem zw {τ : Hp} {q0 : zd} {bm0 : Nat} {vm0_0 : Value} {p1 : Int} (rm0_0 : RdT Ty.u8 τ vm0_0 q0.b) {rr : Int × zd} (hF : zr q0 p1 = some rr) :
    Ctr Try.prog 34 #[.pointer (some ⟨bm0, 0, none⟩), .int .i64 p1] τ [some (bm0, ⟨[vm0_0, .int .i64 q0.at_, .bool q0.failed], 82, 3, true⟩)] (fun v τ' vs' => ∃ (u0_0 : Value), v = .int .i64 rr.1 ∧ vs' = [some (bm0, ⟨[u0_0, .int .i64 rr.2.at_, .bool rr.2.failed], 82, 3, true⟩)] ∧ RdT Ty.u8 τ' u0_0 rr.2.b) := by
  obtain ⟨Am0_0, cm0_0, rfl, -⟩ := rm0_0.form
  refine ctr_of (args := [.pointer (some ⟨bm0, 0, none⟩), .int .i64 p1]) hm Try.func34 s34 rfl fun w0 σ hO Q hQ => ?_
  unfold zr at hF
  have hL := Hp.le.refl τ
  show wpn _ _ a34.body _ _ _
  unfold a34
  dsimp only
  refine wpn_qa hO [] [(0, .pointer (some ⟨bm0, 0, none⟩)), (1, .int .i64 p1)] (ar (ar trivial)) fun j => ?_
  refine wpn_p2r ?_
  refine wpn_q hO 8 [0, 0] [(0, .pointer (some ⟨bm0, 0, none⟩)), (1, .int .i64 p1), (12, .slice Am0_0 q0.b.length cm0_0), (16, .int .i64 q0.at_)] (And.intro (And.intro rfl rfl) (And.intro (And.intro rfl rfl) (ar (ar (ar (ar trivial)))))) fun j => ?_
  obtain ⟨c3, h4, hF⟩ := bind_some hF
  refine wpn_c0 hO (zb3 rm0_0 h4) rfl fun _ σ _ _ hO h5 h6 => ?_
  have hL := hL.trans h5
  have rm0_0 := rm0_0.le h5
  obtain ⟨rfl, rfl⟩ := h6
  have hO : Obs _ _ [_] := hO
  refine wpn_qa hO [] [(0, .pointer (some ⟨bm0, 0, none⟩)), (1, .int .i64 p1), (5, .int .u64 c3.1), (6, .int .i64 c3.2.1), (7, .int .i64 c3.2.2)] (ar (ar (ar (ar (ar trivial))))) fun j => ?_
  refine wpn_assoc ?_
  refine wpn_qa hO [0] [(0, .pointer (some ⟨bm0, 0, none⟩)), (5, .int .u64 c3.1), (6, .int .i64 c3.2.1), (34, .bool ((q0.failed || (c3.2.2 != 0)) || (decide (c3.1 > (IntKind.u64.wrap p1)))))] (And.intro (And.intro rfl rfl) (And.intro (And.intro rfl rfl) (fun _ => And.intro (And.intro rfl rfl) (fun _ => ar (ar (ar (ar trivial))))))) fun j => ?_
  rcases ite_some hF with ⟨hb7, hF⟩ | ⟨hb7, hF⟩
  · refine wpn_cT (congrArg Value.bool hb7) ?_
    refine wpn_assoc ?_
    refine wpn_q hO 3 [] [(0, .pointer (some ⟨bm0, 0, none⟩)), (37, .pointer (some ⟨bm0, 2, none⟩))] (ar (ar trivial)) fun j => ?_
    refine wpn_st hO (i := 0) rfl (off := 2) rfl rfl rfl rfl (Nat.le_of_ble_eq_true rfl) rfl fun σ hO => ?_
    have hO : Obs _ _ [_] := hO
    refine wpn_nil ?_
    refine wpn_assoc ?_
    refine wpn_qa hO [] [(0, .pointer (some ⟨bm0, 0, none⟩)), (4, .int .i64 0)] (ar (ar trivial)) fun j => ?_
    refine wpn_rt ?_
    injection hF with hF
    subst hF
    exact hQ _ _ _ _ _ rfl hO hL ⟨_, rfl, rfl, rm0_0⟩
  · refine wpn_cF (congrArg Value.bool hb7) ?_
    refine wpn_sk ?_
    refine wpn_q hO 4 [] [(0, .pointer (some ⟨bm0, 0, none⟩)), (5, .int .u64 c3.1), (39, .int .i64 c3.2.1), (41, .pointer (some ⟨bm0, 1, none⟩))] (ar (ar (ar (ar trivial)))) fun j => ?_
    refine wpn_st hO (i := 0) rfl (off := 1) rfl rfl rfl rfl (Nat.le_of_ble_eq_true rfl) rfl fun σ hO => ?_
    have hO : Obs _ _ [_] := hO
    refine wpn_nil ?_
    refine wpn_qa hO [] [(0, .pointer (some ⟨bm0, 0, none⟩)), (4, .int .i64 (IntKind.i64.wrap c3.1))] (ar (ar trivial)) fun j => ?_
    refine wpn_r1 ?_
    injection hF with hF
    subst hF
    exact hQ _ _ _ _ _ rfl hO hL ⟨_, rfl, rfl, rm0_0⟩
theorem zd2 {τ : Hp} {v0 : Value} {p0 : (List UInt8)} {p1 : Int} {p2 : Int} (r0 : RdT Ty.u8 τ v0 p0) {rr : (List UInt8) × Int × Int} (hF : zP p0 p1 p2 = some rr) :
    Ctr Try.prog 60 #[v0, .int .i64 p1, .int .i64 p2] τ [] (fun v τ' vs' => ∃ (v0 : Value), v = .tuple #[v0, .int .i64 rr.2.1, .int .i64 rr.2.2] ∧ vs' = [] ∧ RdT Ty.u8 τ' v0 rr.1) := by
  obtain ⟨A0, c0, rfl, -⟩ := r0.form
  refine ctr_of (args := [.slice A0 p0.length c0, .int .i64 p1, .int .i64 p2]) hm Try.func60 s60 rfl fun w0 σ hO Q hQ => ?_
  unfold zP at hF
  have hL := Hp.le.refl τ
  show wpn _ _ a60.body _ _ _
  unfold a60
  dsimp only
  refine wpn_qa hO [] [(0, .slice A0 p0.length c0), (1, .int .i64 p1), (2, .int .i64 p2)] (ar (ar (ar trivial))) fun j => ?_
  refine wpn_assoc ?_
  refine wpn_qa hO [] [(0, .slice A0 p0.length c0), (1, .int .i64 p1), (2, .int .i64 p2), (17, .bool ((decide (p1 < 0)) || (decide (p1 > (p0.length : Int)))))] (And.intro (And.intro rfl rfl) (fun _ => ar (ar (ar (ar trivial))))) fun j => ?_
  rcases ite_some hF with ⟨hb4, hF⟩ | ⟨hb4, hF⟩
  · refine wpn_cT (congrArg Value.bool hb4) ?_
    refine wpn_assoc ?_
    refine wpn_qa hO [] [(6, .slice none 0 0), (7, .int .i64 0), (8, .int .i64 1)] (ar (ar (ar trivial))) fun j => ?_
    refine wpn_rt ?_
    injection hF with hF
    subst hF
    exact hQ _ _ _ _ _ rfl hO hL ⟨_, rfl, rfl, (RdT.nil _ _)⟩
  · refine wpn_cF (congrArg Value.bool hb4) ?_
    refine wpn_sk ?_
    refine wpn_assoc ?_
    refine wpn_q hO 2 [] [(1, .int .i64 p1), (2, .int .i64 p2), (18, .slice A0 p0.length c0), (19, .int .i64 p1)] (ar (ar (ar (ar trivial)))) fun j => ?_
    obtain ⟨y5, g6, hF⟩ := bind_some hF
    refine wpn_sl (T := Ty.u8) r0 rfl rfl rfl g6 fun _ r7 => ?_
    obtain ⟨A8, c9, rfl, -⟩ := r7.form
    refine wpn_qa hO [] [(1, .int .i64 p1), (2, .int .i64 p2), (9, .slice A8 y5.length c9)] (ar (ar (ar trivial))) fun j => ?_
    refine wpn_assoc ?_
    refine wpn_qa hO [] [(1, .int .i64 p1), (2, .int .i64 p2), (9, .slice A8 y5.length c9), (24, .bool (decide ((y5.length : Int) ≥ p2)))] (ar (ar (ar (ar trivial)))) fun j => ?_
    rcases ite_some hF with ⟨hb10, hF⟩ | ⟨hb10, hF⟩
    · refine wpn_cT (congrArg Value.bool hb10) ?_
      refine wpn_assoc ?_
      refine wpn_q hO 2 [] [(1, .int .i64 p1), (2, .int .i64 p2), (25, .slice A8 y5.length c9), (26, .int .i64 p2)] (ar (ar (ar (ar trivial)))) fun j => ?_
      obtain ⟨y11, g12, hF⟩ := bind_some hF
      refine wpn_sl (T := Ty.u8) r7 rfl rfl rfl g12 fun _ r13 => ?_
      obtain ⟨A14, c15, rfl, -⟩ := r13.form
      refine wpn_qa hO [] [(6, .slice A14 y11.length c15), (7, .int .i64 (IntKind.i64.wrap (p1 + p2))), (8, .int .i64 0)] (ar (ar (ar trivial))) fun j => ?_
      refine wpn_rt ?_
      injection hF with hF
      subst hF
      exact hQ _ _ _ _ _ rfl hO hL ⟨_, rfl, rfl, r13⟩
    · refine wpn_cF (congrArg Value.bool hb10) ?_
      refine wpn_sk ?_
      refine wpn_qa hO [] [(6, .slice none 0 0), (7, .int .i64 0), (8, .int .i64 5)] (ar (ar (ar trivial))) fun j => ?_
      refine wpn_r1 ?_
      injection hF with hF
      subst hF
      exact hQ _ _ _ _ _ rfl hO hL ⟨_, rfl, rfl, (RdT.nil _ _)⟩
theorem zeb {τ : Hp} {v0 : Value} {p0 : (List UInt8)} {p1 : Int} (r0 : RdT Ty.u8 τ v0 p0) {rr : Int × Int × Int} (hF : zN p0 p1 = some rr) :
    Ctr Try.prog 59 #[v0, .int .i64 p1] τ [] (fun v τ' vs' => v = .tuple #[.int .u8 rr.1, .int .i64 rr.2.1, .int .i64 rr.2.2] ∧ vs' = []) := by
  obtain ⟨A0, c0, rfl, -⟩ := r0.form
  refine ctr_of (args := [.slice A0 p0.length c0, .int .i64 p1]) hm Try.func59 s59 rfl fun w0 σ hO Q hQ => ?_
  unfold zN at hF
  have hL := Hp.le.refl τ
  show wpn _ _ a59.body _ _ _
  unfold a59
  dsimp only
  refine wpn_qa hO [] [(0, .slice A0 p0.length c0), (1, .int .i64 p1)] (ar (ar trivial)) fun j => ?_
  refine wpn_q hO 2 [] [(9, .slice A0 p0.length c0), (10, .int .i64 p1)] (ar (ar trivial)) fun j => ?_
  obtain ⟨c3, h4, hF⟩ := bind_some hF
  refine wpn_c0 hO (zd2 r0 h4) rfl fun _ σ _ _ hO h5 h6 => ?_
  have hL := hL.trans h5
  have r0 := r0.le h5
  obtain ⟨v7, rfl, rfl, r10⟩ := h6
  obtain ⟨A8, c9, rfl, -⟩ := r10.form
  have hO : Obs _ _ [] := hO
  refine wpn_qa hO [] [(5, .int .i64 c3.2.1), (6, .int .i64 c3.2.2), (7, .slice A8 c3.1.length c9)] (ar (ar (ar trivial))) fun j => ?_
  refine wpn_assoc ?_
  refine wpn_qa hO [] [(5, .int .i64 c3.2.1), (6, .int .i64 c3.2.2), (7, .slice A8 c3.1.length c9), (16, .bool (c3.2.2 != 0))] (ar (ar (ar (ar trivial)))) fun j => ?_
  rcases ite_some hF with ⟨hb11, hF⟩ | ⟨hb11, hF⟩
  · refine wpn_cT (congrArg Value.bool hb11) ?_
    refine wpn_assoc ?_
    refine wpn_qa hO [] [(4, .int .u8 0), (5, .int .i64 0), (6, .int .i64 c3.2.2)] (ar (ar (ar trivial))) fun j => ?_
    refine wpn_rt ?_
    injection hF with hF
    subst hF
    exact hQ _ _ _ _ _ rfl hO hL ⟨rfl, rfl⟩
  · refine wpn_cF (congrArg Value.bool hb11) ?_
    refine wpn_sk ?_
    refine wpn_q hO 1 [] [(5, .int .i64 c3.2.1), (18, .slice A8 c3.1.length c9)] (ar (ar trivial)) fun j => ?_
    obtain ⟨y12, g13, hF⟩ := bind_some hF
    refine wpn_idx (T := Ty.u8) r10 hO.base rfl rfl g13 (by decide) fun a14 _ k15 m16 => ?_
    obtain rfl : _ = ([.int .u8 y12.toNat] : List Value) := k15
    refine wpn_ld rfl (m16.le hO.base).fst ?_
    refine wpn_qa hO [] [(4, .int .u8 (y12.toNat : Int)), (5, .int .i64 c3.2.1), (6, .int .i64 0)] (ar (ar (ar trivial))) fun j => ?_
    refine wpn_r1 ?_
    injection hF with hF
    subst hF
    exact hQ _ _ _ _ _ rfl hO hL ⟨rfl, rfl⟩
theorem zfa {τ : Hp} {v0 : Value} {p0 : (List UInt8)} {p1 : Int} (r0 : RdT Ty.u8 τ v0 p0) {rr : ByteArray × Int × Int} (hF : zG p0 p1 = some rr) :
    Ctr Try.prog 51 #[v0, .int .i64 p1] τ [] (fun v τ' vs' => v = .tuple #[.string rr.1, .int .i64 rr.2.1, .int .i64 rr.2.2] ∧ vs' = []) := by
  obtain ⟨A0, c0, rfl, -⟩ := r0.form
  refine ctr_of (args := [.slice A0 p0.length c0, .int .i64 p1]) hm Try.func51 s51 rfl fun w0 σ hO Q hQ => ?_
  unfold zG at hF
  have hL := Hp.le.refl τ
  show wpn _ _ a51.body _ _ _
  unfold a51
  dsimp only
  refine wpn_qa hO [] [(0, .slice A0 p0.length c0), (1, .int .i64 p1)] (ar (ar trivial)) fun j => ?_
  refine wpn_q hO 2 [] [(0, .slice A0 p0.length c0), (10, .slice A0 p0.length c0), (11, .int .i64 p1)] (ar (ar (ar trivial))) fun j => ?_
  obtain ⟨c3, h4, hF⟩ := bind_some hF
  refine wpn_c0 hO (zeb r0 h4) rfl fun _ σ _ _ hO h5 h6 => ?_
  have hL := hL.trans h5
  have r0 := r0.le h5
  obtain ⟨rfl, rfl⟩ := h6
  have hO : Obs _ _ [] := hO
  refine wpn_qa hO [] [(0, .slice A0 p0.length c0), (5, .int .i64 c3.2.1), (6, .int .i64 c3.2.2), (7, .int .u8 c3.1)] (ar (ar (ar (ar trivial)))) fun j => ?_
  refine wpn_assoc ?_
  refine wpn_qa hO [] [(0, .slice A0 p0.length c0), (5, .int .i64 c3.2.1), (6, .int .i64 c3.2.2), (7, .int .u8 c3.1), (17, .bool (c3.2.2 != 0))] (ar (ar (ar (ar (ar trivial))))) fun j => ?_
  rcases ite_some hF with ⟨hb7, hF⟩ | ⟨hb7, hF⟩
  · refine wpn_cT (congrArg Value.bool hb7) ?_
    refine wpn_assoc ?_
    refine wpn_qa hO [] [(4, .string (⟨#[]⟩ : ByteArray)), (5, .int .i64 0), (6, .int .i64 c3.2.2)] (ar (ar (ar trivial))) fun j => ?_
    refine wpn_rt ?_
    injection hF with hF
    subst hF
    exact hQ _ _ _ _ _ rfl hO hL ⟨rfl, rfl⟩
  · refine wpn_cF (congrArg Value.bool hb7) ?_
    refine wpn_sk ?_
    refine wpn_q hO 4 [] [(20, .slice A0 p0.length c0), (21, .int .i64 c3.2.1), (23, .int .i64 (IntKind.i64.wrap c3.1))] (ar (ar (ar trivial))) fun j => ?_
    obtain ⟨c8, h9, hF⟩ := bind_some hF
    refine wpn_c0 hO (zd2 r0 h9) rfl fun _ σ _ _ hO h10 h11 => ?_
    have hL := hL.trans h10
    have r0 := r0.le h10
    obtain ⟨v12, rfl, rfl, r15⟩ := h11
    obtain ⟨A13, c14, rfl, -⟩ := r15.form
    have hO : Obs _ _ [] := hO
    refine wpn_qa hO [] [(5, .int .i64 c8.2.1), (6, .int .i64 c8.2.2), (8, .slice A13 c8.1.length c14)] (ar (ar (ar trivial))) fun j => ?_
    refine wpn_q hO 1 [] [(5, .int .i64 c8.2.1), (6, .int .i64 c8.2.2), (28, .slice A13 c8.1.length c14)] (ar (ar (ar trivial))) fun j => ?_
    refine wpn_ts (l := c8.1) (r15.le hO.base) rfl ?_
    refine wpn_qa hO [] [(4, .string (⟨c8.1.toArray⟩ : ByteArray)), (5, .int .i64 c8.2.1), (6, .int .i64 c8.2.2)] (ar (ar (ar trivial))) fun j => ?_
    refine wpn_r1 ?_
    injection hF with hF
    subst hF
    exact hQ _ _ _ _ _ rfl hO hL ⟨rfl, rfl⟩
theorem zb1 {τ : Hp} {q0 : zd} {bm0 : Nat} {vm0_0 : Value} (rm0_0 : RdT Ty.u8 τ vm0_0 q0.b) {rr : ByteArray × zd} (hF : zB q0 = some rr) :
    Ctr Try.prog 33 #[.pointer (some ⟨bm0, 0, none⟩)] τ [some (bm0, ⟨[vm0_0, .int .i64 q0.at_, .bool q0.failed], 82, 3, true⟩)] (fun v τ' vs' => ∃ (u0_0 : Value), v = .string rr.1 ∧ vs' = [some (bm0, ⟨[u0_0, .int .i64 rr.2.at_, .bool rr.2.failed], 82, 3, true⟩)] ∧ RdT Ty.u8 τ' u0_0 rr.2.b) := by
  obtain ⟨Am0_0, cm0_0, rfl, -⟩ := rm0_0.form
  refine ctr_of (args := [.pointer (some ⟨bm0, 0, none⟩)]) hm Try.func33 s33 rfl fun w0 σ hO Q hQ => ?_
  unfold zB at hF
  have hL := Hp.le.refl τ
  show wpn _ _ a33.body _ _ _
  unfold a33
  dsimp only
  refine wpn_qa hO [] [(0, .pointer (some ⟨bm0, 0, none⟩))] (ar trivial) fun j => ?_
  refine wpn_p2r ?_
  refine wpn_q hO 8 [0, 0] [(0, .pointer (some ⟨bm0, 0, none⟩)), (10, .slice Am0_0 q0.b.length cm0_0), (14, .int .i64 q0.at_)] (And.intro (And.intro rfl rfl) (And.intro (And.intro rfl rfl) (ar (ar (ar trivial))))) fun j => ?_
  obtain ⟨c2, h3, hF⟩ := bind_some hF
  refine wpn_c0 hO (zfa rm0_0 h3) rfl fun _ σ _ _ hO h4 h5 => ?_
  have hL := hL.trans h4
  have rm0_0 := rm0_0.le h4
  obtain ⟨rfl, rfl⟩ := h5
  have hO : Obs _ _ [_] := hO
  refine wpn_qa hO [] [(0, .pointer (some ⟨bm0, 0, none⟩)), (3, .string c2.1), (4, .int .i64 c2.2.1), (5, .int .i64 c2.2.2)] (ar (ar (ar (ar trivial)))) fun j => ?_
  refine wpn_assoc ?_
  refine wpn_qa hO [0] [(0, .pointer (some ⟨bm0, 0, none⟩)), (3, .string c2.1), (4, .int .i64 c2.2.1), (26, .bool (q0.failed || (c2.2.2 != 0)))] (And.intro (And.intro rfl rfl) (And.intro (And.intro rfl rfl) (fun _ => ar (ar (ar (ar trivial)))))) fun j => ?_
  rcases ite_some hF with ⟨hb6, hF⟩ | ⟨hb6, hF⟩
  · refine wpn_cT (congrArg Value.bool hb6) ?_
    refine wpn_assoc ?_
    refine wpn_q hO 3 [] [(0, .pointer (some ⟨bm0, 0, none⟩)), (29, .pointer (some ⟨bm0, 2, none⟩))] (ar (ar trivial)) fun j => ?_
    refine wpn_st hO (i := 0) rfl (off := 2) rfl rfl rfl rfl (Nat.le_of_ble_eq_true rfl) rfl fun σ hO => ?_
    have hO : Obs _ _ [_] := hO
    refine wpn_nil ?_
    refine wpn_assoc ?_
    refine wpn_qa hO [] [(0, .pointer (some ⟨bm0, 0, none⟩)), (2, .string (⟨#[]⟩ : ByteArray))] (ar (ar trivial)) fun j => ?_
    refine wpn_rt ?_
    injection hF with hF
    subst hF
    exact hQ _ _ _ _ _ rfl hO hL ⟨_, rfl, rfl, rm0_0⟩
  · refine wpn_cF (congrArg Value.bool hb6) ?_
    refine wpn_sk ?_
    refine wpn_q hO 4 [] [(0, .pointer (some ⟨bm0, 0, none⟩)), (3, .string c2.1), (31, .int .i64 c2.2.1), (33, .pointer (some ⟨bm0, 1, none⟩))] (ar (ar (ar (ar trivial)))) fun j => ?_
    refine wpn_st hO (i := 0) rfl (off := 1) rfl rfl rfl rfl (Nat.le_of_ble_eq_true rfl) rfl fun σ hO => ?_
    have hO : Obs _ _ [_] := hO
    refine wpn_nil ?_
    refine wpn_qa hO [] [(0, .pointer (some ⟨bm0, 0, none⟩)), (2, .string c2.1)] (ar (ar trivial)) fun j => ?_
    refine wpn_r1 ?_
    injection hF with hF
    subst hF
    exact hQ _ _ _ _ _ rfl hO hL ⟨_, rfl, rfl, rm0_0⟩
theorem zeR {τ : Hp} {q0 : zd} {bm0 : Nat} {vm0_0 : Value} (rm0_0 : RdT Ty.u8 τ vm0_0 q0.b) {rr : Int × zd} (hF : zJ q0 = some rr) :
    Ctr Try.prog 53 #[.pointer (some ⟨bm0, 0, none⟩)] τ [some (bm0, ⟨[vm0_0, .int .i64 q0.at_, .bool q0.failed], 82, 3, true⟩)] (fun v τ' vs' => ∃ (u0_0 : Value), v = .int .u8 rr.1 ∧ vs' = [some (bm0, ⟨[u0_0, .int .i64 rr.2.at_, .bool rr.2.failed], 82, 3, true⟩)] ∧ RdT Ty.u8 τ' u0_0 rr.2.b) := by
  obtain ⟨Am0_0, cm0_0, rfl, -⟩ := rm0_0.form
  refine ctr_of (args := [.pointer (some ⟨bm0, 0, none⟩)]) hm Try.func53 s53 rfl fun w0 σ hO Q hQ => ?_
  unfold zJ at hF
  have hL := Hp.le.refl τ
  show wpn _ _ a53.body _ _ _
  unfold a53
  dsimp only
  refine wpn_qa hO [] [(0, .pointer (some ⟨bm0, 0, none⟩))] (ar trivial) fun j => ?_
  refine wpn_p2r ?_
  refine wpn_q hO 8 [0, 0] [(0, .pointer (some ⟨bm0, 0, none⟩)), (10, .slice Am0_0 q0.b.length cm0_0), (14, .int .i64 q0.at_)] (And.intro (And.intro rfl rfl) (And.intro (And.intro rfl rfl) (ar (ar (ar trivial))))) fun j => ?_
  obtain ⟨c2, h3, hF⟩ := bind_some hF
  refine wpn_c0 hO (zeb rm0_0 h3) rfl fun _ σ _ _ hO h4 h5 => ?_
  have hL := hL.trans h4
  have rm0_0 := rm0_0.le h4
  obtain ⟨rfl, rfl⟩ := h5
  have hO : Obs _ _ [_] := hO
  refine wpn_qa hO [] [(0, .pointer (some ⟨bm0, 0, none⟩)), (3, .int .u8 c2.1), (4, .int .i64 c2.2.1), (5, .int .i64 c2.2.2)] (ar (ar (ar (ar trivial)))) fun j => ?_
  refine wpn_assoc ?_
  refine wpn_qa hO [0] [(0, .pointer (some ⟨bm0, 0, none⟩)), (3, .int .u8 c2.1), (4, .int .i64 c2.2.1), (26, .bool (q0.failed || (c2.2.2 != 0)))] (And.intro (And.intro rfl rfl) (And.intro (And.intro rfl rfl) (fun _ => ar (ar (ar (ar trivial)))))) fun j => ?_
  rcases ite_some hF with ⟨hb6, hF⟩ | ⟨hb6, hF⟩
  · refine wpn_cT (congrArg Value.bool hb6) ?_
    refine wpn_assoc ?_
    refine wpn_q hO 3 [] [(0, .pointer (some ⟨bm0, 0, none⟩)), (29, .pointer (some ⟨bm0, 2, none⟩))] (ar (ar trivial)) fun j => ?_
    refine wpn_st hO (i := 0) rfl (off := 2) rfl rfl rfl rfl (Nat.le_of_ble_eq_true rfl) rfl fun σ hO => ?_
    have hO : Obs _ _ [_] := hO
    refine wpn_nil ?_
    refine wpn_assoc ?_
    refine wpn_qa hO [] [(0, .pointer (some ⟨bm0, 0, none⟩)), (2, .int .u8 0)] (ar (ar trivial)) fun j => ?_
    refine wpn_rt ?_
    injection hF with hF
    subst hF
    exact hQ _ _ _ _ _ rfl hO hL ⟨_, rfl, rfl, rm0_0⟩
  · refine wpn_cF (congrArg Value.bool hb6) ?_
    refine wpn_sk ?_
    refine wpn_q hO 4 [] [(0, .pointer (some ⟨bm0, 0, none⟩)), (3, .int .u8 c2.1), (31, .int .i64 c2.2.1), (33, .pointer (some ⟨bm0, 1, none⟩))] (ar (ar (ar (ar trivial)))) fun j => ?_
    refine wpn_st hO (i := 0) rfl (off := 1) rfl rfl rfl rfl (Nat.le_of_ble_eq_true rfl) rfl fun σ hO => ?_
    have hO : Obs _ _ [_] := hO
    refine wpn_nil ?_
    refine wpn_qa hO [] [(0, .pointer (some ⟨bm0, 0, none⟩)), (2, .int .u8 c2.1)] (ar (ar trivial)) fun j => ?_
    refine wpn_r1 ?_
    injection hF with hF
    subst hF
    exact hQ _ _ _ _ _ rfl hO hL ⟨_, rfl, rfl, rm0_0⟩
theorem zeA {τ : Hp} {q0 : zd} {bm0 : Nat} {vm0_0 : Value} {p1 : Int} (rm0_0 : RdT Ty.u8 τ vm0_0 q0.b) {rr : (List ByteArray) × zd} (hF : zb7 q0 p1 = some rr) :
    Ctr Try.prog 54 #[.pointer (some ⟨bm0, 0, none⟩), .int .i64 p1, .func (.func 33) #[(.pointer (some ⟨bm0, 0, none⟩))] #[]] τ [some (bm0, ⟨[vm0_0, .int .i64 q0.at_, .bool q0.failed], 82, 3, true⟩)] (fun v τ' vs' => ∃ (v0 : Value) (o0 : Ob) (u0_0 : Value), v = v0 ∧ vs' = [o0, some (bm0, ⟨[u0_0, .int .i64 rr.2.at_, .bool rr.2.failed], 82, 3, true⟩)] ∧ OwnO Ty.str 9 τ' v0 rr.1 o0 ∧ RdT Ty.u8 τ' u0_0 rr.2.b) := by
  obtain ⟨Am0_0, cm0_0, rfl, -⟩ := rm0_0.form
  refine ctr_of (args := [.pointer (some ⟨bm0, 0, none⟩), .int .i64 p1, .func (.func 33) #[(.pointer (some ⟨bm0, 0, none⟩))] #[]]) hm Try.func54 s54 rfl fun w0 σ hO Q hQ => ?_
  unfold zb7 at hF
  have hL := Hp.le.refl τ
  show wpn _ _ a54.body _ _ _
  unfold a54
  dsimp only
  refine wpn_qa hO [] [(0, .pointer (some ⟨bm0, 0, none⟩)), (1, .int .i64 p1), (2, .func (.func 33) #[(.pointer (some ⟨bm0, 0, none⟩))] #[])] (ar (ar (ar trivial))) fun j => ?_
  refine wpn_qa hO [] [(0, .pointer (some ⟨bm0, 0, none⟩)), (1, .int .i64 p1), (2, .func (.func 33) #[(.pointer (some ⟨bm0, 0, none⟩))] #[]), (7, .slice none 0 0)] (ar (ar (ar (ar trivial)))) fun j => ?_
  refine wpn_assoc ?_
  refine wpn_q hO 2 [] [(0, .pointer (some ⟨bm0, 0, none⟩)), (2, .func (.func 33) #[(.pointer (some ⟨bm0, 0, none⟩))] #[]), (7, .slice none 0 0), (9, .pointer (some ⟨bm0, 0, none⟩)), (10, .int .i64 p1)] (ar (ar (ar (ar (ar trivial))))) fun j => ?_
  obtain ⟨c4, h5, hF⟩ := bind_some hF
  refine wpn_c (hs := []) (vs := [_]) hO (zw (q0 := (⟨q0.b, q0.at_, q0.failed⟩ : zd)) rm0_0 h5) rfl fun _ σ _ _ hO h6 h7 => ?_
  have hL := hL.trans h6
  obtain ⟨v8, rfl, rfl, r11⟩ := h7
  obtain ⟨A9, c10, rfl, -⟩ := r11.form
  have hO : Obs _ _ [_] := hO
  refine wpn_qa hO [] [(0, .pointer (some ⟨bm0, 0, none⟩)), (2, .func (.func 33) #[(.pointer (some ⟨bm0, 0, none⟩))] #[]), (7, .slice none 0 0), (8, .int .i64 c4.1)] (ar (ar (ar (ar trivial)))) fun j => ?_
  refine wpn_bl ?_
  have hO := hO.no
  have hO : Obs _ _ [_, _] := hO
  refine wpn_lp (fun (n : Nat) e' σ' => ∃ (A28 : Option Addr) (c29 : Nat) (x30 : List UInt8) (x32 : Int) (x33 : Bool) (A34 : Option Addr) (c35 : Nat) (o36 : Ob) (x37 : List ByteArray) (x39 : Int) (τ' : Hp), agr [(0, .pointer (some ⟨bm0, 0, none⟩)), (2, .func (.func 33) #[(.pointer (some ⟨bm0, 0, none⟩))] #[]), (7, .slice A34 x37.length c35), (8, .int .i64 x39)] e' ∧ Obs τ' σ' [some (bm0, ⟨[.slice A28 x30.length c29, .int .i64 x32, .bool x33], 82, 3, true⟩), o36] ∧ Hp.le τ τ' ∧ RdT Ty.u8 τ' (.slice A28 x30.length c29) x30 ∧ OwnO Ty.str 9 τ' (.slice A34 x37.length c35) x37 o36 ∧ zbl  n x30 x32 x33 x37 x39 = some rr) big ⟨A9, c10, c4.2.b, c4.2.at_, c4.2.failed, none, 0, none, [], c4.1, _, ar (ar (ar (ar trivial))), hO, hL, r11, OwnO.nil _ _ _, hF⟩ ?_
  clear hF hO hL
  rintro n54 e σ ⟨A28, c29, x30, x32, x33, A34, c35, o36, x37, x39, _, hA, hO, hL, r31, w38, hF⟩
  rw [← sets_agr _ _ hA]
  cases n54 with
  | zero => exact nomatch (show none = some rr from hF)
  | succ n54 =>
    replace hF : zdE (zbl  n54) x30 x32 x33 x37 x39 = some rr := hF
    unfold zdE at hF
    refine wpn_assoc ?_
    refine wpn_qa hO [0] [(0, .pointer (some ⟨bm0, 0, none⟩)), (2, .func (.func 33) #[(.pointer (some ⟨bm0, 0, none⟩))] #[]), (7, .slice A34 x37.length c35), (8, .int .i64 x39), (20, .bool ((decide (x39 > 0)) && (!x33)))] (And.intro (And.intro rfl rfl) (And.intro (And.intro rfl rfl) (fun _ => ar (ar (ar (ar (ar trivial))))))) fun j => ?_
    rcases ite_some hF with ⟨hb55, hF⟩ | ⟨hb55, hF⟩
    · refine wpn_cT (congrArg Value.bool hb55) ?_
      refine wpn_sk ?_
      refine wpn_bl ?_
      refine wpn_rlast ?_
      refine wpn_q hO 2 [] [(0, .pointer (some ⟨bm0, 0, none⟩)), (2, .func (.func 33) #[(.pointer (some ⟨bm0, 0, none⟩))] #[]), (8, .int .i64 x39), (23, .slice A34 x37.length c35), (24, .func (.func 33) #[(.pointer (some ⟨bm0, 0, none⟩))] #[])] (ar (ar (ar (ar (ar trivial))))) fun j => ?_
      obtain ⟨c56, h57, hF⟩ := bind_some hF
      have hO := hO.sel [1, 0] (by decide)
      refine wpn_cv (hs := [_]) (vs := [_]) rfl (by kernel_rfl) hO (zb1 (q0 := (⟨x30, x32, x33⟩ : zd)) r31 h57) rfl fun _ σ _ _ hO h58 h59 => ?_
      have hL := hL.trans h58
      have w38 := w38.le h58
      obtain ⟨v60, rfl, rfl, r63⟩ := h59
      obtain ⟨A61, c62, rfl, -⟩ := r63.form
      have hO : Obs _ _ [_, _] := hO
      obtain ⟨_, hr68, hF⟩ := bind_some hF
      refine wpn_ap1 (T := Ty.str) (y := c56.1) hO w38 (i := 0) rfl rfl (fun _ => rfl) rfl rfl rfl hr68 (by decide) fun u _ σ o66 w67 hO => ?_
      obtain ⟨A64, c65, rfl, -⟩ := w67.form
      have hO : Obs _ _ [_, _] := hO
      refine wpn_qa hO [] [(0, .pointer (some ⟨bm0, 0, none⟩)), (2, .func (.func 33) #[(.pointer (some ⟨bm0, 0, none⟩))] #[]), (7, .slice A64 (x37 ++ [c56.1]).length c65), (8, .int .i64 x39)] (ar (ar (ar (ar trivial)))) fun j => ?_
      refine wpn_end ?_
      refine inb_i ?_
      refine thn_i ?_
      refine wpn_rlast ?_
      refine wpn_qa hO [] [(0, .pointer (some ⟨bm0, 0, none⟩)), (2, .func (.func 33) #[(.pointer (some ⟨bm0, 0, none⟩))] #[]), (7, .slice A64 (x37 ++ [c56.1]).length c65), (8, .int .i64 (IntKind.i64.wrap (x39 - 1)))] (ar (ar (ar (ar trivial)))) fun j => ?_
      refine wpn_end ?_
      refine thn_i ?_
      have hO := hO.sel [1, 0] (by decide)
      exact ⟨n54, Nat.lt_succ_self _, A61, c62, c56.2.b, c56.2.at_, c56.2.failed, A64, c65, o66, (x37 ++ [c56.1]), (IntKind.i64.wrap (x39 - 1)), _, ar (ar (ar (ar trivial))), hO, hL, r63, w67, hF⟩
    · refine wpn_cF (congrArg Value.bool hb55) ?_
      refine wpn_ex ?_
      refine thn_x ?_
      refine inb_x ?_
      refine thn_i ?_
      refine wpn_qa hO [] [(0, .pointer (some ⟨bm0, 0, none⟩)), (6, .slice A34 x37.length c35)] (ar (ar trivial)) fun j => ?_
      refine wpn_r1 ?_
      injection hF with hF
      subst hF
      have hO := hO.sel [1, 0] (by decide)
      exact hQ _ _ _ _ _ rfl hO hL ⟨_, _, _, rfl, rfl, w38, r31⟩
theorem zeT {τ : Hp} {q0 : zd} {bm0 : Nat} {vm0_0 : Value} (rm0_0 : RdT Ty.u8 τ vm0_0 q0.b) {rr : zh × zd} (hF : z0 q0 = some rr) :
    Ctr Try.prog 37 #[.pointer (some ⟨bm0, 0, none⟩)] τ [some (bm0, ⟨[vm0_0, .int .i64 q0.at_, .bool q0.failed], 82, 3, true⟩)] (fun v τ' vs' => ∃ (v0_5 : Value) (u0_0 : Value), v = .agg #[.string rr.1.Name, .int .u8 rr.1.Type_.Kind.toNat, .int .i64 rr.1.Type_.N, .string rr.1.Type_.Name, .int .i64 rr.1.Words, v0_5] ∧ vs' = [some (bm0, ⟨[u0_0, .int .i64 rr.2.at_, .bool rr.2.failed], 82, 3, true⟩)] ∧ RdT Ty.str τ' v0_5 rr.1.Fields ∧ RdT Ty.u8 τ' u0_0 rr.2.b) := by
  obtain ⟨Am0_0, cm0_0, rfl, -⟩ := rm0_0.form
  refine ctr_of (args := [.pointer (some ⟨bm0, 0, none⟩)]) hm Try.func37 s37 rfl fun w0 σ hO Q hQ => ?_
  unfold z0 at hF
  have hL := Hp.le.refl τ
  show wpn _ _ a37.body _ _ _
  unfold a37
  dsimp only
  refine wpn_al hO fun b2 σ hO => ?_
  have hO : Obs _ _ [_, _] := hO
  refine wpn_nil ?_
  refine wpn_q hO 1 [] [(0, .pointer (some ⟨bm0, 0, none⟩)), (2, .pointer (some ⟨b2, 0, none⟩)), (4, .pointer (some ⟨bm0, 0, none⟩))] (ar (ar (ar trivial))) fun j => ?_
  obtain ⟨c3, h4, hF⟩ := bind_some hF
  have hO := hO.sel [1, 0] (by decide)
  refine wpn_c (hs := [_]) (vs := [_]) hO (zb1 (q0 := (⟨q0.b, q0.at_, q0.failed⟩ : zd)) rm0_0 h4) rfl fun _ σ _ _ hO h5 h6 => ?_
  have hL := hL.trans h5
  obtain ⟨v7, rfl, rfl, r10⟩ := h6
  obtain ⟨A8, c9, rfl, -⟩ := r10.form
  have hO : Obs _ _ [_, _] := hO
  refine wpn_q hO 1 [] [(0, .pointer (some ⟨bm0, 0, none⟩)), (2, .pointer (some ⟨b2, 0, none⟩)), (6, .agg #[(.string c3.1), (.int .u8 0), (.int .i64 0), (.string (⟨#[]⟩ : ByteArray)), (.int .i64 1), (.slice none 0 0)])] (ar (ar (ar trivial))) fun j => ?_
  refine wpn_al hO fun b11 σ hO => ?_
  have hO : Obs _ _ [_, _, _] := hO
  refine wpn_st hO (i := 2) rfl (off := 0) rfl rfl rfl rfl (Nat.le_of_ble_eq_true rfl) rfl fun σ hO => ?_
  have hO : Obs _ _ [_, _, _] := hO
  refine wpn_nil ?_
  refine wpn_q hO 1 [] [(0, .pointer (some ⟨bm0, 0, none⟩)), (2, .pointer (some ⟨b2, 0, none⟩)), (3, .pointer (some ⟨b11, 0, none⟩)), (7, .pointer (some ⟨bm0, 0, none⟩))] (ar (ar (ar (ar trivial)))) fun j => ?_
  obtain ⟨c12, h13, hF⟩ := bind_some hF
  have hO := hO.sel [0, 2, 1] (by decide)
  refine wpn_c (hs := [_, _]) (vs := [_]) hO (zeR (q0 := (⟨c3.2.b, c3.2.at_, c3.2.failed⟩ : zd)) r10 h13) rfl fun _ σ _ _ hO h14 h15 => ?_
  have hL := hL.trans h14
  obtain ⟨v16, rfl, rfl, r19⟩ := h15
  obtain ⟨A17, c18, rfl, -⟩ := r19.form
  have hO : Obs _ _ [_, _, _] := hO
  refine wpn_q hO 2 [] [(0, .pointer (some ⟨bm0, 0, none⟩)), (2, .pointer (some ⟨b2, 0, none⟩)), (3, .pointer (some ⟨b11, 0, none⟩)), (8, .int .u8 c12.1), (10, .pointer (some ⟨b11, 1, none⟩))] (ar (ar (ar (ar (ar trivial))))) fun j => ?_
  refine wpn_st hO (i := 1) rfl (off := 1) rfl rfl rfl rfl (Nat.le_of_ble_eq_true rfl) rfl fun σ hO => ?_
  have hO : Obs _ _ [_, _, _] := hO
  refine wpn_nil ?_
  refine wpn_assoc ?_
  refine wpn_qa hO [1] [(0, .pointer (some ⟨bm0, 0, none⟩)), (2, .pointer (some ⟨b2, 0, none⟩)), (3, .pointer (some ⟨b11, 0, none⟩)), (13, .int .u8 c12.1)] (And.intro (And.intro rfl rfl) (ar (ar (ar (ar trivial))))) fun j => ?_
  refine wpn_bl ?_
  refine wpn_qa hO [] [(0, .pointer (some ⟨bm0, 0, none⟩)), (2, .pointer (some ⟨b2, 0, none⟩)), (3, .pointer (some ⟨b11, 0, none⟩)), (13, .int .u8 c12.1), (14, .bool (c12.1 == 3))] (ar (ar (ar (ar (ar trivial))))) fun j => ?_
  refine wpn_clast ?_
  rcases ite_some hF with ⟨hb20, hF⟩ | ⟨hb20, hF⟩
  · refine wpn_cT (congrArg Value.bool hb20) ?_
    refine wpn_assoc ?_
    refine wpn_q hO 1 [] [(0, .pointer (some ⟨bm0, 0, none⟩)), (2, .pointer (some ⟨b2, 0, none⟩)), (3, .pointer (some ⟨b11, 0, none⟩)), (16, .pointer (some ⟨bm0, 0, none⟩))] (ar (ar (ar (ar trivial)))) fun j => ?_
    obtain ⟨c21, h22, hF⟩ := bind_some hF
    refine wpn_c (hs := [_, _]) (vs := [_]) hO (zw (q0 := (⟨c12.2.b, c12.2.at_, c12.2.failed⟩ : zd)) r19 h22) rfl fun _ σ _ _ hO h23 h24 => ?_
    have hL := hL.trans h23
    obtain ⟨v25, rfl, rfl, r28⟩ := h24
    obtain ⟨A26, c27, rfl, -⟩ := r28.form
    have hO : Obs _ _ [_, _, _] := hO
    refine wpn_q hO 2 [] [(0, .pointer (some ⟨bm0, 0, none⟩)), (2, .pointer (some ⟨b2, 0, none⟩)), (3, .pointer (some ⟨b11, 0, none⟩)), (17, .int .i64 c21.1), (19, .pointer (some ⟨b11, 2, none⟩))] (ar (ar (ar (ar (ar trivial))))) fun j => ?_
    refine wpn_st hO (i := 1) rfl (off := 2) rfl rfl rfl rfl (Nat.le_of_ble_eq_true rfl) rfl fun σ hO => ?_
    have hO : Obs _ _ [_, _, _] := hO
    refine wpn_nil ?_
    refine wpn_q hO 4 [1] [(0, .pointer (some ⟨bm0, 0, none⟩)), (2, .pointer (some ⟨b2, 0, none⟩)), (3, .pointer (some ⟨b11, 0, none⟩)), (22, .int .i64 c21.1), (23, .pointer (some ⟨b11, 4, none⟩))] (And.intro (And.intro rfl rfl) (ar (ar (ar (ar (ar trivial)))))) fun j => ?_
    refine wpn_st hO (i := 1) rfl (off := 4) rfl rfl rfl rfl (Nat.le_of_ble_eq_true rfl) rfl fun σ hO => ?_
    have hO : Obs _ _ [_, _, _] := hO
    refine wpn_nil ?_
    refine wpn_end ?_
    refine inb_i ?_
    refine thn_i ?_
    refine wpn_q hO 1 [1] [(0, .pointer (some ⟨bm0, 0, none⟩)), (2, .pointer (some ⟨b2, 0, none⟩)), (39, .agg #[(.string c3.1), (.int .u8 c12.1), (.int .i64 c21.1), (.string (⟨#[]⟩ : ByteArray)), (.int .i64 c21.1), (.slice none 0 0)])] (And.intro (And.intro rfl rfl) (ar (ar (ar trivial)))) fun j => ?_
    refine wpn_st hO (i := 0) rfl (off := 0) rfl rfl rfl rfl (Nat.le_of_ble_eq_true rfl) rfl fun σ hO => ?_
    have hO : Obs _ _ [_, _, _] := hO
    refine wpn_nil ?_
    refine wpn_r1 ?_
    obtain ⟨z29, hz29, hF⟩ := bind_some hF
    injection hF with hF
    subst hF
    have hV0 := hO.val (i := 0) rfl (off := 0) (agg := true) (n := 6) rfl
    have hO := hO.sel [2] (by decide)
    exact hQ _ _ _ _ _ (resvs_c rfl (hV0) rfl) hO hL ⟨_, _, (by first | rfl | (simp only [u8o_eq hz29]; done) | (simp only [← u8o_eq hz29]; try rfl)), (by first | rfl | (simp only [u8o_eq hz29]; done) | (simp only [← u8o_eq hz29]; try rfl)), (RdT.nil _ _), r28⟩
  · refine wpn_cF (congrArg Value.bool hb20) ?_
    refine wpn_assoc ?_
    refine wpn_qa hO [] [(0, .pointer (some ⟨bm0, 0, none⟩)), (2, .pointer (some ⟨b2, 0, none⟩)), (3, .pointer (some ⟨b11, 0, none⟩)), (24, .bool (c12.1 == 4))] (ar (ar (ar (ar trivial)))) fun j => ?_
    rcases ite_some hF with ⟨hb30, hF⟩ | ⟨hb30, hF⟩
    · refine wpn_cT (congrArg Value.bool hb30) ?_
      refine wpn_assoc ?_
      refine wpn_q hO 1 [] [(0, .pointer (some ⟨bm0, 0, none⟩)), (2, .pointer (some ⟨b2, 0, none⟩)), (3, .pointer (some ⟨b11, 0, none⟩)), (26, .pointer (some ⟨bm0, 0, none⟩))] (ar (ar (ar (ar trivial)))) fun j => ?_
      obtain ⟨c31, h32, hF⟩ := bind_some hF
      refine wpn_c (hs := [_, _]) (vs := [_]) hO (zb1 (q0 := (⟨c12.2.b, c12.2.at_, c12.2.failed⟩ : zd)) r19 h32) rfl fun _ σ _ _ hO h33 h34 => ?_
      have hL := hL.trans h33
      obtain ⟨v35, rfl, rfl, r38⟩ := h34
      obtain ⟨A36, c37, rfl, -⟩ := r38.form
      have hO : Obs _ _ [_, _, _] := hO
      refine wpn_q hO 2 [] [(0, .pointer (some ⟨bm0, 0, none⟩)), (2, .pointer (some ⟨b2, 0, none⟩)), (3, .pointer (some ⟨b11, 0, none⟩)), (27, .string c31.1), (29, .pointer (some ⟨b11, 3, none⟩))] (ar (ar (ar (ar (ar trivial))))) fun j => ?_
      refine wpn_st hO (i := 1) rfl (off := 3) rfl rfl rfl rfl (Nat.le_of_ble_eq_true rfl) rfl fun σ hO => ?_
      have hO : Obs _ _ [_, _, _] := hO
      refine wpn_nil ?_
      refine wpn_assoc ?_
      refine wpn_q hO 3 [] [(0, .pointer (some ⟨bm0, 0, none⟩)), (2, .pointer (some ⟨b2, 0, none⟩)), (3, .pointer (some ⟨b11, 0, none⟩)), (30, .pointer (some ⟨bm0, 0, none⟩)), (32, .func (.func 33) #[(.pointer (some ⟨bm0, 0, none⟩))] #[])] (ar (ar (ar (ar (ar trivial))))) fun j => ?_
      obtain ⟨c39, h40, hF⟩ := bind_some hF
      refine wpn_c (hs := [_, _]) (vs := [_]) hO (zeA (q0 := (⟨c31.2.b, c31.2.at_, c31.2.failed⟩ : zd)) r38 h40) rfl fun _ σ _ _ hO h41 h42 => ?_
      have hL := hL.trans h41
      obtain ⟨v43, o46, v48, rfl, rfl, w47, r51⟩ := h42
      obtain ⟨A44, c45, rfl, -⟩ := w47.form
      obtain ⟨A49, c50, rfl, -⟩ := r51.form
      have hO : Obs _ _ [_, _, _, _] := hO
      refine wpn_q hO 1 [] [(0, .pointer (some ⟨bm0, 0, none⟩)), (2, .pointer (some ⟨b2, 0, none⟩)), (3, .pointer (some ⟨b11, 0, none⟩)), (33, .slice A44 c39.1.length c45), (34, .pointer (some ⟨b11, 5, none⟩))] (ar (ar (ar (ar (ar trivial))))) fun j => ?_
      refine wpn_st hO (i := 1) rfl (off := 5) rfl rfl rfl rfl (Nat.le_of_ble_eq_true rfl) rfl fun σ hO => ?_
      have hO : Obs _ _ [_, _, _, _] := hO
      refine wpn_nil ?_
      refine wpn_q hO 4 [1] [(0, .pointer (some ⟨bm0, 0, none⟩)), (2, .pointer (some ⟨b2, 0, none⟩)), (3, .pointer (some ⟨b11, 0, none⟩)), (37, .int .i64 (c39.1.length : Int)), (38, .pointer (some ⟨b11, 4, none⟩))] (And.intro (And.intro rfl rfl) (ar (ar (ar (ar (ar trivial)))))) fun j => ?_
      refine wpn_st hO (i := 1) rfl (off := 4) rfl rfl rfl rfl (Nat.le_of_ble_eq_true rfl) rfl fun σ hO => ?_
      have hO : Obs _ _ [_, _, _, _] := hO
      refine wpn_nil ?_
      refine wpn_end ?_
      refine inb_i ?_
      refine thn_i ?_
      refine wpn_q hO 1 [1] [(0, .pointer (some ⟨bm0, 0, none⟩)), (2, .pointer (some ⟨b2, 0, none⟩)), (39, .agg #[(.string c3.1), (.int .u8 c12.1), (.int .i64 0), (.string c31.1), (.int .i64 (c39.1.length : Int)), (.slice A44 c39.1.length c45)])] (And.intro (And.intro rfl rfl) (ar (ar (ar trivial)))) fun j => ?_
      refine wpn_st hO (i := 0) rfl (off := 0) rfl rfl rfl rfl (Nat.le_of_ble_eq_true rfl) rfl fun σ hO => ?_
      have hO : Obs _ _ [_, _, _, _] := hO
      refine wpn_nil ?_
      refine wpn_r1 ?_
      obtain ⟨_, h53, r52, hO⟩ := w47.share hO (i := 2) rfl
      have hL := hL.trans h53
      have r51 := r51.le h53
      have hO : Obs _ _ [_, _, _, _] := hO
      obtain ⟨z54, hz54, hF⟩ := bind_some hF
      injection hF with hF
      subst hF
      have hV0 := hO.val (i := 0) rfl (off := 0) (agg := true) (n := 6) rfl
      have hO := hO.sel [3] (by decide)
      exact hQ _ _ _ _ _ (resvs_c rfl (hV0) rfl) hO hL ⟨_, _, (by first | rfl | (simp only [u8o_eq hz54]; done) | (simp only [← u8o_eq hz54]; try rfl)), (by first | rfl | (simp only [u8o_eq hz54]; done) | (simp only [← u8o_eq hz54]; try rfl)), r52, r51⟩
    · refine wpn_cF (congrArg Value.bool hb30) ?_
      refine wpn_sk ?_
      refine wpn_end ?_
      refine inb_i ?_
      refine thn_i ?_
      refine wpn_q hO 1 [1] [(0, .pointer (some ⟨bm0, 0, none⟩)), (2, .pointer (some ⟨b2, 0, none⟩)), (39, .agg #[(.string c3.1), (.int .u8 c12.1), (.int .i64 0), (.string (⟨#[]⟩ : ByteArray)), (.int .i64 1), (.slice none 0 0)])] (And.intro (And.intro rfl rfl) (ar (ar (ar trivial)))) fun j => ?_
      refine wpn_st hO (i := 0) rfl (off := 0) rfl rfl rfl rfl (Nat.le_of_ble_eq_true rfl) rfl fun σ hO => ?_
      have hO : Obs _ _ [_, _, _] := hO
      refine wpn_nil ?_
      refine wpn_r1 ?_
      obtain ⟨z55, hz55, hF⟩ := bind_some hF
      injection hF with hF
      subst hF
      have hV0 := hO.val (i := 0) rfl (off := 0) (agg := true) (n := 6) rfl
      have hO := hO.sel [2] (by decide)
      exact hQ _ _ _ _ _ (resvs_c rfl (hV0) rfl) hO hL ⟨_, _, (by first | rfl | (simp only [u8o_eq hz55]; done) | (simp only [← u8o_eq hz55]; try rfl)), (by first | rfl | (simp only [u8o_eq hz55]; done) | (simp only [← u8o_eq hz55]; try rfl)), (RdT.nil _ _), r19⟩
theorem zel {τ : Hp} {p0 : Int} {p1 : Int}  {rr : Int} (hF : zbx p0 p1 = some rr) :
    Ctr Try.prog 76 #[.int .u64 p0, .int .i64 p1] τ [] (fun v τ' vs' => v = .int .i64 rr ∧ vs' = []) := by
  refine ctr_of (args := [.int .u64 p0, .int .i64 p1]) hm Try.func76 s76 rfl fun w0 σ hO Q hQ => ?_
  unfold zbx at hF
  have hL := Hp.le.refl τ
  show wpn _ _ a76.body _ _ _
  unfold a76
  dsimp only
  refine wpn_qa hO [] [(0, .int .u64 p0), (1, .int .i64 p1)] (ar (ar trivial)) fun j => ?_
  refine wpn_qa hO [] [(0, .int .u64 p0), (5, .int .i64 (maxI 0 (IntKind.i64.wrap (64 - (IntKind.i64.wrap (7 * p1))))))] (ar (ar trivial)) fun j => ?_
  refine wpn_q hO 2 [] [(5, .int .i64 (maxI 0 (IntKind.i64.wrap (64 - (IntKind.i64.wrap (7 * p1)))))), (10, .int .u64 p0), (11, .int .i64 (maxI 0 (IntKind.i64.wrap (64 - (IntKind.i64.wrap (7 * p1))))))] (ar (ar (ar trivial))) fun j => ?_
  obtain ⟨y3, g4, hF⟩ := bind_some hF
  refine wpn_bn (shlO_bin g4) ?_
  refine wpn_q hO 2 [] [(13, .int .i64 (IntKind.i64.wrap y3)), (14, .int .i64 (maxI 0 (IntKind.i64.wrap (64 - (IntKind.i64.wrap (7 * p1))))))] (ar (ar trivial)) fun j => ?_
  obtain ⟨y5, g6, hF⟩ := bind_some hF
  refine wpn_bn (shrO_bin g6) ?_
  refine wpn_qa hO [] [(4, .int .i64 y5)] (ar trivial) fun j => ?_
  refine wpn_r1 ?_
  injection hF with hF
  subst hF
  exact hQ _ _ _ _ _ rfl hO hL ⟨rfl, rfl⟩
theorem zfk {τ : Hp} {v0 : Value} {p0 : (List UInt8)} {p1 : Int} (r0 : RdT Ty.u8 τ v0 p0) {rr : Int × Int × Int} (hF : zdA p0 p1 = some rr) :
    Ctr Try.prog 75 #[v0, .int .i64 p1, .func (.func 76) #[] #[], .func (.func 72) #[] #[]] τ [] (fun v τ' vs' => v = .tuple #[.int .i64 rr.1, .int .i64 rr.2.1, .int .i64 rr.2.2] ∧ vs' = []) := by
  obtain ⟨A0, c0, rfl, -⟩ := r0.form
  refine ctr_of (args := [.slice A0 p0.length c0, .int .i64 p1, .func (.func 76) #[] #[], .func (.func 72) #[] #[]]) hm Try.func75 s75 rfl fun w0 σ hO Q hQ => ?_
  unfold zdA at hF
  have hL := Hp.le.refl τ
  show wpn _ _ a75.body _ _ _
  unfold a75
  dsimp only
  refine wpn_qa hO [] [(0, .slice A0 p0.length c0), (1, .int .i64 p1), (2, .func (.func 76) #[] #[]), (3, .func (.func 72) #[] #[])] (ar (ar (ar (ar trivial)))) fun j => ?_
  refine wpn_assoc ?_
  refine wpn_qa hO [] [(0, .slice A0 p0.length c0), (1, .int .i64 p1), (2, .func (.func 76) #[] #[]), (3, .func (.func 72) #[] #[]), (21, .bool ((decide (p1 < 0)) || (decide (p1 > (p0.length : Int)))))] (And.intro (And.intro rfl rfl) (fun _ => ar (ar (ar (ar (ar trivial)))))) fun j => ?_
  rcases ite_some hF with ⟨hb5, hF⟩ | ⟨hb5, hF⟩
  · refine wpn_cT (congrArg Value.bool hb5) ?_
    refine wpn_assoc ?_
    refine wpn_qa hO [] [(8, .int .i64 0), (9, .int .i64 0), (10, .int .i64 1)] (ar (ar (ar trivial))) fun j => ?_
    refine wpn_rt ?_
    injection hF with hF
    subst hF
    exact hQ _ _ _ _ _ rfl hO hL ⟨rfl, rfl⟩
  · refine wpn_cF (congrArg Value.bool hb5) ?_
    refine wpn_sk ?_
    refine wpn_q hO 2 [] [(0, .slice A0 p0.length c0), (1, .int .i64 p1), (2, .func (.func 76) #[] #[]), (3, .func (.func 72) #[] #[]), (23, .slice A0 p0.length c0), (24, .int .i64 p1)] (ar (ar (ar (ar (ar (ar trivial)))))) fun j => ?_
    obtain ⟨y6, g7, hF⟩ := bind_some hF
    refine wpn_sl (T := Ty.u8) r0 rfl rfl rfl g7 fun _ r8 => ?_
    obtain ⟨A9, c10, rfl, -⟩ := r8.form
    obtain ⟨c11, h12, hF⟩ := bind_some hF
    refine wpn_c0 hO (zdY r8 h12) rfl fun _ σ _ _ hO h13 h14 => ?_
    have hL := hL.trans h13
    have r0 := r0.le h13
    have r8 := r8.le h13
    obtain ⟨rfl, rfl⟩ := h14
    have hO : Obs _ _ [] := hO
    refine wpn_qa hO [] [(0, .slice A0 p0.length c0), (1, .int .i64 p1), (2, .func (.func 76) #[] #[]), (3, .func (.func 72) #[] #[]), (11, .int .u64 c11.1), (12, .int .i64 c11.2)] (ar (ar (ar (ar (ar (ar trivial)))))) fun j => ?_
    refine wpn_q hO 3 [] [(0, .slice A0 p0.length c0), (1, .int .i64 p1), (3, .func (.func 72) #[] #[]), (12, .int .i64 c11.2), (29, .func (.func 76) #[] #[]), (30, .int .u64 c11.1), (31, .int .i64 c11.2)] (ar (ar (ar (ar (ar (ar (ar trivial))))))) fun j => ?_
    obtain ⟨c15, h16, hF⟩ := bind_some hF
    refine wpn_cv0 rfl (by kernel_rfl) hO (zel h16) rfl fun _ σ _ _ hO h17 h18 => ?_
    have hL := hL.trans h17
    have r0 := r0.le h17
    obtain ⟨rfl, rfl⟩ := h18
    have hO : Obs _ _ [] := hO
    refine wpn_qa hO [] [(0, .slice A0 p0.length c0), (1, .int .i64 p1), (3, .func (.func 72) #[] #[]), (12, .int .i64 c11.2), (13, .int .i64 c15)] (ar (ar (ar (ar (ar trivial))))) fun j => ?_
    refine wpn_assoc ?_
    refine wpn_p2r ?_
    refine wpn_q hO 3 [] [(0, .slice A0 p0.length c0), (1, .int .i64 p1), (3, .func (.func 72) #[] #[]), (12, .int .i64 c11.2), (13, .int .i64 c15), (35, .bool (c11.2 == 0))] (ar (ar (ar (ar (ar (ar trivial)))))) fun j => ?_
    obtain ⟨c19, h20, hF⟩ := bind_some hF
    refine wpn_mid 2 (fun e' σ' => ∃ (τ' : Hp), agr [(47, .bool c19), (1, .int .i64 p1), (12, .int .i64 c11.2), (13, .int .i64 c15)] e' ∧ Obs τ' σ' [] ∧ Hp.le τ τ') ?_ ?_
    · have hF := h20
      rcases ite_some hF with ⟨hb21, hF⟩ | ⟨hb21, hF⟩
      · refine wpn_gF (congrArg (fun x => isB (.bool x) false) hb21) ?_
        refine wpn_pk (congrArg Value.bool hb21) ?_
        refine wpn_nil ?_
        injection hF with hF
        subst hF
        refine wpn_end ?_
        exact ⟨rfl, _, ar (ar (ar (ar trivial))), hO, hL⟩
      · refine wpn_gT (congrArg (fun x => isB (.bool x) false) hb21) ?_
        refine wpn_q hO 7 [] [(1, .int .i64 p1), (12, .int .i64 c11.2), (13, .int .i64 c15), (35, .bool (c11.2 == 0)), (36, .func (.func 72) #[] #[]), (37, .int .i64 c15), (39, .slice A0 p0.length c0), (40, .int .i64 p1), (43, .int .i64 (IntKind.i64.wrap (p1 + c11.2)))] (ar (ar (ar (ar (ar (ar (ar (ar (ar trivial))))))))) fun j => ?_
        obtain ⟨y22, g23, hF⟩ := bind_some hF
        refine wpn_sl (T := Ty.u8) r0 rfl rfl rfl g23 fun _ r24 => ?_
        obtain ⟨A25, c26, rfl, -⟩ := r24.form
        obtain ⟨c27, h28, hF⟩ := bind_some hF
        refine wpn_cv0 rfl (by kernel_rfl) hO (zdW (RdT.nil Ty.u8 _) h28) rfl fun _ σ _ _ hO h29 h30 => ?_
        have hL := hL.trans h29
        have r0 := r0.le h29
        have r24 := r24.le h29
        obtain ⟨v31, o34, rfl, rfl, w35⟩ := h30
        obtain ⟨A32, c33, rfl, -⟩ := w35.form
        have hO : Obs _ _ [_] := hO
        obtain ⟨_, h37, r36, hO⟩ := w35.share hO (i := 0) rfl
        have hL := hL.trans h37
        have r0 := r0.le h37
        have r24 := r24.le h37
        have hO : Obs _ _ [_] := hO
        obtain ⟨c38, h39, hF⟩ := bind_some hF
        refine wpn_c0 hO (zdZ r36 r24 h39) rfl fun _ σ _ _ hO h40 h41 => ?_
        have hL := hL.trans h40
        have r36 := r36.le h40
        have r0 := r0.le h40
        have r24 := r24.le h40
        obtain ⟨rfl, rfl⟩ := h41
        have hO : Obs _ _ [_] := hO
        refine wpn_q hO 1 [] [(1, .int .i64 p1), (12, .int .i64 c11.2), (13, .int .i64 c15), (35, .bool (c11.2 == 0)), (46, .bool (!c38))] (ar (ar (ar (ar (ar trivial))))) fun j => ?_
        refine wpn_pk (congrArg Value.bool hb21) ?_
        refine wpn_nil ?_
        injection hF with hF
        subst hF
        refine wpn_end ?_
        have hO := hO.sel [] (by decide)
        exact ⟨rfl, _, ar (ar (ar (ar trivial))), hO, hL⟩
    · rintro e σ ⟨_, hA, hO, hL⟩
      rw [← sets_agr _ _ hA]
      refine wpn_nil ?_
      rcases ite_some hF with ⟨hb42, hF⟩ | ⟨hb42, hF⟩
      · refine wpn_cT (congrArg Value.bool hb42) ?_
        refine wpn_assoc ?_
        refine wpn_qa hO [] [(8, .int .i64 0), (9, .int .i64 0), (10, .int .i64 5)] (ar (ar (ar trivial))) fun j => ?_
        refine wpn_rt ?_
        injection hF with hF
        subst hF
        exact hQ _ _ _ _ _ rfl hO hL ⟨rfl, rfl⟩
      · refine wpn_cF (congrArg Value.bool hb42) ?_
        refine wpn_sk ?_
        refine wpn_qa hO [] [(8, .int .i64 c15), (9, .int .i64 (IntKind.i64.wrap (p1 + c11.2))), (10, .int .i64 0)] (ar (ar (ar trivial))) fun j => ?_
        refine wpn_r1 ?_
        injection hF with hF
        subst hF
        exact hQ _ _ _ _ _ rfl hO hL ⟨rfl, rfl⟩
theorem ze8 {τ : Hp} {v0 : Value} {p0 : (List UInt8)} {p1 : Int} (r0 : RdT Ty.u8 τ v0 p0) {rr : Int × Int × Int} (hF : zbG p0 p1 = some rr) :
    Ctr Try.prog 74 #[v0, .int .i64 p1] τ [] (fun v τ' vs' => v = .tuple #[.int .i64 rr.1, .int .i64 rr.2.1, .int .i64 rr.2.2] ∧ vs' = []) := by
  obtain ⟨A0, c0, rfl, -⟩ := r0.form
  refine ctr_of (args := [.slice A0 p0.length c0, .int .i64 p1]) hm Try.func74 s74 rfl fun w0 σ hO Q hQ => ?_
  unfold zbG at hF
  have hL := Hp.le.refl τ
  show wpn _ _ a74.body _ _ _
  unfold a74
  dsimp only
  refine wpn_qa hO [] [(0, .slice A0 p0.length c0), (1, .int .i64 p1)] (ar (ar trivial)) fun j => ?_
  refine wpn_q hO 2 [] [(7, .slice A0 p0.length c0), (8, .int .i64 p1)] (ar (ar trivial)) fun j => ?_
  obtain ⟨c3, h4, hF⟩ := bind_some hF
  refine wpn_c0 hO (zfk r0 h4) rfl fun _ σ _ _ hO h5 h6 => ?_
  have hL := hL.trans h5
  have r0 := r0.le h5
  obtain ⟨rfl, rfl⟩ := h6
  have hO : Obs _ _ [] := hO
  refine wpn_qa hO [] [(4, .int .i64 c3.1), (5, .int .i64 c3.2.1), (6, .int .i64 c3.2.2)] (ar (ar (ar trivial))) fun j => ?_
  refine wpn_r1 ?_
  injection hF with hF
  subst hF
  exact hQ _ _ _ _ _ rfl hO hL ⟨rfl, rfl⟩
theorem zey {τ : Hp} {v0 : Value} {p0 : (List UInt8)} {p1 : Int} (r0 : RdT Ty.u8 τ v0 p0) {rr : (List zg) × Int × Int} (hF : zby p0 p1 = some rr) :
    Ctr Try.prog 69 #[v0, .int .i64 p1] τ [] (fun v τ' vs' => ∃ (v0 : Value), v = .tuple #[v0, .int .i64 rr.2.1, .int .i64 rr.2.2] ∧ vs' = [] ∧ RdT zq τ' v0 rr.1) := by
  obtain ⟨A0, c0, rfl, -⟩ := r0.form
  refine ctr_of (args := [.slice A0 p0.length c0, .int .i64 p1]) hm Try.func69 s69 rfl fun w0 σ hO Q hQ => ?_
  unfold zby at hF
  have hL := Hp.le.refl τ
  show wpn _ _ a69.body _ _ _
  unfold a69
  dsimp only
  refine wpn_qa hO [] [(0, .slice A0 p0.length c0), (1, .int .i64 p1), (4, .slice none 0 0)] (ar (ar (ar trivial))) fun j => ?_
  refine wpn_assoc ?_
  refine wpn_qa hO [] [(0, .slice A0 p0.length c0), (1, .int .i64 p1), (4, .slice none 0 0), (16, .bool ((decide (p1 < 0)) || (decide (p1 > (p0.length : Int)))))] (And.intro (And.intro rfl rfl) (fun _ => ar (ar (ar (ar trivial))))) fun j => ?_
  rcases ite_some hF with ⟨hb3, hF⟩ | ⟨hb3, hF⟩
  · refine wpn_cT (congrArg Value.bool hb3) ?_
    refine wpn_assoc ?_
    refine wpn_qa hO [] [(4, .slice none 0 0), (5, .int .i64 0), (6, .int .i64 1)] (ar (ar (ar trivial))) fun j => ?_
    refine wpn_rt ?_
    injection hF with hF
    subst hF
    exact hQ _ _ _ _ _ rfl hO hL ⟨_, rfl, rfl, (RdT.nil _ _)⟩
  · refine wpn_cF (congrArg Value.bool hb3) ?_
    refine wpn_sk ?_
    refine wpn_q hO 2 [] [(0, .slice A0 p0.length c0), (4, .slice none 0 0), (18, .slice A0 p0.length c0), (19, .int .i64 p1)] (ar (ar (ar (ar trivial)))) fun j => ?_
    obtain ⟨c4, h5, hF⟩ := bind_some hF
    refine wpn_c0 hO (zb3 r0 h5) rfl fun _ σ _ _ hO h6 h7 => ?_
    have hL := hL.trans h6
    have r0 := r0.le h6
    obtain ⟨rfl, rfl⟩ := h7
    have hO : Obs _ _ [] := hO
    refine wpn_qa hO [] [(0, .slice A0 p0.length c0), (4, .slice none 0 0), (5, .int .i64 c4.2.1), (6, .int .i64 c4.2.2), (7, .int .u64 c4.1)] (ar (ar (ar (ar (ar trivial))))) fun j => ?_
    refine wpn_assoc ?_
    refine wpn_qa hO [] [(0, .slice A0 p0.length c0), (4, .slice none 0 0), (5, .int .i64 c4.2.1), (7, .int .u64 c4.1), (29, .bool ((c4.2.2 != 0) || (decide (c4.1 > 16))))] (And.intro (And.intro rfl rfl) (fun _ => ar (ar (ar (ar (ar trivial)))))) fun j => ?_
    rcases ite_some hF with ⟨hb8, hF⟩ | ⟨hb8, hF⟩
    · refine wpn_cT (congrArg Value.bool hb8) ?_
      refine wpn_assoc ?_
      refine wpn_qa hO [] [(4, .slice none 0 0), (5, .int .i64 0), (6, .int .i64 5)] (ar (ar (ar trivial))) fun j => ?_
      refine wpn_rt ?_
      injection hF with hF
      subst hF
      exact hQ _ _ _ _ _ rfl hO hL ⟨_, rfl, rfl, (RdT.nil _ _)⟩
    · refine wpn_cF (congrArg Value.bool hb8) ?_
      refine wpn_sk ?_
      refine wpn_assoc ?_
      refine wpn_qa hO [] [(0, .slice A0 p0.length c0), (4, .slice none 0 0), (5, .int .i64 c4.2.1), (30, .int .u64 c4.1), (31, .int .u64 0)] (ar (ar (ar (ar (ar trivial))))) fun j => ?_
      refine wpn_bl ?_
      have hO := hO.no
      have hO : Obs _ _ [_] := hO
      refine wpn_lp (fun (n : Nat) e' σ' => ∃ (A46 : Option Addr) (c47 : Nat) (o48 : Ob) (x49 : List zg) (x51 : Int) (x52 : Int) (τ' : Hp), agr [(0, .slice A0 p0.length c0), (4, .slice A46 x49.length c47), (5, .int .i64 x51), (30, .int .u64 c4.1), (31, .int .u64 x52)] e' ∧ Obs τ' σ' [o48] ∧ Hp.le τ τ' ∧ RdT Ty.u8 τ' (.slice A0 p0.length c0) p0 ∧ OwnO zq 52 τ' (.slice A46 x49.length c47) x49 o48 ∧ zcJ p0 c4 n x49 x51 x52 = some rr) big ⟨none, 0, none, [], c4.2.1, 0, _, ar (ar (ar (ar (ar trivial)))), hO, hL, r0, OwnO.nil _ _ _, hF⟩ ?_
      clear hF hO hL
      rintro n88 e σ ⟨A46, c47, o48, x49, x51, x52, _, hA, hO, hL, r45, w50, hF⟩
      rw [← sets_agr _ _ hA]
      cases n88 with
      | zero => exact nomatch (show none = some rr from hF)
      | succ n88 =>
        replace hF : z2 (zcJ p0 c4 n88) p0 c4 x49 x51 x52 = some rr := hF
        unfold z2 at hF
        refine wpn_qa hO [] [(0, .slice A0 p0.length c0), (4, .slice A46 x49.length c47), (5, .int .i64 x51), (30, .int .u64 c4.1), (31, .int .u64 x52), (32, .bool (decide (x52 < c4.1)))] (ar (ar (ar (ar (ar (ar trivial)))))) fun j => ?_
        rcases ite_some hF with ⟨hb89, hF⟩ | ⟨hb89, hF⟩
        · refine wpn_cT (congrArg Value.bool hb89) ?_
          refine wpn_sk ?_
          refine wpn_bl ?_
          refine wpn_assoc ?_
          refine wpn_qa hO [] [(0, .slice A0 p0.length c0), (4, .slice A46 x49.length c47), (5, .int .i64 x51), (30, .int .u64 c4.1), (31, .int .u64 x52), (36, .bool (decide (x51 ≥ (p0.length : Int))))] (ar (ar (ar (ar (ar (ar trivial)))))) fun j => ?_
          rcases ite_some hF with ⟨hb90, hF⟩ | ⟨hb90, hF⟩
          · refine wpn_cT (congrArg Value.bool hb90) ?_
            refine wpn_assoc ?_
            refine wpn_qa hO [] [(4, .slice none 0 0), (5, .int .i64 0), (6, .int .i64 5)] (ar (ar (ar trivial))) fun j => ?_
            refine wpn_rt ?_
            refine inb_r1 ?_
            refine thn_r1 ?_
            refine thn_r1 ?_
            refine inb_r1 ?_
            refine thn_r1 ?_
            injection hF with hF
            subst hF
            have hO := hO.sel [] (by decide)
            exact hQ _ _ _ _ _ rfl hO hL ⟨_, rfl, rfl, (RdT.nil _ _)⟩
          · refine wpn_cF (congrArg Value.bool hb90) ?_
            refine wpn_sk ?_
            refine wpn_q hO 2 [] [(0, .slice A0 p0.length c0), (4, .slice A46 x49.length c47), (5, .int .i64 x51), (30, .int .u64 c4.1), (31, .int .u64 x52), (37, .slice A0 p0.length c0), (38, .int .i64 x51)] (ar (ar (ar (ar (ar (ar (ar trivial))))))) fun j => ?_
            obtain ⟨y91, g92, hF⟩ := bind_some hF
            refine wpn_idx (T := Ty.u8) r45 hO.base rfl rfl g92 (by decide) fun a93 _ k94 m95 => ?_
            obtain rfl : _ = ([.int .u8 y91.toNat] : List Value) := k94
            refine wpn_ld rfl (m95.le hO.base).fst ?_
            refine wpn_q hO 1 [] [(0, .slice A0 p0.length c0), (4, .slice A46 x49.length c47), (5, .int .i64 x51), (30, .int .u64 c4.1), (31, .int .u64 x52), (41, .agg #[(.int .u8 (y91.toNat : Int)), (.int .i64 0)])] (ar (ar (ar (ar (ar (ar trivial)))))) fun j => ?_
            refine wpn_al hO fun b96 σ hO => ?_
            have hO : Obs _ _ [_, _] := hO
            refine wpn_st hO (i := 1) rfl (off := 0) rfl rfl rfl rfl (Nat.le_of_ble_eq_true rfl) rfl fun σ hO => ?_
            have hO : Obs _ _ [_, _] := hO
            refine wpn_nil ?_
            refine wpn_qa hO [] [(0, .slice A0 p0.length c0), (4, .slice A46 x49.length c47), (5, .int .i64 (IntKind.i64.wrap (x51 + 1))), (8, .pointer (some ⟨b96, 0, none⟩)), (30, .int .u64 c4.1), (31, .int .u64 x52)] (ar (ar (ar (ar (ar (ar trivial)))))) fun j => ?_
            refine wpn_assoc ?_
            refine wpn_q hO 2 [1] [(0, .slice A0 p0.length c0), (4, .slice A46 x49.length c47), (5, .int .i64 (IntKind.i64.wrap (x51 + 1))), (8, .pointer (some ⟨b96, 0, none⟩)), (30, .int .u64 c4.1), (31, .int .u64 x52), (45, .int .u8 (y91.toNat : Int))] (And.intro (And.intro rfl rfl) (ar (ar (ar (ar (ar (ar (ar trivial)))))))) fun j => ?_
            obtain ⟨c97, h98, hF⟩ := bind_some hF
            refine wpn_c0 hO (zd1 h98) rfl fun _ σ _ _ hO h99 h100 => ?_
            have hL := hL.trans h99
            have r45 := r45.le h99
            have w50 := w50.le h99
            obtain ⟨rfl, rfl⟩ := h100
            have hO : Obs _ _ [_, _] := hO
            refine wpn_nil ?_
            rcases ite_some hF with ⟨hb101, hF⟩ | ⟨hb101, hF⟩
            · refine wpn_cT (congrArg Value.bool hb101) ?_
              refine wpn_assoc ?_
              refine wpn_q hO 2 [] [(0, .slice A0 p0.length c0), (4, .slice A46 x49.length c47), (8, .pointer (some ⟨b96, 0, none⟩)), (30, .int .u64 c4.1), (31, .int .u64 x52), (48, .slice A0 p0.length c0), (49, .int .i64 (IntKind.i64.wrap (x51 + 1)))] (ar (ar (ar (ar (ar (ar (ar trivial))))))) fun j => ?_
              obtain ⟨c102, h103, hF⟩ := bind_some hF
              refine wpn_c0 hO (ze8 r45 h103) rfl fun _ σ _ _ hO h104 h105 => ?_
              have hL := hL.trans h104
              have r45 := r45.le h104
              have w50 := w50.le h104
              obtain ⟨rfl, rfl⟩ := h105
              have hO : Obs _ _ [_, _] := hO
              refine wpn_q hO 5 [] [(0, .slice A0 p0.length c0), (4, .slice A46 x49.length c47), (8, .pointer (some ⟨b96, 0, none⟩)), (30, .int .u64 c4.1), (31, .int .u64 x52), (51, .int .i64 c102.1), (52, .int .i64 c102.2.1), (53, .int .i64 c102.2.2), (54, .pointer (some ⟨b96, 1, none⟩))] (ar (ar (ar (ar (ar (ar (ar (ar (ar trivial))))))))) fun j => ?_
              refine wpn_st hO (i := 1) rfl (off := 1) rfl rfl rfl rfl (Nat.le_of_ble_eq_true rfl) rfl fun σ hO => ?_
              have hO : Obs _ _ [_, _] := hO
              refine wpn_qa hO [] [(0, .slice A0 p0.length c0), (4, .slice A46 x49.length c47), (5, .int .i64 c102.2.1), (6, .int .i64 c102.2.2), (8, .pointer (some ⟨b96, 0, none⟩)), (30, .int .u64 c4.1), (31, .int .u64 x52)] (ar (ar (ar (ar (ar (ar (ar trivial))))))) fun j => ?_
              refine wpn_assoc ?_
              refine wpn_qa hO [] [(0, .slice A0 p0.length c0), (4, .slice A46 x49.length c47), (5, .int .i64 c102.2.1), (8, .pointer (some ⟨b96, 0, none⟩)), (30, .int .u64 c4.1), (31, .int .u64 x52), (56, .bool (c102.2.2 != 0))] (ar (ar (ar (ar (ar (ar (ar trivial))))))) fun j => ?_
              rcases ite_some hF with ⟨hb106, hF⟩ | ⟨hb106, hF⟩
              · refine wpn_cT (congrArg Value.bool hb106) ?_
                refine wpn_assoc ?_
                refine wpn_qa hO [] [(4, .slice none 0 0), (5, .int .i64 0), (6, .int .i64 5)] (ar (ar (ar trivial))) fun j => ?_
                refine wpn_rt ?_
                refine inb_r1 ?_
                refine thn_r1 ?_
                refine thn_r1 ?_
                refine inb_r1 ?_
                refine thn_r1 ?_
                injection hF with hF
                subst hF
                have hO := hO.sel [] (by decide)
                exact hQ _ _ _ _ _ rfl hO hL ⟨_, rfl, rfl, (RdT.nil _ _)⟩
              · refine wpn_cF (congrArg Value.bool hb106) ?_
                refine wpn_sk ?_
                refine wpn_rlast ?_
                refine wpn_q hO 2 [1] [(0, .slice A0 p0.length c0), (5, .int .i64 c102.2.1), (30, .int .u64 c4.1), (31, .int .u64 x52), (57, .slice A46 x49.length c47), (58, .agg #[(.int .u8 (y91.toNat : Int)), (.int .i64 c102.1)])] (And.intro (And.intro rfl rfl) (ar (ar (ar (ar (ar (ar trivial))))))) fun j => ?_
                obtain ⟨_, hr111, hF⟩ := bind_some hF
                refine wpn_ap1 (T := zq) (y := (⟨y91, c102.1⟩ : zg)) hO w50 (i := 0) rfl rfl (fun _ => rfl) rfl rfl rfl hr111 (by decide) fun u _ σ o109 w110 hO => ?_
                obtain ⟨A107, c108, rfl, -⟩ := w110.form
                have hO : Obs _ _ [_, _] := hO
                refine wpn_qa hO [] [(0, .slice A0 p0.length c0), (4, .slice A107 (x49 ++ [(⟨y91, c102.1⟩ : zg)]).length c108), (5, .int .i64 c102.2.1), (30, .int .u64 c4.1), (31, .int .u64 x52)] (ar (ar (ar (ar (ar trivial))))) fun j => ?_
                refine wpn_end ?_
                refine inb_i ?_
                refine thn_i ?_
                refine wpn_rlast ?_
                refine wpn_qa hO [] [(0, .slice A0 p0.length c0), (4, .slice A107 (x49 ++ [(⟨y91, c102.1⟩ : zg)]).length c108), (5, .int .i64 c102.2.1), (30, .int .u64 c4.1), (31, .int .u64 (IntKind.u64.wrap (x52 + 1)))] (ar (ar (ar (ar (ar trivial))))) fun j => ?_
                refine wpn_end ?_
                refine thn_i ?_
                have hO := hO.sel [0] (by decide)
                exact ⟨n88, Nat.lt_succ_self _, A107, c108, o109, (x49 ++ [(⟨y91, c102.1⟩ : zg)]), c102.2.1, (IntKind.u64.wrap (x52 + 1)), _, ar (ar (ar (ar (ar trivial)))), hO, hL, r45, w110, hF⟩
            · refine wpn_cF (congrArg Value.bool hb101) ?_
              refine wpn_sk ?_
              refine wpn_rlast ?_
              refine wpn_q hO 2 [1] [(0, .slice A0 p0.length c0), (5, .int .i64 (IntKind.i64.wrap (x51 + 1))), (30, .int .u64 c4.1), (31, .int .u64 x52), (57, .slice A46 x49.length c47), (58, .agg #[(.int .u8 (y91.toNat : Int)), (.int .i64 0)])] (And.intro (And.intro rfl rfl) (ar (ar (ar (ar (ar (ar trivial))))))) fun j => ?_
              obtain ⟨_, hr116, hF⟩ := bind_some hF
              refine wpn_ap1 (T := zq) (y := (⟨y91, 0⟩ : zg)) hO w50 (i := 0) rfl rfl (fun _ => rfl) rfl rfl rfl hr116 (by decide) fun u _ σ o114 w115 hO => ?_
              obtain ⟨A112, c113, rfl, -⟩ := w115.form
              have hO : Obs _ _ [_, _] := hO
              refine wpn_qa hO [] [(0, .slice A0 p0.length c0), (4, .slice A112 (x49 ++ [(⟨y91, 0⟩ : zg)]).length c113), (5, .int .i64 (IntKind.i64.wrap (x51 + 1))), (30, .int .u64 c4.1), (31, .int .u64 x52)] (ar (ar (ar (ar (ar trivial))))) fun j => ?_
              refine wpn_end ?_
              refine inb_i ?_
              refine thn_i ?_
              refine wpn_rlast ?_
              refine wpn_qa hO [] [(0, .slice A0 p0.length c0), (4, .slice A112 (x49 ++ [(⟨y91, 0⟩ : zg)]).length c113), (5, .int .i64 (IntKind.i64.wrap (x51 + 1))), (30, .int .u64 c4.1), (31, .int .u64 (IntKind.u64.wrap (x52 + 1)))] (ar (ar (ar (ar (ar trivial))))) fun j => ?_
              refine wpn_end ?_
              refine thn_i ?_
              have hO := hO.sel [0] (by decide)
              exact ⟨n88, Nat.lt_succ_self _, A112, c113, o114, (x49 ++ [(⟨y91, 0⟩ : zg)]), (IntKind.i64.wrap (x51 + 1)), (IntKind.u64.wrap (x52 + 1)), _, ar (ar (ar (ar (ar trivial)))), hO, hL, r45, w115, hF⟩
        · refine wpn_cF (congrArg Value.bool hb89) ?_
          refine wpn_ex ?_
          refine thn_x ?_
          refine inb_x ?_
          refine thn_i ?_
          refine wpn_assoc ?_
          refine wpn_q hO 1 [] [(4, .slice A46 x49.length c47), (5, .int .i64 x51), (62, .slice A46 x49.length c47)] (ar (ar (ar trivial))) fun j => ?_
          obtain ⟨_, h118, r117, hO⟩ := w50.share hO (i := 0) rfl
          have hL := hL.trans h118
          have hO : Obs _ _ [_] := hO
          obtain ⟨c119, h120, hF⟩ := bind_some hF
          refine wpn_c0 hO (zdG r117 h120) rfl fun _ σ _ _ hO h121 h122 => ?_
          have hL := hL.trans h121
          have r117 := r117.le h121
          obtain ⟨rfl, rfl⟩ := h122
          have hO : Obs _ _ [_] := hO
          refine wpn_qa hO [] [(4, .slice A46 x49.length c47), (5, .int .i64 x51), (64, .bool (!c119))] (ar (ar (ar trivial))) fun j => ?_
          rcases ite_some hF with ⟨hb123, hF⟩ | ⟨hb123, hF⟩
          · refine wpn_cT (congrArg Value.bool hb123) ?_
            refine wpn_assoc ?_
            refine wpn_qa hO [] [(4, .slice none 0 0), (5, .int .i64 0), (6, .int .i64 5)] (ar (ar (ar trivial))) fun j => ?_
            refine wpn_rt ?_
            injection hF with hF
            subst hF
            have hO := hO.sel [] (by decide)
            exact hQ _ _ _ _ _ rfl hO hL ⟨_, rfl, rfl, (RdT.nil _ _)⟩
          · refine wpn_cF (congrArg Value.bool hb123) ?_
            refine wpn_sk ?_
            refine wpn_qa hO [] [(4, .slice A46 x49.length c47), (5, .int .i64 x51), (6, .int .i64 0)] (ar (ar (ar trivial))) fun j => ?_
            refine wpn_r1 ?_
            injection hF with hF
            subst hF
            have hO := hO.sel [] (by decide)
            exact hQ _ _ _ _ _ rfl hO hL ⟨_, rfl, rfl, r117⟩
theorem zfN {τ : Hp} {v0 : Value} {p0 : (List UInt8)} {p1 : Int} {p2 : Int} (r0 : RdT Ty.u8 τ v0 p0) {rr : ze × Int × Bool} (hF : zcV p0 p1 p2 = some rr) :
    Ctr Try.prog 63 #[v0, .int .i64 p1, .int .i64 p2] τ [] (fun v τ' vs' => ∃ (v0_2 : Value), v = .tuple #[.agg #[.int .i64 rr.1.From, .int .i64 rr.1.To, v0_2], .int .i64 rr.2.1, .bool rr.2.2] ∧ vs' = [] ∧ RdT zq τ' v0_2 rr.1.At) := by
  obtain ⟨A0, c0, rfl, -⟩ := r0.form
  refine ctr_of (args := [.slice A0 p0.length c0, .int .i64 p1, .int .i64 p2]) hm Try.func63 s63 rfl fun w0 σ hO Q hQ => ?_
  unfold zcV at hF
  have hL := Hp.le.refl τ
  show wpn _ _ a63.body _ _ _
  unfold a63
  dsimp only
  refine wpn_al hO fun b4 σ hO => ?_
  have hO : Obs _ _ [_] := hO
  refine wpn_qa hO [] [(0, .slice A0 p0.length c0), (1, .int .i64 p1), (2, .int .i64 p2), (6, .pointer (some ⟨b4, 0, none⟩))] (ar (ar (ar (ar trivial)))) fun j => ?_
  refine wpn_q hO 2 [] [(0, .slice A0 p0.length c0), (2, .int .i64 p2), (6, .pointer (some ⟨b4, 0, none⟩)), (13, .slice A0 p0.length c0), (14, .int .i64 p1)] (ar (ar (ar (ar (ar trivial))))) fun j => ?_
  obtain ⟨c5, h6, hF⟩ := bind_some hF
  refine wpn_c0 hO (zb3 r0 h6) rfl fun _ σ _ _ hO h7 h8 => ?_
  have hL := hL.trans h7
  have r0 := r0.le h7
  obtain ⟨rfl, rfl⟩ := h8
  have hO : Obs _ _ [_] := hO
  refine wpn_qa hO [] [(0, .slice A0 p0.length c0), (2, .int .i64 p2), (6, .pointer (some ⟨b4, 0, none⟩)), (7, .int .i64 c5.2.1), (9, .int .u64 c5.1), (10, .int .i64 c5.2.2)] (ar (ar (ar (ar (ar (ar trivial)))))) fun j => ?_
  refine wpn_assoc ?_
  refine wpn_qa hO [] [(0, .slice A0 p0.length c0), (2, .int .i64 p2), (6, .pointer (some ⟨b4, 0, none⟩)), (7, .int .i64 c5.2.1), (9, .int .u64 c5.1), (24, .bool ((c5.2.2 != 0) || (decide (c5.1 > 16777216))))] (And.intro (And.intro rfl rfl) (fun _ => ar (ar (ar (ar (ar (ar trivial))))))) fun j => ?_
  rcases ite_some hF with ⟨hb9, hF⟩ | ⟨hb9, hF⟩
  · refine wpn_cT (congrArg Value.bool hb9) ?_
    refine wpn_assoc ?_
    refine wpn_q hO 1 [0] [(6, .pointer (some ⟨b4, 0, none⟩)), (25, .agg #[(.int .i64 0), (.int .i64 0), (.slice none 0 0)])] (And.intro (And.intro rfl rfl) (ar (ar trivial))) fun j => ?_
    refine wpn_st hO (i := 0) rfl (off := 0) rfl rfl rfl rfl (Nat.le_of_ble_eq_true rfl) rfl fun σ hO => ?_
    have hO : Obs _ _ [_] := hO
    refine wpn_qa hO [] [(6, .pointer (some ⟨b4, 0, none⟩)), (7, .int .i64 0), (8, .bool false)] (ar (ar (ar trivial))) fun j => ?_
    refine wpn_rt ?_
    injection hF with hF
    subst hF
    have hV0 := hO.val (i := 0) rfl (off := 0) (agg := true) (n := 3) rfl
    have hO := hO.sel [] (by decide)
    exact hQ _ _ _ _ _ (resvs_c rfl (hV0) (resvs_t (resvs_t rfl))) hO hL ⟨_, rfl, rfl, (RdT.nil _ _)⟩
  · refine wpn_cF (congrArg Value.bool hb9) ?_
    refine wpn_sk ?_
    refine wpn_q hO 2 [] [(0, .slice A0 p0.length c0), (2, .int .i64 p2), (6, .pointer (some ⟨b4, 0, none⟩)), (9, .int .u64 c5.1), (27, .slice A0 p0.length c0), (28, .int .i64 c5.2.1)] (ar (ar (ar (ar (ar (ar trivial)))))) fun j => ?_
    obtain ⟨c10, h11, hF⟩ := bind_some hF
    refine wpn_c0 hO (zb3 r0 h11) rfl fun _ σ _ _ hO h12 h13 => ?_
    have hL := hL.trans h12
    have r0 := r0.le h12
    obtain ⟨rfl, rfl⟩ := h13
    have hO : Obs _ _ [_] := hO
    refine wpn_qa hO [] [(0, .slice A0 p0.length c0), (2, .int .i64 p2), (6, .pointer (some ⟨b4, 0, none⟩)), (7, .int .i64 c10.2.1), (9, .int .u64 c5.1), (10, .int .i64 c10.2.2), (11, .int .u64 c10.1)] (ar (ar (ar (ar (ar (ar (ar trivial))))))) fun j => ?_
    refine wpn_assoc ?_
    refine wpn_qa hO [] [(0, .slice A0 p0.length c0), (2, .int .i64 p2), (6, .pointer (some ⟨b4, 0, none⟩)), (7, .int .i64 c10.2.1), (9, .int .u64 c5.1), (11, .int .u64 c10.1), (38, .bool ((c10.2.2 != 0) || (decide (c10.1 > 16777216))))] (And.intro (And.intro rfl rfl) (fun _ => ar (ar (ar (ar (ar (ar (ar trivial)))))))) fun j => ?_
    rcases ite_some hF with ⟨hb14, hF⟩ | ⟨hb14, hF⟩
    · refine wpn_cT (congrArg Value.bool hb14) ?_
      refine wpn_assoc ?_
      refine wpn_q hO 1 [0] [(6, .pointer (some ⟨b4, 0, none⟩)), (39, .agg #[(.int .i64 0), (.int .i64 0), (.slice none 0 0)])] (And.intro (And.intro rfl rfl) (ar (ar trivial))) fun j => ?_
      refine wpn_st hO (i := 0) rfl (off := 0) rfl rfl rfl rfl (Nat.le_of_ble_eq_true rfl) rfl fun σ hO => ?_
      have hO : Obs _ _ [_] := hO
      refine wpn_qa hO [] [(6, .pointer (some ⟨b4, 0, none⟩)), (7, .int .i64 0), (8, .bool false)] (ar (ar (ar trivial))) fun j => ?_
      refine wpn_rt ?_
      injection hF with hF
      subst hF
      have hV0 := hO.val (i := 0) rfl (off := 0) (agg := true) (n := 3) rfl
      have hO := hO.sel [] (by decide)
      exact hQ _ _ _ _ _ (resvs_c rfl (hV0) (resvs_t (resvs_t rfl))) hO hL ⟨_, rfl, rfl, (RdT.nil _ _)⟩
    · refine wpn_cF (congrArg Value.bool hb14) ?_
      refine wpn_sk ?_
      refine wpn_q hO 5 [] [(0, .slice A0 p0.length c0), (6, .pointer (some ⟨b4, 0, none⟩)), (7, .int .i64 c10.2.1), (11, .int .u64 c10.1), (43, .int .i64 (IntKind.i64.wrap (p2 + (IntKind.i64.wrap c5.1)))), (44, .pointer (some ⟨b4, 0, none⟩))] (ar (ar (ar (ar (ar (ar trivial)))))) fun j => ?_
      refine wpn_st hO (i := 0) rfl (off := 0) rfl rfl rfl rfl (Nat.le_of_ble_eq_true rfl) rfl fun σ hO => ?_
      have hO : Obs _ _ [_] := hO
      refine wpn_nil ?_
      refine wpn_q hO 6 [0] [(0, .slice A0 p0.length c0), (6, .pointer (some ⟨b4, 0, none⟩)), (7, .int .i64 c10.2.1), (49, .int .i64 (IntKind.i64.wrap ((IntKind.i64.wrap (p2 + (IntKind.i64.wrap c5.1))) + (IntKind.i64.wrap c10.1)))), (50, .pointer (some ⟨b4, 1, none⟩))] (And.intro (And.intro rfl rfl) (ar (ar (ar (ar (ar trivial)))))) fun j => ?_
      refine wpn_st hO (i := 0) rfl (off := 1) rfl rfl rfl rfl (Nat.le_of_ble_eq_true rfl) rfl fun σ hO => ?_
      have hO : Obs _ _ [_] := hO
      refine wpn_nil ?_
      refine wpn_q hO 2 [] [(6, .pointer (some ⟨b4, 0, none⟩)), (52, .slice A0 p0.length c0), (53, .int .i64 c10.2.1)] (ar (ar (ar trivial))) fun j => ?_
      obtain ⟨c15, h16, hF⟩ := bind_some hF
      refine wpn_c0 hO (zey r0 h16) rfl fun _ σ _ _ hO h17 h18 => ?_
      have hL := hL.trans h17
      have r0 := r0.le h17
      obtain ⟨v19, rfl, rfl, r22⟩ := h18
      obtain ⟨A20, c21, rfl, -⟩ := r22.form
      have hO : Obs _ _ [_] := hO
      refine wpn_q hO 5 [] [(6, .pointer (some ⟨b4, 0, none⟩)), (55, .slice A20 c15.1.length c21), (56, .int .i64 c15.2.1), (57, .int .i64 c15.2.2), (58, .pointer (some ⟨b4, 2, none⟩))] (ar (ar (ar (ar (ar trivial))))) fun j => ?_
      refine wpn_st hO (i := 0) rfl (off := 2) rfl rfl rfl rfl (Nat.le_of_ble_eq_true rfl) rfl fun σ hO => ?_
      have hO : Obs _ _ [_] := hO
      refine wpn_qa hO [] [(6, .pointer (some ⟨b4, 0, none⟩)), (7, .int .i64 c15.2.1), (10, .int .i64 c15.2.2)] (ar (ar (ar trivial))) fun j => ?_
      refine wpn_q hO 7 [0, 0] [(6, .pointer (some ⟨b4, 0, none⟩)), (59, .agg #[(.int .i64 (IntKind.i64.wrap (p2 + (IntKind.i64.wrap c5.1)))), (.int .i64 (IntKind.i64.wrap ((IntKind.i64.wrap (p2 + (IntKind.i64.wrap c5.1))) + (IntKind.i64.wrap c10.1)))), (.slice A20 c15.1.length c21)]), (60, .int .i64 c15.2.1), (67, .bool ((c15.2.2 == 0) && (decide ((IntKind.i64.wrap ((IntKind.i64.wrap (p2 + (IntKind.i64.wrap c5.1))) + (IntKind.i64.wrap c10.1))) ≤ 16777216))))] (And.intro (And.intro rfl rfl) (And.intro (And.intro rfl rfl) (And.intro (And.intro rfl rfl) (fun _ => ar (ar (ar (ar trivial))))))) fun j => ?_
      refine wpn_st hO (i := 0) rfl (off := 0) rfl rfl rfl rfl (Nat.le_of_ble_eq_true rfl) rfl fun σ hO => ?_
      have hO : Obs _ _ [_] := hO
      refine wpn_qa hO [] [(6, .pointer (some ⟨b4, 0, none⟩)), (7, .int .i64 c15.2.1), (8, .bool ((c15.2.2 == 0) && (decide ((IntKind.i64.wrap ((IntKind.i64.wrap (p2 + (IntKind.i64.wrap c5.1))) + (IntKind.i64.wrap c10.1))) ≤ 16777216))))] (ar (ar (ar trivial))) fun j => ?_
      refine wpn_r1 ?_
      injection hF with hF
      subst hF
      have hV0 := hO.val (i := 0) rfl (off := 0) (agg := true) (n := 3) rfl
      have hO := hO.sel [] (by decide)
      exact hQ _ _ _ _ _ (resvs_c rfl (hV0) (resvs_t (resvs_t rfl))) hO hL ⟨_, rfl, rfl, r22⟩
theorem zfn {τ : Hp} {v0 : Value} {p0 : (List UInt8)} {p1 : Int} (r0 : RdT Ty.u8 τ v0 p0) {rr : (List ze) × Int × Int} (hF : zc9 p0 p1 = some rr) :
    Ctr Try.prog 55 #[v0, .int .i64 p1] τ [] (fun v τ' vs' => ∃ (v0 : Value), v = .tuple #[v0, .int .i64 rr.2.1, .int .i64 rr.2.2] ∧ vs' = [] ∧ RdT zk τ' v0 rr.1) := by
  obtain ⟨A0, c0, rfl, -⟩ := r0.form
  refine ctr_of (args := [.slice A0 p0.length c0, .int .i64 p1]) hm Try.func55 s55 rfl fun w0 σ hO Q hQ => ?_
  unfold zc9 at hF
  have hL := Hp.le.refl τ
  show wpn _ _ a55.body _ _ _
  unfold a55
  dsimp only
  refine wpn_qa hO [] [(0, .slice A0 p0.length c0), (1, .int .i64 p1), (4, .slice none 0 0)] (ar (ar (ar trivial))) fun j => ?_
  refine wpn_assoc ?_
  refine wpn_qa hO [] [(0, .slice A0 p0.length c0), (1, .int .i64 p1), (4, .slice none 0 0), (19, .bool ((decide (p1 < 0)) || (decide (p1 > (p0.length : Int)))))] (And.intro (And.intro rfl rfl) (fun _ => ar (ar (ar (ar trivial))))) fun j => ?_
  rcases ite_some hF with ⟨hb3, hF⟩ | ⟨hb3, hF⟩
  · refine wpn_cT (congrArg Value.bool hb3) ?_
    refine wpn_assoc ?_
    refine wpn_qa hO [] [(4, .slice none 0 0), (5, .int .i64 0), (6, .int .i64 1)] (ar (ar (ar trivial))) fun j => ?_
    refine wpn_rt ?_
    injection hF with hF
    subst hF
    exact hQ _ _ _ _ _ rfl hO hL ⟨_, rfl, rfl, (RdT.nil _ _)⟩
  · refine wpn_cF (congrArg Value.bool hb3) ?_
    refine wpn_sk ?_
    refine wpn_q hO 2 [] [(0, .slice A0 p0.length c0), (4, .slice none 0 0), (21, .slice A0 p0.length c0), (22, .int .i64 p1)] (ar (ar (ar (ar trivial)))) fun j => ?_
    obtain ⟨c4, h5, hF⟩ := bind_some hF
    refine wpn_c0 hO (zb3 r0 h5) rfl fun _ σ _ _ hO h6 h7 => ?_
    have hL := hL.trans h6
    have r0 := r0.le h6
    obtain ⟨rfl, rfl⟩ := h7
    have hO : Obs _ _ [] := hO
    refine wpn_qa hO [] [(0, .slice A0 p0.length c0), (4, .slice none 0 0), (5, .int .i64 c4.2.1), (6, .int .i64 c4.2.2), (7, .int .u64 c4.1)] (ar (ar (ar (ar (ar trivial))))) fun j => ?_
    refine wpn_assoc ?_
    refine wpn_qa hO [] [(0, .slice A0 p0.length c0), (4, .slice none 0 0), (5, .int .i64 c4.2.1), (7, .int .u64 c4.1), (32, .bool ((c4.2.2 != 0) || (decide (c4.1 > 4000))))] (And.intro (And.intro rfl rfl) (fun _ => ar (ar (ar (ar (ar trivial)))))) fun j => ?_
    rcases ite_some hF with ⟨hb8, hF⟩ | ⟨hb8, hF⟩
    · refine wpn_cT (congrArg Value.bool hb8) ?_
      refine wpn_assoc ?_
      refine wpn_qa hO [] [(4, .slice none 0 0), (5, .int .i64 0), (6, .int .i64 5)] (ar (ar (ar trivial))) fun j => ?_
      refine wpn_rt ?_
      injection hF with hF
      subst hF
      exact hQ _ _ _ _ _ rfl hO hL ⟨_, rfl, rfl, (RdT.nil _ _)⟩
    · refine wpn_cF (congrArg Value.bool hb8) ?_
      refine wpn_sk ?_
      refine wpn_qa hO [] [(0, .slice A0 p0.length c0), (4, .slice none 0 0), (5, .int .i64 c4.2.1), (7, .int .u64 c4.1), (8, .int .i64 0)] (ar (ar (ar (ar (ar trivial))))) fun j => ?_
      refine wpn_assoc ?_
      refine wpn_qa hO [] [(0, .slice A0 p0.length c0), (4, .slice none 0 0), (5, .int .i64 c4.2.1), (8, .int .i64 0), (33, .int .u64 c4.1), (34, .int .u64 0)] (ar (ar (ar (ar (ar (ar trivial)))))) fun j => ?_
      refine wpn_bl ?_
      have hO := hO.no
      have hO : Obs _ _ [_] := hO
      refine wpn_lp (fun (n : Nat) e' σ' => ∃ (A39 : Option Addr) (c40 : Nat) (o41 : Ob) (x42 : List ze) (x44 : Int) (x45 : Int) (x46 : Int) (τ' : Hp), agr [(0, .slice A0 p0.length c0), (4, .slice A39 x42.length c40), (5, .int .i64 x44), (8, .int .i64 x45), (33, .int .u64 c4.1), (34, .int .u64 x46)] e' ∧ Obs τ' σ' [o41] ∧ Hp.le τ τ' ∧ RdT Ty.u8 τ' (.slice A0 p0.length c0) p0 ∧ OwnO zk 55 τ' (.slice A39 x42.length c40) x42 o41 ∧ zbK p0 c4 n x42 x44 x45 x46 = some rr) big ⟨none, 0, none, [], c4.2.1, 0, 0, _, ar (ar (ar (ar (ar (ar trivial))))), hO, hL, r0, OwnO.nil _ _ _, hF⟩ ?_
      clear hF hO hL
      rintro n76 e σ ⟨A39, c40, o41, x42, x44, x45, x46, _, hA, hO, hL, r38, w43, hF⟩
      rw [← sets_agr _ _ hA]
      cases n76 with
      | zero => exact nomatch (show none = some rr from hF)
      | succ n76 =>
        replace hF : z1 (zbK p0 c4 n76) p0 c4 x42 x44 x45 x46 = some rr := hF
        unfold z1 at hF
        refine wpn_qa hO [] [(0, .slice A0 p0.length c0), (4, .slice A39 x42.length c40), (5, .int .i64 x44), (8, .int .i64 x45), (33, .int .u64 c4.1), (34, .int .u64 x46), (35, .bool (decide (x46 < c4.1)))] (ar (ar (ar (ar (ar (ar (ar trivial))))))) fun j => ?_
        rcases ite_some hF with ⟨hb77, hF⟩ | ⟨hb77, hF⟩
        · refine wpn_cT (congrArg Value.bool hb77) ?_
          refine wpn_sk ?_
          refine wpn_bl ?_
          refine wpn_q hO 3 [] [(0, .slice A0 p0.length c0), (4, .slice A39 x42.length c40), (33, .int .u64 c4.1), (34, .int .u64 x46), (37, .slice A0 p0.length c0), (38, .int .i64 x44), (39, .int .i64 x45)] (ar (ar (ar (ar (ar (ar (ar trivial))))))) fun j => ?_
          obtain ⟨c78, h79, hF⟩ := bind_some hF
          refine wpn_c0 hO (zfN r38 h79) rfl fun _ σ _ _ hO h80 h81 => ?_
          have hL := hL.trans h80
          have r38 := r38.le h80
          have w43 := w43.le h80
          obtain ⟨v82, rfl, rfl, r83⟩ := h81
          obtain ⟨A84, c85, rfl, -⟩ := r83.form
          have hO : Obs _ _ [_] := hO
          refine wpn_q hO 4 [] [(0, .slice A0 p0.length c0), (4, .slice A39 x42.length c40), (33, .int .u64 c4.1), (34, .int .u64 x46), (41, .agg #[(.int .i64 c78.1.From), (.int .i64 c78.1.To), (.slice A84 c78.1.At.length c85)]), (42, .int .i64 c78.2.1), (43, .bool c78.2.2)] (ar (ar (ar (ar (ar (ar (ar trivial))))))) fun j => ?_
          refine wpn_al hO fun b86 σ hO => ?_
          have hO : Obs _ _ [_, _] := hO
          refine wpn_st hO (i := 1) rfl (off := 0) rfl rfl rfl rfl (Nat.le_of_ble_eq_true rfl) rfl fun σ hO => ?_
          have hO : Obs _ _ [_, _] := hO
          refine wpn_qa hO [] [(0, .slice A0 p0.length c0), (4, .slice A39 x42.length c40), (9, .pointer (some ⟨b86, 0, none⟩)), (10, .int .i64 c78.2.1), (11, .bool c78.2.2), (33, .int .u64 c4.1), (34, .int .u64 x46)] (ar (ar (ar (ar (ar (ar (ar trivial))))))) fun j => ?_
          refine wpn_assoc ?_
          refine wpn_qa hO [] [(0, .slice A0 p0.length c0), (4, .slice A39 x42.length c40), (9, .pointer (some ⟨b86, 0, none⟩)), (10, .int .i64 c78.2.1), (33, .int .u64 c4.1), (34, .int .u64 x46), (45, .bool (!c78.2.2))] (ar (ar (ar (ar (ar (ar (ar trivial))))))) fun j => ?_
          rcases ite_some hF with ⟨hb87, hF⟩ | ⟨hb87, hF⟩
          · refine wpn_cT (congrArg Value.bool hb87) ?_
            refine wpn_assoc ?_
            refine wpn_qa hO [] [(4, .slice none 0 0), (5, .int .i64 0), (6, .int .i64 5)] (ar (ar (ar trivial))) fun j => ?_
            refine wpn_rt ?_
            refine inb_r1 ?_
            refine thn_r1 ?_
            refine thn_r1 ?_
            refine inb_r1 ?_
            refine thn_r1 ?_
            injection hF with hF
            subst hF
            have hO := hO.sel [] (by decide)
            exact hQ _ _ _ _ _ rfl hO hL ⟨_, rfl, rfl, (RdT.nil _ _)⟩
          · refine wpn_cF (congrArg Value.bool hb87) ?_
            refine wpn_sk ?_
            refine wpn_plast ?_
            refine wpn_q hO 5 [1, 1] [(0, .slice A0 p0.length c0), (33, .int .u64 c4.1), (34, .int .u64 x46), (46, .slice A39 x42.length c40), (47, .agg #[(.int .i64 c78.1.From), (.int .i64 c78.1.To), (.slice A84 c78.1.At.length c85)]), (50, .pointer (some ⟨b86, 1, none⟩)), (51, .int .i64 c78.1.To), (52, .int .i64 c78.2.1)] (And.intro (And.intro rfl rfl) (And.intro (And.intro rfl rfl) (ar (ar (ar (ar (ar (ar (ar (ar trivial)))))))))) fun j => ?_
            refine wpn_late ?_
            refine wpn_lit (T := zk) (l := ([(⟨c78.1.From, c78.1.To, c78.1.At⟩ : ze)] : List ze)) (cs := [.int .i64 c78.1.From, .int .i64 c78.1.To, .slice A84 c78.1.At.length c85]) hO rfl ⟨[.int .i64 c78.1.From, .int .i64 c78.1.To, .slice A84 c78.1.At.length c85], _, rfl, ⟨_, rfl, r83⟩, rfl⟩ rfl (by decide) fun _ σ o90 w91 hO => ?_
            obtain ⟨A88, c89, rfl, -⟩ := w91.form
            have hO : Obs _ _ [_, _, _] := hO
            refine wpn_nil ?_
            refine wpn_ag ⟨(again_ld rfl (hO.val (i := 1) (off := 1) (agg := false) (n := 1) rfl rfl) rfl), trivial⟩ ?_
            refine wpn_late ?_
            obtain ⟨_, h93, r92, hO⟩ := w91.share hO (i := 2) rfl
            have hL := hL.trans h93
            have r38 := r38.le h93
            have w43 := w43.le h93
            have r83 := r83.le h93
            have hO : Obs _ _ [_, _, _] := hO
            obtain ⟨_, hr98, hF⟩ := bind_some hF
            refine wpn_apl (T := zk) hO w43 (i := 0) rfl rfl rfl r92 hr98 (by decide) fun _ σ o96 w97 hO => ?_
            obtain ⟨A94, c95, rfl, -⟩ := w97.form
            have hO : Obs _ _ [_, _, _] := hO
            refine wpn_nil ?_
            refine wpn_ag ⟨(again_ld rfl (hO.val (i := 1) (off := 1) (agg := false) (n := 1) rfl rfl) rfl), trivial⟩ ?_
            refine wpn_late ?_
            refine wpn_qa hO [] [(0, .slice A0 p0.length c0), (4, .slice A94 (x42 ++ ([(⟨c78.1.From, c78.1.To, c78.1.At⟩ : ze)] : List ze)).length c95), (33, .int .u64 c4.1), (34, .int .u64 x46), (50, .pointer (some ⟨b86, 1, none⟩)), (51, .int .i64 c78.1.To), (52, .int .i64 c78.2.1)] (ar (ar (ar (ar (ar (ar (ar trivial))))))) fun j => ?_
            refine wpn_ag ⟨(again_ld rfl (hO.val (i := 1) (off := 1) (agg := false) (n := 1) rfl rfl) rfl), trivial⟩ ?_
            refine wpn_qa hO [] [(0, .slice A0 p0.length c0), (4, .slice A94 (x42 ++ ([(⟨c78.1.From, c78.1.To, c78.1.At⟩ : ze)] : List ze)).length c95), (5, .int .i64 c78.2.1), (8, .int .i64 c78.1.To), (33, .int .u64 c4.1), (34, .int .u64 x46)] (ar (ar (ar (ar (ar (ar trivial)))))) fun j => ?_
            refine wpn_end ?_
            refine inb_i ?_
            refine thn_i ?_
            refine wpn_rlast ?_
            refine wpn_qa hO [] [(0, .slice A0 p0.length c0), (4, .slice A94 (x42 ++ ([(⟨c78.1.From, c78.1.To, c78.1.At⟩ : ze)] : List ze)).length c95), (5, .int .i64 c78.2.1), (8, .int .i64 c78.1.To), (33, .int .u64 c4.1), (34, .int .u64 (IntKind.u64.wrap (x46 + 1)))] (ar (ar (ar (ar (ar (ar trivial)))))) fun j => ?_
            refine wpn_end ?_
            refine thn_i ?_
            have hO := hO.sel [0] (by decide)
            exact ⟨n76, Nat.lt_succ_self _, A94, c95, o96, (x42 ++ ([(⟨c78.1.From, c78.1.To, c78.1.At⟩ : ze)] : List ze)), c78.2.1, c78.1.To, (IntKind.u64.wrap (x46 + 1)), _, ar (ar (ar (ar (ar (ar trivial))))), hO, hL, r38, w97, hF⟩
        · refine wpn_cF (congrArg Value.bool hb77) ?_
          refine wpn_ex ?_
          refine thn_x ?_
          refine inb_x ?_
          refine thn_i ?_
          refine wpn_assoc ?_
          refine wpn_q hO 1 [] [(4, .slice A39 x42.length c40), (5, .int .i64 x44), (54, .slice A39 x42.length c40)] (ar (ar (ar trivial))) fun j => ?_
          obtain ⟨_, h100, r99, hO⟩ := w43.share hO (i := 0) rfl
          have hL := hL.trans h100
          have hO : Obs _ _ [_] := hO
          obtain ⟨c101, h102, hF⟩ := bind_some hF
          refine wpn_c0 hO (zdR r99 h102) rfl fun _ σ _ _ hO h103 h104 => ?_
          have hL := hL.trans h103
          have r99 := r99.le h103
          obtain ⟨rfl, rfl⟩ := h104
          have hO : Obs _ _ [_] := hO
          refine wpn_qa hO [] [(4, .slice A39 x42.length c40), (5, .int .i64 x44), (56, .bool (!c101))] (ar (ar (ar trivial))) fun j => ?_
          rcases ite_some hF with ⟨hb105, hF⟩ | ⟨hb105, hF⟩
          · refine wpn_cT (congrArg Value.bool hb105) ?_
            refine wpn_assoc ?_
            refine wpn_qa hO [] [(4, .slice none 0 0), (5, .int .i64 0), (6, .int .i64 5)] (ar (ar (ar trivial))) fun j => ?_
            refine wpn_rt ?_
            injection hF with hF
            subst hF
            have hO := hO.sel [] (by decide)
            exact hQ _ _ _ _ _ rfl hO hL ⟨_, rfl, rfl, (RdT.nil _ _)⟩
          · refine wpn_cF (congrArg Value.bool hb105) ?_
            refine wpn_sk ?_
            refine wpn_qa hO [] [(4, .slice A39 x42.length c40), (5, .int .i64 x44), (6, .int .i64 0)] (ar (ar (ar trivial))) fun j => ?_
            refine wpn_r1 ?_
            injection hF with hF
            subst hF
            have hO := hO.sel [] (by decide)
            exact hQ _ _ _ _ _ rfl hO hL ⟨_, rfl, rfl, r99⟩
theorem zfe {τ : Hp} {q0 : zd} {bm0 : Nat} {vm0_0 : Value} (rm0_0 : RdT Ty.u8 τ vm0_0 q0.b) {rr : (List ze) × zd} (hF : z5 q0 = some rr) :
    Ctr Try.prog 38 #[.pointer (some ⟨bm0, 0, none⟩)] τ [some (bm0, ⟨[vm0_0, .int .i64 q0.at_, .bool q0.failed], 82, 3, true⟩)] (fun v τ' vs' => ∃ (v0 : Value) (u0_0 : Value), v = v0 ∧ vs' = [some (bm0, ⟨[u0_0, .int .i64 rr.2.at_, .bool rr.2.failed], 82, 3, true⟩)] ∧ RdT zk τ' v0 rr.1 ∧ RdT Ty.u8 τ' u0_0 rr.2.b) := by
  obtain ⟨Am0_0, cm0_0, rfl, -⟩ := rm0_0.form
  refine ctr_of (args := [.pointer (some ⟨bm0, 0, none⟩)]) hm Try.func38 s38 rfl fun w0 σ hO Q hQ => ?_
  unfold z5 at hF
  have hL := Hp.le.refl τ
  show wpn _ _ a38.body _ _ _
  unfold a38
  dsimp only
  refine wpn_qa hO [] [(0, .pointer (some ⟨bm0, 0, none⟩))] (ar trivial) fun j => ?_
  refine wpn_p2r ?_
  refine wpn_q hO 8 [0, 0] [(0, .pointer (some ⟨bm0, 0, none⟩)), (10, .slice Am0_0 q0.b.length cm0_0), (14, .int .i64 q0.at_)] (And.intro (And.intro rfl rfl) (And.intro (And.intro rfl rfl) (ar (ar (ar trivial))))) fun j => ?_
  obtain ⟨c2, h3, hF⟩ := bind_some hF
  refine wpn_c0 hO (zfn rm0_0 h3) rfl fun _ σ _ _ hO h4 h5 => ?_
  have hL := hL.trans h4
  have rm0_0 := rm0_0.le h4
  obtain ⟨v6, rfl, rfl, r9⟩ := h5
  obtain ⟨A7, c8, rfl, -⟩ := r9.form
  have hO : Obs _ _ [_] := hO
  refine wpn_qa hO [] [(0, .pointer (some ⟨bm0, 0, none⟩)), (3, .slice A7 c2.1.length c8), (4, .int .i64 c2.2.1), (5, .int .i64 c2.2.2)] (ar (ar (ar (ar trivial)))) fun j => ?_
  refine wpn_assoc ?_
  refine wpn_qa hO [0] [(0, .pointer (some ⟨bm0, 0, none⟩)), (3, .slice A7 c2.1.length c8), (4, .int .i64 c2.2.1), (26, .bool (q0.failed || (c2.2.2 != 0)))] (And.intro (And.intro rfl rfl) (And.intro (And.intro rfl rfl) (fun _ => ar (ar (ar (ar trivial)))))) fun j => ?_
  rcases ite_some hF with ⟨hb10, hF⟩ | ⟨hb10, hF⟩
  · refine wpn_cT (congrArg Value.bool hb10) ?_
    refine wpn_assoc ?_
    refine wpn_q hO 3 [] [(0, .pointer (some ⟨bm0, 0, none⟩)), (29, .pointer (some ⟨bm0, 2, none⟩))] (ar (ar trivial)) fun j => ?_
    refine wpn_st hO (i := 0) rfl (off := 2) rfl rfl rfl rfl (Nat.le_of_ble_eq_true rfl) rfl fun σ hO => ?_
    have hO : Obs _ _ [_] := hO
    refine wpn_nil ?_
    refine wpn_assoc ?_
    refine wpn_qa hO [] [(0, .pointer (some ⟨bm0, 0, none⟩)), (2, .slice none 0 0)] (ar (ar trivial)) fun j => ?_
    refine wpn_rt ?_
    injection hF with hF
    subst hF
    exact hQ _ _ _ _ _ rfl hO hL ⟨_, _, rfl, rfl, (RdT.nil _ _), rm0_0⟩
  · refine wpn_cF (congrArg Value.bool hb10) ?_
    refine wpn_sk ?_
    refine wpn_q hO 4 [] [(0, .pointer (some ⟨bm0, 0, none⟩)), (3, .slice A7 c2.1.length c8), (31, .int .i64 c2.2.1), (33, .pointer (some ⟨bm0, 1, none⟩))] (ar (ar (ar (ar trivial)))) fun j => ?_
    refine wpn_st hO (i := 0) rfl (off := 1) rfl rfl rfl rfl (Nat.le_of_ble_eq_true rfl) rfl fun σ hO => ?_
    have hO : Obs _ _ [_] := hO
    refine wpn_nil ?_
    refine wpn_qa hO [] [(0, .pointer (some ⟨bm0, 0, none⟩)), (2, .slice A7 c2.1.length c8)] (ar (ar trivial)) fun j => ?_
    refine wpn_r1 ?_
    injection hF with hF
    subst hF
    exact hQ _ _ _ _ _ rfl hO hL ⟨_, _, rfl, rfl, r9, rm0_0⟩
theorem zeS {τ : Hp} {qf0 : zd} {bmf0 : Nat} {vmf0_0 : Value} {af0 : Addr} {qf1 : zc} {bmf1 : Nat} {vmf1_3 : Value} {vmf1_4 : Value} {omf1_4 : Ob} (rmf0_0 : RdT Ty.u8 τ vmf0_0 qf0.b) (mf0 : At τ af0 [.pointer (some ⟨bmf0, 0, none⟩)]) (rmf1_3 : RdT zn τ vmf1_3 qf1.Vars) (wmf1_4 : OwnO (Ty.slice zk) 56 τ vmf1_4 qf1.Spans omf1_4) {rr : zh × zd × zc} (hF : zS qf0 qf1 = some rr) :
    Ctr Try.prog 36 #[.pointer (some af0), .pointer (some ⟨bmf1, 0, none⟩)] τ [some (bmf0, ⟨[vmf0_0, .int .i64 qf0.at_, .bool qf0.failed], 82, 3, true⟩), some (bmf1, ⟨[.string qf1.Name, .int .i64 qf1.From, .int .i64 qf1.To, vmf1_3, vmf1_4], 50, 5, true⟩), omf1_4] (fun v τ' vs' => ∃ (v0_5 : Value) (u0_0 : Value) (u1_3 : Value) (u1_4 : Value) (y1_4 : Ob), v = .agg #[.string rr.1.Name, .int .u8 rr.1.Type_.Kind.toNat, .int .i64 rr.1.Type_.N, .string rr.1.Type_.Name, .int .i64 rr.1.Words, v0_5] ∧ vs' = [some (bmf0, ⟨[u0_0, .int .i64 rr.2.1.at_, .bool rr.2.1.failed], 82, 3, true⟩), some (bmf1, ⟨[.string rr.2.2.Name, .int .i64 rr.2.2.From, .int .i64 rr.2.2.To, u1_3, u1_4], 50, 5, true⟩), y1_4] ∧ RdT Ty.str τ' v0_5 rr.1.Fields ∧ RdT Ty.u8 τ' u0_0 rr.2.1.b ∧ RdT zn τ' u1_3 rr.2.2.Vars ∧ OwnO (Ty.slice zk) 56 τ' u1_4 rr.2.2.Spans y1_4) := by
  obtain ⟨Amf0_0, cmf0_0, rfl, -⟩ := rmf0_0.form
  obtain ⟨Amf1_3, cmf1_3, rfl, -⟩ := rmf1_3.form
  obtain ⟨Amf1_4, cmf1_4, rfl, -⟩ := wmf1_4.form
  refine ctr_of (args := [.pointer (some af0), .pointer (some ⟨bmf1, 0, none⟩)]) hm Try.func36 s36 rfl fun w0 σ hO Q hQ => ?_
  unfold zS at hF
  have hL := Hp.le.refl τ
  show wpn _ _ a36.body _ _ _
  unfold a36
  dsimp only
  refine wpn_al hO fun b1 σ hO => ?_
  have hO : Obs _ _ [_, _, _, _] := hO
  refine wpn_nil ?_
  refine wpn_ld rfl (mf0.le hO.base).fst ?_
  obtain ⟨c2, h3, hF⟩ := bind_some hF
  have hO := hO.sel [1, 2, 3, 0] (by decide)
  refine wpn_c (hs := [_, _, _]) (vs := [_]) hO (zeT (q0 := (⟨qf0.b, qf0.at_, qf0.failed⟩ : zd)) rmf0_0 h3) rfl fun _ σ _ _ hO h4 h5 => ?_
  have hL := hL.trans h4
  have mf0 := mf0.le h4
  have rmf1_3 := rmf1_3.le h4
  have wmf1_4 := wmf1_4.le h4
  obtain ⟨v6, v10, rfl, rfl, r7, r13⟩ := h5
  obtain ⟨A8, c9, rfl, -⟩ := r7.form
  obtain ⟨A11, c12, rfl, -⟩ := r13.form
  have hO : Obs _ _ [_, _, _, _] := hO
  refine wpn_al hO fun b14 σ hO => ?_
  have hO : Obs _ _ [_, _, _, _, _] := hO
  refine wpn_st hO (i := 4) rfl (off := 0) rfl rfl rfl rfl (Nat.le_of_ble_eq_true rfl) rfl fun σ hO => ?_
  have hO : Obs _ _ [_, _, _, _, _] := hO
  refine wpn_nil ?_
  refine wpn_p2r ?_
  refine wpn_q hO 2 [0] [(0, .pointer (some af0)), (1, .pointer (some ⟨bmf1, 0, none⟩)), (2, .pointer (some ⟨b1, 0, none⟩)), (3, .pointer (some ⟨b14, 0, none⟩)), (6, .pointer (some ⟨bmf1, 4, none⟩)), (7, .slice Amf1_4 qf1.Spans.length cmf1_4)] (And.intro (And.intro rfl rfl) (ar (ar (ar (ar (ar (ar trivial))))))) fun j => ?_
  refine wpn_ld rfl (mf0.le hO.base).fst ?_
  refine wpn_late ?_
  obtain ⟨c15, h16, hF⟩ := bind_some hF
  have hO := hO.sel [0, 1, 2, 4, 3] (by decide)
  refine wpn_c (hs := [_, _, _, _]) (vs := [_]) hO (zfe (q0 := (⟨c2.2.b, c2.2.at_, c2.2.failed⟩ : zd)) r13 h16) rfl fun _ σ _ _ hO h17 h18 => ?_
  have hL := hL.trans h17
  have mf0 := mf0.le h17
  have wmf1_4 := wmf1_4.le h17
  have rmf1_3 := rmf1_3.le h17
  have r7 := r7.le h17
  obtain ⟨v19, v23, rfl, rfl, r22, r26⟩ := h18
  obtain ⟨A20, c21, rfl, -⟩ := r22.form
  obtain ⟨A24, c25, rfl, -⟩ := r26.form
  have hO : Obs _ _ [_, _, _, _, _] := hO
  refine wpn_nil ?_
  refine wpn_ag ⟨(again_ld rfl (hO.val (i := 0) (off := 4) (agg := false) (n := 1) rfl rfl) rfl), trivial⟩ ?_
  refine wpn_late ?_
  refine wpn_lit (T := (Ty.slice zk)) (l := ([c15.1] : List (List ze))) (cs := [.slice A20 c15.1.length c21]) hO rfl ⟨[.slice A20 c15.1.length c21], _, rfl, ⟨_, rfl, r22⟩, rfl⟩ rfl (by decide) fun _ σ o29 w30 hO => ?_
  obtain ⟨A27, c28, rfl, -⟩ := w30.form
  have hO : Obs _ _ [_, _, _, _, _, _] := hO
  refine wpn_nil ?_
  refine wpn_ag ⟨(again_ld rfl (hO.val (i := 0) (off := 4) (agg := false) (n := 1) rfl rfl) rfl), trivial⟩ ?_
  obtain ⟨_, h32, r31, hO⟩ := w30.share hO (i := 5) rfl
  have hL := hL.trans h32
  have mf0 := mf0.le h32
  have wmf1_4 := wmf1_4.le h32
  have r22 := r22.le h32
  have rmf1_3 := rmf1_3.le h32
  have r7 := r7.le h32
  have r26 := r26.le h32
  have hO : Obs _ _ [_, _, _, _, _, _] := hO
  obtain ⟨_, hr37, hF⟩ := bind_some hF
  refine wpn_apl (T := (Ty.slice zk)) hO wmf1_4 (i := 1) rfl rfl rfl r31 hr37 (by decide) fun _ σ o35 w36 hO => ?_
  obtain ⟨A33, c34, rfl, -⟩ := w36.form
  have hO : Obs _ _ [_, _, _, _, _, _] := hO
  refine wpn_q hO 1 [] [(0, .pointer (some af0)), (1, .pointer (some ⟨bmf1, 0, none⟩)), (2, .pointer (some ⟨b1, 0, none⟩)), (3, .pointer (some ⟨b14, 0, none⟩)), (11, .slice A33 (qf1.Spans ++ ([c15.1] : List (List ze))).length c34), (12, .pointer (some ⟨bmf1, 4, none⟩))] (ar (ar (ar (ar (ar (ar trivial)))))) fun j => ?_
  refine wpn_st hO (i := 0) rfl (off := 4) rfl rfl rfl rfl (Nat.le_of_ble_eq_true rfl) rfl fun σ hO => ?_
  have hO : Obs _ _ [_, _, _, _, _, _] := hO
  refine wpn_nil ?_
  refine wpn_q hO 1 [3] [(0, .pointer (some af0)), (1, .pointer (some ⟨bmf1, 0, none⟩)), (2, .pointer (some ⟨b1, 0, none⟩)), (13, .agg #[(.string c2.1.Name), (.int .u8 (c2.1.Type_.Kind.toNat : Int)), (.int .i64 c2.1.Type_.N), (.string c2.1.Type_.Name), (.int .i64 c2.1.Words), (.slice A8 c2.1.Fields.length c9)])] (And.intro (And.intro rfl rfl) (ar (ar (ar (ar trivial))))) fun j => ?_
  refine wpn_st hO (i := 2) rfl (off := 0) rfl rfl rfl rfl (Nat.le_of_ble_eq_true rfl) rfl fun σ hO => ?_
  have hO : Obs _ _ [_, _, _, _, _, _] := hO
  refine wpn_nil ?_
  refine wpn_r1 ?_
  injection hF with hF
  subst hF
  have hV0 := hO.val (i := 2) rfl (off := 0) (agg := true) (n := 6) rfl
  have hO := hO.sel [4, 0, 1] (by decide)
  exact hQ _ _ _ _ _ (resvs_c rfl (hV0) rfl) hO hL ⟨_, _, _, _, _, rfl, rfl, r7, r26, rmf1_3, w36⟩
theorem zfq {τ : Hp} {q0 : zd} {bm0 : Nat} {vm0_0 : Value} {p1 : Int} {a2_0 : Addr} {q2_1 : zc} {bm2_1 : Nat} {vm2_1_3 : Value} {vm2_1_4 : Value} {om2_1_4 : Ob} (rm0_0 : RdT Ty.u8 τ vm0_0 q0.b) (m2_0 : At τ a2_0 [.pointer (some ⟨bm0, 0, none⟩)]) (rm2_1_3 : RdT zn τ vm2_1_3 q2_1.Vars) (wm2_1_4 : OwnO (Ty.slice zk) 56 τ vm2_1_4 q2_1.Spans om2_1_4) {rr : (List zh) × zd × zc} (hF : zcl q0 p1 q2_1 = some rr) :
    Ctr Try.prog 35 #[.pointer (some ⟨bm0, 0, none⟩), .int .i64 p1, .func (.func 36) #[] #[(.pointer (some a2_0)), (.pointer (some ⟨bm2_1, 0, none⟩))]] τ [some (bm0, ⟨[vm0_0, .int .i64 q0.at_, .bool q0.failed], 82, 3, true⟩), some (bm2_1, ⟨[.string q2_1.Name, .int .i64 q2_1.From, .int .i64 q2_1.To, vm2_1_3, vm2_1_4], 50, 5, true⟩), om2_1_4] (fun v τ' vs' => ∃ (v0 : Value) (o0 : Ob) (u0_0 : Value) (u1_3 : Value) (u1_4 : Value) (y1_4 : Ob), v = v0 ∧ vs' = [o0, some (bm0, ⟨[u0_0, .int .i64 rr.2.1.at_, .bool rr.2.1.failed], 82, 3, true⟩), some (bm2_1, ⟨[.string rr.2.2.Name, .int .i64 rr.2.2.From, .int .i64 rr.2.2.To, u1_3, u1_4], 50, 5, true⟩), y1_4] ∧ OwnO zn 64 τ' v0 rr.1 o0 ∧ RdT Ty.u8 τ' u0_0 rr.2.1.b ∧ RdT zn τ' u1_3 rr.2.2.Vars ∧ OwnO (Ty.slice zk) 56 τ' u1_4 rr.2.2.Spans y1_4) := by
  obtain ⟨Am0_0, cm0_0, rfl, -⟩ := rm0_0.form
  obtain ⟨Am2_1_3, cm2_1_3, rfl, -⟩ := rm2_1_3.form
  obtain ⟨Am2_1_4, cm2_1_4, rfl, -⟩ := wm2_1_4.form
  refine ctr_of (args := [.pointer (some ⟨bm0, 0, none⟩), .int .i64 p1, .func (.func 36) #[] #[(.pointer (some a2_0)), (.pointer (some ⟨bm2_1, 0, none⟩))]]) hm Try.func35 s35 rfl fun w0 σ hO Q hQ => ?_
  unfold zcl at hF
  have hL := Hp.le.refl τ
  show wpn _ _ a35.body _ _ _
  unfold a35
  dsimp only
  refine wpn_qa hO [] [(0, .pointer (some ⟨bm0, 0, none⟩)), (1, .int .i64 p1), (2, .func (.func 36) #[] #[(.pointer (some a2_0)), (.pointer (some ⟨bm2_1, 0, none⟩))])] (ar (ar (ar trivial))) fun j => ?_
  refine wpn_qa hO [] [(0, .pointer (some ⟨bm0, 0, none⟩)), (1, .int .i64 p1), (2, .func (.func 36) #[] #[(.pointer (some a2_0)), (.pointer (some ⟨bm2_1, 0, none⟩))]), (7, .slice none 0 0)] (ar (ar (ar (ar trivial)))) fun j => ?_
  refine wpn_assoc ?_
  refine wpn_q hO 2 [] [(0, .pointer (some ⟨bm0, 0, none⟩)), (2, .func (.func 36) #[] #[(.pointer (some a2_0)), (.pointer (some ⟨bm2_1, 0, none⟩))]), (7, .slice none 0 0), (9, .pointer (some ⟨bm0, 0, none⟩)), (10, .int .i64 p1)] (ar (ar (ar (ar (ar trivial))))) fun j => ?_
  obtain ⟨c4, h5, hF⟩ := bind_some hF
  have hO := hO.sel [1, 2, 0] (by decide)
  refine wpn_c (hs := [_, _]) (vs := [_]) hO (zw (q0 := (⟨q0.b, q0.at_, q0.failed⟩ : zd)) rm0_0 h5) rfl fun _ σ _ _ hO h6 h7 => ?_
  have hL := hL.trans h6
  have m2_0 := m2_0.le h6
  have rm2_1_3 := rm2_1_3.le h6
  have wm2_1_4 := wm2_1_4.le h6
  obtain ⟨v8, rfl, rfl, r11⟩ := h7
  obtain ⟨A9, c10, rfl, -⟩ := r11.form
  have hO : Obs _ _ [_, _, _] := hO
  refine wpn_qa hO [] [(0, .pointer (some ⟨bm0, 0, none⟩)), (2, .func (.func 36) #[] #[(.pointer (some a2_0)), (.pointer (some ⟨bm2_1, 0, none⟩))]), (7, .slice none 0 0), (8, .int .i64 c4.1)] (ar (ar (ar (ar trivial)))) fun j => ?_
  refine wpn_bl ?_
  have hO := hO.no
  have hO : Obs _ _ [_, _, _, _] := hO
  have hO := hO.sel [2, 0, 1, 3] (by decide)
  refine wpn_lp (fun (n : Nat) e' σ' => ∃ (A48 : Option Addr) (c49 : Nat) (x50 : List UInt8) (x52 : Int) (x53 : Bool) (x55 : ByteArray) (x56 : Int) (x57 : Int) (A58 : Option Addr) (c59 : Nat) (x60 : List zh) (A62 : Option Addr) (c63 : Nat) (o64 : Ob) (x65 : List (List ze)) (A67 : Option Addr) (c68 : Nat) (o69 : Ob) (x70 : List zh) (x72 : Int) (τ' : Hp), agr [(0, .pointer (some ⟨bm0, 0, none⟩)), (2, .func (.func 36) #[] #[(.pointer (some a2_0)), (.pointer (some ⟨bm2_1, 0, none⟩))]), (7, .slice A67 x70.length c68), (8, .int .i64 x72)] e' ∧ Obs τ' σ' [some (bm0, ⟨[.slice A48 x50.length c49, .int .i64 x52, .bool x53], 82, 3, true⟩), some (bm2_1, ⟨[.string x55, .int .i64 x56, .int .i64 x57, .slice A58 x60.length c59, .slice A62 x65.length c63], 50, 5, true⟩), o64, o69] ∧ Hp.le τ τ' ∧ RdT Ty.u8 τ' (.slice A48 x50.length c49) x50 ∧ At τ' a2_0 [.pointer (some ⟨bm0, 0, none⟩)] ∧ RdT zn τ' (.slice A58 x60.length c59) x60 ∧ OwnO (Ty.slice zk) 56 τ' (.slice A62 x65.length c63) x65 o64 ∧ OwnO zn 64 τ' (.slice A67 x70.length c68) x70 o69 ∧ zcs  n x50 x52 x53 x55 x56 x57 x60 x65 x70 x72 = some rr) big ⟨A9, c10, c4.2.b, c4.2.at_, c4.2.failed, q2_1.Name, q2_1.From, q2_1.To, Am2_1_3, cm2_1_3, q2_1.Vars, Am2_1_4, cm2_1_4, om2_1_4, q2_1.Spans, none, 0, none, [], c4.1, _, ar (ar (ar (ar trivial))), hO, hL, r11, m2_0, rm2_1_3, wm2_1_4, OwnO.nil _ _ _, hF⟩ ?_
  clear hF hO hL
  rintro n100 e σ ⟨A48, c49, x50, x52, x53, x55, x56, x57, A58, c59, x60, A62, c63, o64, x65, A67, c68, o69, x70, x72, _, hA, hO, hL, r51, m54, r61, w66, w71, hF⟩
  rw [← sets_agr _ _ hA]
  cases n100 with
  | zero => exact nomatch (show none = some rr from hF)
  | succ n100 =>
    replace hF : zdF (zcs  n100) x50 x52 x53 x55 x56 x57 x60 x65 x70 x72 = some rr := hF
    unfold zdF at hF
    refine wpn_assoc ?_
    refine wpn_qa hO [0] [(0, .pointer (some ⟨bm0, 0, none⟩)), (2, .func (.func 36) #[] #[(.pointer (some a2_0)), (.pointer (some ⟨bm2_1, 0, none⟩))]), (7, .slice A67 x70.length c68), (8, .int .i64 x72), (20, .bool ((decide (x72 > 0)) && (!x53)))] (And.intro (And.intro rfl rfl) (And.intro (And.intro rfl rfl) (fun _ => ar (ar (ar (ar (ar trivial))))))) fun j => ?_
    rcases ite_some hF with ⟨hb101, hF⟩ | ⟨hb101, hF⟩
    · refine wpn_cT (congrArg Value.bool hb101) ?_
      refine wpn_sk ?_
      refine wpn_bl ?_
      refine wpn_rlast ?_
      refine wpn_q hO 2 [] [(0, .pointer (some ⟨bm0, 0, none⟩)), (2, .func (.func 36) #[] #[(.pointer (some a2_0)), (.pointer (some ⟨bm2_1, 0, none⟩))]), (8, .int .i64 x72), (23, .slice A67 x70.length c68), (24, .func (.func 36) #[] #[(.pointer (some a2_0)), (.pointer (some ⟨bm2_1, 0, none⟩))])] (ar (ar (ar (ar (ar trivial))))) fun j => ?_
      obtain ⟨c102, h103, hF⟩ := bind_some hF
      have hO := hO.sel [3, 0, 1, 2] (by decide)
      refine wpn_cv (hs := [_]) (vs := [_, _, _]) rfl (by kernel_rfl) hO (zeS (qf0 := (⟨x50, x52, x53⟩ : zd)) (qf1 := (⟨x55, x56, x57, x60, x65⟩ : zc)) r51 m54 r61 w66 h103) rfl fun _ σ _ _ hO h104 h105 => ?_
      have hL := hL.trans h104
      have m54 := m54.le h104
      have w71 := w71.le h104
      obtain ⟨v106, v110, v114, v118, o121, rfl, rfl, r107, r113, r117, w122⟩ := h105
      obtain ⟨A108, c109, rfl, -⟩ := r107.form
      obtain ⟨A111, c112, rfl, -⟩ := r113.form
      obtain ⟨A115, c116, rfl, -⟩ := r117.form
      obtain ⟨A119, c120, rfl, -⟩ := w122.form
      have hO : Obs _ _ [_, _, _, _] := hO
      obtain ⟨_, hr127, hF⟩ := bind_some hF
      refine wpn_ap1 (T := zn) (y := (⟨c102.1.Name, (⟨c102.1.Type_.Kind, c102.1.Type_.N, c102.1.Type_.Name⟩ : zp), c102.1.Words, c102.1.Fields⟩ : zh)) hO w71 (i := 0) rfl rfl (fun _ => rfl) rfl ⟨_, rfl, r107⟩ rfl hr127 (by decide) fun u _ σ o125 w126 hO => ?_
      obtain ⟨A123, c124, rfl, -⟩ := w126.form
      have hO : Obs _ _ [_, _, _, _] := hO
      refine wpn_qa hO [] [(0, .pointer (some ⟨bm0, 0, none⟩)), (2, .func (.func 36) #[] #[(.pointer (some a2_0)), (.pointer (some ⟨bm2_1, 0, none⟩))]), (7, .slice A123 (x70 ++ [(⟨c102.1.Name, (⟨c102.1.Type_.Kind, c102.1.Type_.N, c102.1.Type_.Name⟩ : zp), c102.1.Words, c102.1.Fields⟩ : zh)]).length c124), (8, .int .i64 x72)] (ar (ar (ar (ar trivial)))) fun j => ?_
      refine wpn_end ?_
      refine inb_i ?_
      refine thn_i ?_
      refine wpn_rlast ?_
      refine wpn_qa hO [] [(0, .pointer (some ⟨bm0, 0, none⟩)), (2, .func (.func 36) #[] #[(.pointer (some a2_0)), (.pointer (some ⟨bm2_1, 0, none⟩))]), (7, .slice A123 (x70 ++ [(⟨c102.1.Name, (⟨c102.1.Type_.Kind, c102.1.Type_.N, c102.1.Type_.Name⟩ : zp), c102.1.Words, c102.1.Fields⟩ : zh)]).length c124), (8, .int .i64 (IntKind.i64.wrap (x72 - 1)))] (ar (ar (ar (ar trivial)))) fun j => ?_
      refine wpn_end ?_
      refine thn_i ?_
      have hO := hO.sel [1, 2, 3, 0] (by decide)
      exact ⟨n100, Nat.lt_succ_self _, A111, c112, c102.2.1.b, c102.2.1.at_, c102.2.1.failed, c102.2.2.Name, c102.2.2.From, c102.2.2.To, A115, c116, c102.2.2.Vars, A119, c120, o121, c102.2.2.Spans, A123, c124, o125, (x70 ++ [(⟨c102.1.Name, (⟨c102.1.Type_.Kind, c102.1.Type_.N, c102.1.Type_.Name⟩ : zp), c102.1.Words, c102.1.Fields⟩ : zh)]), (IntKind.i64.wrap (x72 - 1)), _, ar (ar (ar (ar trivial))), hO, hL, r113, m54, r117, w122, w126, hF⟩
    · refine wpn_cF (congrArg Value.bool hb101) ?_
      refine wpn_ex ?_
      refine thn_x ?_
      refine inb_x ?_
      refine thn_i ?_
      refine wpn_qa hO [] [(0, .pointer (some ⟨bm0, 0, none⟩)), (2, .func (.func 36) #[] #[(.pointer (some a2_0)), (.pointer (some ⟨bm2_1, 0, none⟩))]), (6, .slice A67 x70.length c68)] (ar (ar (ar trivial))) fun j => ?_
      refine wpn_r1 ?_
      injection hF with hF
      subst hF
      have hO := hO.sel [3, 0, 1, 2] (by decide)
      exact hQ _ _ _ _ _ rfl hO hL ⟨_, _, _, _, _, _, rfl, rfl, w71, r51, r61, w66⟩
theorem ze2 {τ : Hp} {qf0 : zd} {bmf0 : Nat} {vmf0_0 : Value} {af0 : Addr} {qf1 : Int} {bmf1 : Nat} (rmf0_0 : RdT Ty.u8 τ vmf0_0 qf0.b) (mf0 : At τ af0 [.pointer (some ⟨bmf0, 0, none⟩)]) {rr : zc × zd × Int} (hF : zO qf0 qf1 = some rr) :
    Ctr Try.prog 32 #[.pointer (some af0), .pointer (some ⟨bmf1, 0, none⟩)] τ [some (bmf0, ⟨[vmf0_0, .int .i64 qf0.at_, .bool qf0.failed], 82, 3, true⟩), some (bmf1, ⟨[.int .i64 qf1], 3, 1, true⟩)] (fun v τ' vs' => ∃ (v0_3 : Value) (v0_4 : Value) (u0_0 : Value), v = .agg #[.string rr.1.Name, .int .i64 rr.1.From, .int .i64 rr.1.To, v0_3, v0_4] ∧ vs' = [some (bmf0, ⟨[u0_0, .int .i64 rr.2.1.at_, .bool rr.2.1.failed], 82, 3, true⟩), some (bmf1, ⟨[.int .i64 rr.2.2], 3, 1, true⟩)] ∧ RdT zn τ' v0_3 rr.1.Vars ∧ RdT (Ty.slice zk) τ' v0_4 rr.1.Spans ∧ RdT Ty.u8 τ' u0_0 rr.2.1.b) := by
  obtain ⟨Amf0_0, cmf0_0, rfl, -⟩ := rmf0_0.form
  refine ctr_of (args := [.pointer (some af0), .pointer (some ⟨bmf1, 0, none⟩)]) hm Try.func32 s32 rfl fun w0 σ hO Q hQ => ?_
  unfold zO at hF
  have hL := Hp.le.refl τ
  show wpn _ _ a32.body _ _ _
  unfold a32
  dsimp only
  refine wpn_al hO fun b1 σ hO => ?_
  have hO : Obs _ _ [_, _, _] := hO
  refine wpn_nil ?_
  refine wpn_pq ?_
  refine wpn_ld rfl (mf0.le hO.base).fst ?_
  refine wpn_nil ?_
  refine wpn_pq ?_
  refine wpn_qa hO [1] [(0, .pointer (some af0)), (1, .pointer (some ⟨bmf1, 0, none⟩)), (2, .pointer (some ⟨b1, 0, none⟩)), (4, .pointer (some ⟨bmf0, 0, none⟩)), (6, .int .i64 qf1)] (And.intro (And.intro rfl rfl) (ar (ar (ar (ar (ar trivial)))))) fun j => ?_
  refine wpn_pq ?_
  refine wpn_ld rfl (mf0.le hO.base).fst ?_
  refine wpn_nil ?_
  refine wpn_cut (fun e' σ' => ∃ (A19 : Option Addr) (c20 : Nat) (x21 : List UInt8) (x23 : Int) (x24 : Bool) (b26 : Nat) (x27 : ByteArray) (x28 : Int) (τ' : Hp), agr [(0, .pointer (some af0)), (1, .pointer (some ⟨bmf1, 0, none⟩)), (2, .pointer (some ⟨b1, 0, none⟩)), (3, .pointer (some ⟨b26, 0, none⟩))] e' ∧ Obs τ' σ' [some (bmf0, ⟨[.slice A19 x21.length c20, .int .i64 x23, .bool x24], 82, 3, true⟩), some (bmf1, ⟨[.int .i64 qf1], 3, 1, true⟩), some (b1, ⟨[.string (⟨#[]⟩ : ByteArray), .int .i64 0, .int .i64 0, .slice none 0 0, .slice none 0 0], 50, 5, true⟩), some (b26, ⟨[.string x27, .int .i64 x28, .int .i64 0, .slice none 0 0, .slice none 0 0], 50, 5, true⟩)] ∧ Hp.le τ τ' ∧ RdT Ty.u8 τ' (.slice A19 x21.length c20) x21 ∧ At τ' af0 [.pointer (some ⟨bmf0, 0, none⟩)] ∧ zbD x21 x23 x24 x27 x28 = some rr) ?_ ?_
  · refine wpn_ptl ?_
    obtain ⟨c64, h65, hF⟩ := bind_some hF
    obtain ⟨c72, h73, hF⟩ := bind_some hF
    refine wpn_pb ?_ ?_
    · refine wpn_pe ?_
      refine wpn_late ?_
      have hO := hO.sel [1, 2, 0] (by decide)
      refine wpn_c (hs := [_, _]) (vs := [_]) hO (zb1 (q0 := (⟨qf0.b, qf0.at_, qf0.failed⟩ : zd)) rmf0_0 h65) rfl fun _ σ _ _ hO h66 h67 => ?_
      have hL := hL.trans h66
      have mf0 := mf0.le h66
      obtain ⟨v68, rfl, rfl, r71⟩ := h67
      obtain ⟨A69, c70, rfl, -⟩ := r71.form
      have hO : Obs _ _ [_, _, _] := hO
      refine wpn_nil ?_
      refine wpn_ag ⟨(again_ld rfl (mf0.le hO.base).fst rfl), (again_ld rfl (hO.val (i := 0) (off := 0) (agg := false) (n := 1) rfl rfl) rfl), trivial⟩ ?_
      refine wpn_nil ?_
      refine wpn_pb ?_ ?_
      · refine wpn_pe ?_
        refine wpn_late ?_
        refine wpn_c (hs := [_, _]) (vs := [_]) hO (zw (q0 := (⟨c64.2.b, c64.2.at_, c64.2.failed⟩ : zd)) r71 h73) rfl fun _ σ _ _ hO h74 h75 => ?_
        have hL := hL.trans h74
        have mf0 := mf0.le h74
        obtain ⟨v76, rfl, rfl, r79⟩ := h75
        obtain ⟨A77, c78, rfl, -⟩ := r79.form
        have hO : Obs _ _ [_, _, _] := hO
        refine wpn_nil ?_
        refine wpn_ag ⟨(again_ld rfl (hO.val (i := 0) (off := 0) (agg := false) (n := 1) rfl rfl) rfl), trivial⟩ ?_
        refine wpn_nil ?_
        refine wpn_pq ?_
        refine wpn_qa hO [] [(0, .pointer (some af0)), (1, .pointer (some ⟨bmf1, 0, none⟩)), (2, .pointer (some ⟨b1, 0, none⟩)), (4, .pointer (some ⟨bmf0, 0, none⟩)), (5, .string c64.1), (6, .int .i64 qf1), (7, .pointer (some ⟨bmf0, 0, none⟩)), (9, .int .i64 (IntKind.i64.wrap (qf1 + c72.1)))] (ar (ar (ar (ar (ar (ar (ar (ar trivial)))))))) fun j => ?_
        refine wpn_pq ?_
        refine wpn_qa hO [] [(0, .pointer (some af0)), (1, .pointer (some ⟨bmf1, 0, none⟩)), (2, .pointer (some ⟨b1, 0, none⟩)), (4, .pointer (some ⟨bmf0, 0, none⟩)), (6, .int .i64 qf1), (7, .pointer (some ⟨bmf0, 0, none⟩)), (10, .agg #[(.string c64.1), (.int .i64 (IntKind.i64.wrap (qf1 + c72.1))), (.int .i64 0), (.slice none 0 0), (.slice none 0 0)])] (ar (ar (ar (ar (ar (ar (ar trivial))))))) fun j => ?_
        refine wpn_pe ?_
        refine wpn_late ?_
        refine wpn_al hO fun b80 σ hO => ?_
        have hO : Obs _ _ [_, _, _, _] := hO
        refine wpn_nil ?_
        refine wpn_ag ⟨(again_ld rfl (mf0.le hO.base).fst rfl), (again_ld rfl (hO.val (i := 0) (off := 0) (agg := false) (n := 1) rfl rfl) rfl), (again_ld rfl (mf0.le hO.base).fst rfl), trivial⟩ ?_
        refine wpn_nil ?_
        refine wpn_pe ?_
        refine wpn_st hO (i := 3) rfl (off := 0) rfl rfl rfl rfl (Nat.le_of_ble_eq_true rfl) rfl fun σ hO => ?_
        have hO : Obs _ _ [_, _, _, _] := hO
        refine wpn_nil ?_
        refine wpn_pd ?_
        refine wpn_end ?_
        refine thn_i ?_
        have hO := hO.sel [2, 0, 1, 3] (by decide)
        exact ⟨A77, c78, c72.2.b, c72.2.at_, c72.2.failed, b80, c64.1, (IntKind.i64.wrap (qf1 + c72.1)), _, ar (ar (ar (ar trivial))), hO, hL, r79, mf0, hF⟩
      · refine wpn_pe ?_
        refine wpn_late ?_
        refine wpn_al hO fun b80 σ hO => ?_
        have hO : Obs _ _ [_, _, _, _] := hO
        refine wpn_nil ?_
        refine wpn_ag ⟨(again_ld rfl (mf0.le hO.base).fst rfl), (again_ld rfl (hO.val (i := 0) (off := 0) (agg := false) (n := 1) rfl rfl) rfl), (again_ld rfl (mf0.le hO.base).fst rfl), trivial⟩ ?_
        refine wpn_nil ?_
        refine wpn_pe ?_
        refine wpn_late ?_
        have hO := hO.sel [0, 1, 3, 2] (by decide)
        refine wpn_c (hs := [_, _, _]) (vs := [_]) hO (zw (q0 := (⟨c64.2.b, c64.2.at_, c64.2.failed⟩ : zd)) r71 h73) rfl fun _ σ _ _ hO h74 h75 => ?_
        have hL := hL.trans h74
        have mf0 := mf0.le h74
        obtain ⟨v76, rfl, rfl, r79⟩ := h75
        obtain ⟨A77, c78, rfl, -⟩ := r79.form
        have hO : Obs _ _ [_, _, _, _] := hO
        refine wpn_nil ?_
        refine wpn_ag ⟨(again_ld rfl (hO.val (i := 0) (off := 0) (agg := false) (n := 1) rfl rfl) rfl), trivial⟩ ?_
        refine wpn_nil ?_
        refine wpn_pq ?_
        refine wpn_qa hO [] [(0, .pointer (some af0)), (1, .pointer (some ⟨bmf1, 0, none⟩)), (2, .pointer (some ⟨b1, 0, none⟩)), (3, .pointer (some ⟨b80, 0, none⟩)), (5, .string c64.1), (9, .int .i64 (IntKind.i64.wrap (qf1 + c72.1)))] (ar (ar (ar (ar (ar (ar trivial)))))) fun j => ?_
        refine wpn_pq ?_
        refine wpn_qa hO [] [(0, .pointer (some af0)), (1, .pointer (some ⟨bmf1, 0, none⟩)), (2, .pointer (some ⟨b1, 0, none⟩)), (3, .pointer (some ⟨b80, 0, none⟩)), (10, .agg #[(.string c64.1), (.int .i64 (IntKind.i64.wrap (qf1 + c72.1))), (.int .i64 0), (.slice none 0 0), (.slice none 0 0)])] (ar (ar (ar (ar (ar trivial))))) fun j => ?_
        refine wpn_pe ?_
        refine wpn_st hO (i := 2) rfl (off := 0) rfl rfl rfl rfl (Nat.le_of_ble_eq_true rfl) rfl fun σ hO => ?_
        have hO : Obs _ _ [_, _, _, _] := hO
        refine wpn_nil ?_
        refine wpn_pd ?_
        refine wpn_end ?_
        refine thn_i ?_
        have hO := hO.sel [3, 0, 1, 2] (by decide)
        exact ⟨A77, c78, c72.2.b, c72.2.at_, c72.2.failed, b80, c64.1, (IntKind.i64.wrap (qf1 + c72.1)), _, ar (ar (ar (ar trivial))), hO, hL, r79, mf0, hF⟩
    · refine wpn_pe ?_
      refine wpn_late ?_
      refine wpn_al hO fun b80 σ hO => ?_
      have hO : Obs _ _ [_, _, _, _] := hO
      refine wpn_nil ?_
      refine wpn_ag ⟨(again_ld rfl (mf0.le hO.base).fst rfl), (again_ld rfl (hO.val (i := 1) (off := 0) (agg := false) (n := 1) rfl rfl) rfl), (again_ld rfl (mf0.le hO.base).fst rfl), trivial⟩ ?_
      refine wpn_nil ?_
      refine wpn_pe ?_
      refine wpn_late ?_
      have hO := hO.sel [1, 2, 3, 0] (by decide)
      refine wpn_c (hs := [_, _, _]) (vs := [_]) hO (zb1 (q0 := (⟨qf0.b, qf0.at_, qf0.failed⟩ : zd)) rmf0_0 h65) rfl fun _ σ _ _ hO h66 h67 => ?_
      have hL := hL.trans h66
      have mf0 := mf0.le h66
      obtain ⟨v68, rfl, rfl, r71⟩ := h67
      obtain ⟨A69, c70, rfl, -⟩ := r71.form
      have hO : Obs _ _ [_, _, _, _] := hO
      refine wpn_nil ?_
      refine wpn_ag ⟨(again_ld rfl (mf0.le hO.base).fst rfl), (again_ld rfl (hO.val (i := 0) (off := 0) (agg := false) (n := 1) rfl rfl) rfl), trivial⟩ ?_
      refine wpn_nil ?_
      refine wpn_pe ?_
      refine wpn_late ?_
      refine wpn_c (hs := [_, _, _]) (vs := [_]) hO (zw (q0 := (⟨c64.2.b, c64.2.at_, c64.2.failed⟩ : zd)) r71 h73) rfl fun _ σ _ _ hO h74 h75 => ?_
      have hL := hL.trans h74
      have mf0 := mf0.le h74
      obtain ⟨v76, rfl, rfl, r79⟩ := h75
      obtain ⟨A77, c78, rfl, -⟩ := r79.form
      have hO : Obs _ _ [_, _, _, _] := hO
      refine wpn_nil ?_
      refine wpn_ag ⟨(again_ld rfl (hO.val (i := 0) (off := 0) (agg := false) (n := 1) rfl rfl) rfl), trivial⟩ ?_
      refine wpn_nil ?_
      refine wpn_pq ?_
      refine wpn_qa hO [] [(0, .pointer (some af0)), (1, .pointer (some ⟨bmf1, 0, none⟩)), (2, .pointer (some ⟨b1, 0, none⟩)), (3, .pointer (some ⟨b80, 0, none⟩)), (5, .string c64.1), (9, .int .i64 (IntKind.i64.wrap (qf1 + c72.1)))] (ar (ar (ar (ar (ar (ar trivial)))))) fun j => ?_
      refine wpn_pq ?_
      refine wpn_qa hO [] [(0, .pointer (some af0)), (1, .pointer (some ⟨bmf1, 0, none⟩)), (2, .pointer (some ⟨b1, 0, none⟩)), (3, .pointer (some ⟨b80, 0, none⟩)), (10, .agg #[(.string c64.1), (.int .i64 (IntKind.i64.wrap (qf1 + c72.1))), (.int .i64 0), (.slice none 0 0), (.slice none 0 0)])] (ar (ar (ar (ar (ar trivial))))) fun j => ?_
      refine wpn_pe ?_
      refine wpn_st hO (i := 2) rfl (off := 0) rfl rfl rfl rfl (Nat.le_of_ble_eq_true rfl) rfl fun σ hO => ?_
      have hO : Obs _ _ [_, _, _, _] := hO
      refine wpn_nil ?_
      refine wpn_pd ?_
      refine wpn_end ?_
      refine thn_i ?_
      have hO := hO.sel [3, 0, 1, 2] (by decide)
      exact ⟨A77, c78, c72.2.b, c72.2.at_, c72.2.failed, b80, c64.1, (IntKind.i64.wrap (qf1 + c72.1)), _, ar (ar (ar (ar trivial))), hO, hL, r79, mf0, hF⟩
  · rintro e σ ⟨A19, c20, x21, x23, x24, b26, x27, x28, _, hA, hO, hL, r22, m25, hF⟩
    rw [← sets_agr _ _ hA]
    unfold zbD at hF
    refine wpn_p2r ?_
    refine wpn_q hO 2 [3] [(0, .pointer (some af0)), (1, .pointer (some ⟨bmf1, 0, none⟩)), (2, .pointer (some ⟨b1, 0, none⟩)), (3, .pointer (some ⟨b26, 0, none⟩)), (11, .pointer (some ⟨b26, 1, none⟩)), (12, .int .i64 x28)] (And.intro (And.intro rfl rfl) (ar (ar (ar (ar (ar (ar trivial))))))) fun j => ?_
    refine wpn_ld rfl (m25.le hO.base).fst ?_
    refine wpn_late ?_
    obtain ⟨c29, h30, hF⟩ := bind_some hF
    have hO := hO.sel [1, 2, 3, 0] (by decide)
    refine wpn_c (hs := [_, _, _]) (vs := [_]) hO (zw (q0 := (⟨x21, x23, x24⟩ : zd)) r22 h30) rfl fun _ σ _ _ hO h31 h32 => ?_
    have hL := hL.trans h31
    have m25 := m25.le h31
    obtain ⟨v33, rfl, rfl, r36⟩ := h32
    obtain ⟨A34, c35, rfl, -⟩ := r36.form
    have hO : Obs _ _ [_, _, _, _] := hO
    refine wpn_nil ?_
    refine wpn_ag ⟨(again_ld rfl (hO.val (i := 2) (off := 1) (agg := false) (n := 1) rfl rfl) rfl), trivial⟩ ?_
    refine wpn_q hO 2 [] [(0, .pointer (some af0)), (1, .pointer (some ⟨bmf1, 0, none⟩)), (2, .pointer (some ⟨b1, 0, none⟩)), (3, .pointer (some ⟨b26, 0, none⟩)), (15, .int .i64 (IntKind.i64.wrap (x28 + c29.1))), (16, .pointer (some ⟨b26, 2, none⟩))] (ar (ar (ar (ar (ar (ar trivial)))))) fun j => ?_
    refine wpn_st hO (i := 2) rfl (off := 2) rfl rfl rfl rfl (Nat.le_of_ble_eq_true rfl) rfl fun σ hO => ?_
    have hO : Obs _ _ [_, _, _, _] := hO
    refine wpn_nil ?_
    refine wpn_q hO 2 [2] [(0, .pointer (some af0)), (1, .pointer (some ⟨bmf1, 0, none⟩)), (2, .pointer (some ⟨b1, 0, none⟩)), (3, .pointer (some ⟨b26, 0, none⟩)), (18, .int .i64 (IntKind.i64.wrap (x28 + c29.1)))] (And.intro (And.intro rfl rfl) (ar (ar (ar (ar (ar trivial)))))) fun j => ?_
    refine wpn_st hO (i := 0) rfl (off := 0) rfl rfl rfl rfl (Nat.le_of_ble_eq_true rfl) rfl fun σ hO => ?_
    have hO : Obs _ _ [_, _, _, _] := hO
    refine wpn_nil ?_
    refine wpn_p2r ?_
    refine wpn_ld rfl (m25.le hO.base).fst ?_
    refine wpn_ld rfl (m25.le hO.base).fst ?_
    refine wpn_q hO 8 [3, 0] [(0, .pointer (some af0)), (1, .pointer (some ⟨bmf1, 0, none⟩)), (2, .pointer (some ⟨b1, 0, none⟩)), (3, .pointer (some ⟨b26, 0, none⟩)), (27, .bool (c29.2.failed || (decide ((IntKind.i64.wrap (x28 + c29.1)) > 16777216)))), (29, .pointer (some ⟨bmf0, 2, none⟩))] (And.intro (And.intro rfl rfl) (And.intro (And.intro rfl rfl) (And.intro (And.intro rfl rfl) (fun _ => ar (ar (ar (ar (ar (ar trivial))))))))) fun j => ?_
    refine wpn_st hO (i := 3) rfl (off := 2) rfl rfl rfl rfl (Nat.le_of_ble_eq_true rfl) rfl fun σ hO => ?_
    have hO : Obs _ _ [_, _, _, _] := hO
    refine wpn_nil ?_
    refine wpn_ld rfl (m25.le hO.base).fst ?_
    refine wpn_q hO 1 [] [(0, .pointer (some af0)), (1, .pointer (some ⟨bmf1, 0, none⟩)), (2, .pointer (some ⟨b1, 0, none⟩)), (3, .pointer (some ⟨b26, 0, none⟩)), (30, .pointer (some ⟨bmf0, 0, none⟩)), (31, .func (.func 36) #[] #[(.pointer (some af0)), (.pointer (some ⟨b26, 0, none⟩))])] (ar (ar (ar (ar (ar (ar trivial)))))) fun j => ?_
    have hO := hO.no
    have hO : Obs _ _ [_, _, _, _, _] := hO
    have w37 := OwnO.nil0 (T := (Ty.slice zk)) (ty := 56) hO
    obtain ⟨c38, h39, hF⟩ := bind_some hF
    have hO := hO.sel [0, 1, 3, 2, 4] (by decide)
    refine wpn_c (hs := [_, _]) (vs := [_, _, _]) hO (zfq (q0 := (⟨c29.2.b, c29.2.at_, (c29.2.failed || (decide ((IntKind.i64.wrap (x28 + c29.1)) > 16777216)))⟩ : zd)) (q2_1 := (⟨x27, x28, (IntKind.i64.wrap (x28 + c29.1)), [], ([] : List (List ze))⟩ : zc)) r36 m25 (RdT.nil zn _) w37 h39) rfl fun _ σ _ _ hO h40 h41 => ?_
    have hL := hL.trans h40
    have m25 := m25.le h40
    obtain ⟨v42, o45, v47, v51, v55, o58, rfl, rfl, w46, r50, r54, w59⟩ := h41
    obtain ⟨A43, c44, rfl, -⟩ := w46.form
    obtain ⟨A48, c49, rfl, -⟩ := r50.form
    obtain ⟨A52, c53, rfl, -⟩ := r54.form
    obtain ⟨A56, c57, rfl, -⟩ := w59.form
    have hO : Obs _ _ [_, _, _, _, _, _] := hO
    refine wpn_q hO 1 [] [(0, .pointer (some af0)), (1, .pointer (some ⟨bmf1, 0, none⟩)), (2, .pointer (some ⟨b1, 0, none⟩)), (3, .pointer (some ⟨b26, 0, none⟩)), (32, .slice A43 c38.1.length c44), (33, .pointer (some ⟨b26, 3, none⟩))] (ar (ar (ar (ar (ar (ar trivial)))))) fun j => ?_
    refine wpn_st hO (i := 4) rfl (off := 3) rfl rfl rfl rfl (Nat.le_of_ble_eq_true rfl) rfl fun σ hO => ?_
    have hO : Obs _ _ [_, _, _, _, _, _] := hO
    refine wpn_nil ?_
    refine wpn_q hO 1 [4] [(0, .pointer (some af0)), (1, .pointer (some ⟨bmf1, 0, none⟩)), (2, .pointer (some ⟨b1, 0, none⟩)), (34, .agg #[(.string c38.2.2.Name), (.int .i64 c38.2.2.From), (.int .i64 c38.2.2.To), (.slice A43 c38.1.length c44), (.slice A56 c38.2.2.Spans.length c57)])] (And.intro (And.intro rfl rfl) (ar (ar (ar (ar trivial))))) fun j => ?_
    refine wpn_st hO (i := 1) rfl (off := 0) rfl rfl rfl rfl (Nat.le_of_ble_eq_true rfl) rfl fun σ hO => ?_
    have hO : Obs _ _ [_, _, _, _, _, _] := hO
    refine wpn_nil ?_
    refine wpn_r1 ?_
    obtain ⟨_, h61, r60, hO⟩ := w46.share hO (i := 2) rfl
    have hL := hL.trans h61
    have m25 := m25.le h61
    have w59 := w59.le h61
    have r50 := r50.le h61
    have hO : Obs _ _ [_, _, _, _, _, _] := hO
    obtain ⟨_, h63, r62, hO⟩ := w59.share hO (i := 5) rfl
    have hL := hL.trans h63
    have m25 := m25.le h63
    have r60 := r60.le h63
    have r50 := r50.le h63
    have hO : Obs _ _ [_, _, _, _, _, _] := hO
    injection hF with hF
    subst hF
    have hV0 := hO.val (i := 1) rfl (off := 0) (agg := true) (n := 5) rfl
    have hO := hO.sel [3, 0] (by decide)
    exact hQ _ _ _ _ _ (resvs_c rfl (hV0) rfl) hO hL ⟨_, _, _, rfl, rfl, r60, r62, r50⟩
theorem zfA {τ : Hp} {q0 : zd} {bm0 : Nat} {vm0_0 : Value} {p1 : Int} {a2_0 : Addr} {q2_1 : Int} {bm2_1 : Nat} (rm0_0 : RdT Ty.u8 τ vm0_0 q0.b) (m2_0 : At τ a2_0 [.pointer (some ⟨bm0, 0, none⟩)]) {rr : (List zc) × zd × Int} (hF : zbn q0 p1 q2_1 = some rr) :
    Ctr Try.prog 31 #[.pointer (some ⟨bm0, 0, none⟩), .int .i64 p1, .func (.func 32) #[] #[(.pointer (some a2_0)), (.pointer (some ⟨bm2_1, 0, none⟩))]] τ [some (bm0, ⟨[vm0_0, .int .i64 q0.at_, .bool q0.failed], 82, 3, true⟩), some (bm2_1, ⟨[.int .i64 q2_1], 3, 1, true⟩)] (fun v τ' vs' => ∃ (v0 : Value) (o0 : Ob) (u0_0 : Value), v = v0 ∧ vs' = [o0, some (bm0, ⟨[u0_0, .int .i64 rr.2.1.at_, .bool rr.2.1.failed], 82, 3, true⟩), some (bm2_1, ⟨[.int .i64 rr.2.2], 3, 1, true⟩)] ∧ OwnO zj 50 τ' v0 rr.1 o0 ∧ RdT Ty.u8 τ' u0_0 rr.2.1.b) := by
  obtain ⟨Am0_0, cm0_0, rfl, -⟩ := rm0_0.form
  refine ctr_of (args := [.pointer (some ⟨bm0, 0, none⟩), .int .i64 p1, .func (.func 32) #[] #[(.pointer (some a2_0)), (.pointer (some ⟨bm2_1, 0, none⟩))]]) hm Try.func31 s31 rfl fun w0 σ hO Q hQ => ?_
  unfold zbn at hF
  have hL := Hp.le.refl τ
  show wpn _ _ a31.body _ _ _
  unfold a31
  dsimp only
  refine wpn_qa hO [] [(0, .pointer (some ⟨bm0, 0, none⟩)), (1, .int .i64 p1), (2, .func (.func 32) #[] #[(.pointer (some a2_0)), (.pointer (some ⟨bm2_1, 0, none⟩))])] (ar (ar (ar trivial))) fun j => ?_
  refine wpn_qa hO [] [(0, .pointer (some ⟨bm0, 0, none⟩)), (1, .int .i64 p1), (2, .func (.func 32) #[] #[(.pointer (some a2_0)), (.pointer (some ⟨bm2_1, 0, none⟩))]), (7, .slice none 0 0)] (ar (ar (ar (ar trivial)))) fun j => ?_
  refine wpn_assoc ?_
  refine wpn_q hO 2 [] [(0, .pointer (some ⟨bm0, 0, none⟩)), (2, .func (.func 32) #[] #[(.pointer (some a2_0)), (.pointer (some ⟨bm2_1, 0, none⟩))]), (7, .slice none 0 0), (9, .pointer (some ⟨bm0, 0, none⟩)), (10, .int .i64 p1)] (ar (ar (ar (ar (ar trivial))))) fun j => ?_
  obtain ⟨c4, h5, hF⟩ := bind_some hF
  have hO := hO.sel [1, 0] (by decide)
  refine wpn_c (hs := [_]) (vs := [_]) hO (zw (q0 := (⟨q0.b, q0.at_, q0.failed⟩ : zd)) rm0_0 h5) rfl fun _ σ _ _ hO h6 h7 => ?_
  have hL := hL.trans h6
  have m2_0 := m2_0.le h6
  obtain ⟨v8, rfl, rfl, r11⟩ := h7
  obtain ⟨A9, c10, rfl, -⟩ := r11.form
  have hO : Obs _ _ [_, _] := hO
  refine wpn_qa hO [] [(0, .pointer (some ⟨bm0, 0, none⟩)), (2, .func (.func 32) #[] #[(.pointer (some a2_0)), (.pointer (some ⟨bm2_1, 0, none⟩))]), (7, .slice none 0 0), (8, .int .i64 c4.1)] (ar (ar (ar (ar trivial)))) fun j => ?_
  refine wpn_bl ?_
  have hO := hO.no
  have hO : Obs _ _ [_, _, _] := hO
  have hO := hO.sel [1, 0, 2] (by decide)
  refine wpn_lp (fun (n : Nat) e' σ' => ∃ (A37 : Option Addr) (c38 : Nat) (x39 : List UInt8) (x41 : Int) (x42 : Bool) (x44 : Int) (A45 : Option Addr) (c46 : Nat) (o47 : Ob) (x48 : List zc) (x50 : Int) (τ' : Hp), agr [(0, .pointer (some ⟨bm0, 0, none⟩)), (2, .func (.func 32) #[] #[(.pointer (some a2_0)), (.pointer (some ⟨bm2_1, 0, none⟩))]), (7, .slice A45 x48.length c46), (8, .int .i64 x50)] e' ∧ Obs τ' σ' [some (bm0, ⟨[.slice A37 x39.length c38, .int .i64 x41, .bool x42], 82, 3, true⟩), some (bm2_1, ⟨[.int .i64 x44], 3, 1, true⟩), o47] ∧ Hp.le τ τ' ∧ RdT Ty.u8 τ' (.slice A37 x39.length c38) x39 ∧ At τ' a2_0 [.pointer (some ⟨bm0, 0, none⟩)] ∧ OwnO zj 50 τ' (.slice A45 x48.length c46) x48 o47 ∧ zbB  n x39 x41 x42 x44 x48 x50 = some rr) big ⟨A9, c10, c4.2.b, c4.2.at_, c4.2.failed, q2_1, none, 0, none, [], c4.1, _, ar (ar (ar (ar trivial))), hO, hL, r11, m2_0, OwnO.nil _ _ _, hF⟩ ?_
  clear hF hO hL
  rintro n73 e σ ⟨A37, c38, x39, x41, x42, x44, A45, c46, o47, x48, x50, _, hA, hO, hL, r40, m43, w49, hF⟩
  rw [← sets_agr _ _ hA]
  cases n73 with
  | zero => exact nomatch (show none = some rr from hF)
  | succ n73 =>
    replace hF : zdS (zbB  n73) x39 x41 x42 x44 x48 x50 = some rr := hF
    unfold zdS at hF
    refine wpn_assoc ?_
    refine wpn_qa hO [0] [(0, .pointer (some ⟨bm0, 0, none⟩)), (2, .func (.func 32) #[] #[(.pointer (some a2_0)), (.pointer (some ⟨bm2_1, 0, none⟩))]), (7, .slice A45 x48.length c46), (8, .int .i64 x50), (20, .bool ((decide (x50 > 0)) && (!x42)))] (And.intro (And.intro rfl rfl) (And.intro (And.intro rfl rfl) (fun _ => ar (ar (ar (ar (ar trivial))))))) fun j => ?_
    rcases ite_some hF with ⟨hb74, hF⟩ | ⟨hb74, hF⟩
    · refine wpn_cT (congrArg Value.bool hb74) ?_
      refine wpn_sk ?_
      refine wpn_bl ?_
      refine wpn_rlast ?_
      refine wpn_q hO 2 [] [(0, .pointer (some ⟨bm0, 0, none⟩)), (2, .func (.func 32) #[] #[(.pointer (some a2_0)), (.pointer (some ⟨bm2_1, 0, none⟩))]), (8, .int .i64 x50), (23, .slice A45 x48.length c46), (24, .func (.func 32) #[] #[(.pointer (some a2_0)), (.pointer (some ⟨bm2_1, 0, none⟩))])] (ar (ar (ar (ar (ar trivial))))) fun j => ?_
      obtain ⟨c75, h76, hF⟩ := bind_some hF
      have hO := hO.sel [2, 0, 1] (by decide)
      refine wpn_cv (hs := [_]) (vs := [_, _]) rfl (by kernel_rfl) hO (ze2 (qf0 := (⟨x39, x41, x42⟩ : zd)) r40 m43 h76) rfl fun _ σ _ _ hO h77 h78 => ?_
      have hL := hL.trans h77
      have m43 := m43.le h77
      have w49 := w49.le h77
      obtain ⟨v79, v83, v87, rfl, rfl, r80, r84, r90⟩ := h78
      obtain ⟨A81, c82, rfl, -⟩ := r80.form
      obtain ⟨A85, c86, rfl, -⟩ := r84.form
      obtain ⟨A88, c89, rfl, -⟩ := r90.form
      have hO : Obs _ _ [_, _, _] := hO
      obtain ⟨_, hr95, hF⟩ := bind_some hF
      refine wpn_ap1 (T := zj) (y := (⟨c75.1.Name, c75.1.From, c75.1.To, c75.1.Vars, c75.1.Spans⟩ : zc)) hO w49 (i := 0) rfl rfl (fun _ => rfl) rfl ⟨_, _, rfl, r80, r84⟩ rfl hr95 (by decide) fun u _ σ o93 w94 hO => ?_
      obtain ⟨A91, c92, rfl, -⟩ := w94.form
      have hO : Obs _ _ [_, _, _] := hO
      refine wpn_qa hO [] [(0, .pointer (some ⟨bm0, 0, none⟩)), (2, .func (.func 32) #[] #[(.pointer (some a2_0)), (.pointer (some ⟨bm2_1, 0, none⟩))]), (7, .slice A91 (x48 ++ [(⟨c75.1.Name, c75.1.From, c75.1.To, c75.1.Vars, c75.1.Spans⟩ : zc)]).length c92), (8, .int .i64 x50)] (ar (ar (ar (ar trivial)))) fun j => ?_
      refine wpn_end ?_
      refine inb_i ?_
      refine thn_i ?_
      refine wpn_rlast ?_
      refine wpn_qa hO [] [(0, .pointer (some ⟨bm0, 0, none⟩)), (2, .func (.func 32) #[] #[(.pointer (some a2_0)), (.pointer (some ⟨bm2_1, 0, none⟩))]), (7, .slice A91 (x48 ++ [(⟨c75.1.Name, c75.1.From, c75.1.To, c75.1.Vars, c75.1.Spans⟩ : zc)]).length c92), (8, .int .i64 (IntKind.i64.wrap (x50 - 1)))] (ar (ar (ar (ar trivial)))) fun j => ?_
      refine wpn_end ?_
      refine thn_i ?_
      have hO := hO.sel [1, 2, 0] (by decide)
      exact ⟨n73, Nat.lt_succ_self _, A88, c89, c75.2.1.b, c75.2.1.at_, c75.2.1.failed, c75.2.2, A91, c92, o93, (x48 ++ [(⟨c75.1.Name, c75.1.From, c75.1.To, c75.1.Vars, c75.1.Spans⟩ : zc)]), (IntKind.i64.wrap (x50 - 1)), _, ar (ar (ar (ar trivial))), hO, hL, r90, m43, w94, hF⟩
    · refine wpn_cF (congrArg Value.bool hb74) ?_
      refine wpn_ex ?_
      refine thn_x ?_
      refine inb_x ?_
      refine thn_i ?_
      refine wpn_qa hO [] [(0, .pointer (some ⟨bm0, 0, none⟩)), (2, .func (.func 32) #[] #[(.pointer (some a2_0)), (.pointer (some ⟨bm2_1, 0, none⟩))]), (6, .slice A45 x48.length c46)] (ar (ar (ar trivial))) fun j => ?_
      refine wpn_r1 ?_
      injection hF with hF
      subst hF
      have hO := hO.sel [2, 0, 1] (by decide)
      exact hQ _ _ _ _ _ rfl hO hL ⟨_, _, _, rfl, rfl, w49, r40⟩
theorem zeL {τ : Hp} {qf0 : zd} {bmf0 : Nat} {vmf0_0 : Value} {af0 : Addr} (rmf0_0 : RdT Ty.u8 τ vmf0_0 qf0.b) (mf0 : At τ af0 [.pointer (some ⟨bmf0, 0, none⟩)]) {rr : Int × zd} (hF : zU qf0 = some rr) :
    Ctr Try.prog 42 #[.pointer (some af0)] τ [some (bmf0, ⟨[vmf0_0, .int .i64 qf0.at_, .bool qf0.failed], 82, 3, true⟩)] (fun v τ' vs' => ∃ (u0_0 : Value), v = .int .i64 rr.1 ∧ vs' = [some (bmf0, ⟨[u0_0, .int .i64 rr.2.at_, .bool rr.2.failed], 82, 3, true⟩)] ∧ RdT Ty.u8 τ' u0_0 rr.2.b) := by
  obtain ⟨Amf0_0, cmf0_0, rfl, -⟩ := rmf0_0.form
  refine ctr_of (args := [.pointer (some af0)]) hm Try.func42 s42 rfl fun w0 σ hO Q hQ => ?_
  unfold zU at hF
  have hL := Hp.le.refl τ
  show wpn _ _ a42.body _ _ _
  unfold a42
  dsimp only
  refine wpn_qa hO [] [(0, .pointer (some af0))] (ar trivial) fun j => ?_
  refine wpn_ld rfl (mf0.le hO.base).fst ?_
  obtain ⟨c1, h2, hF⟩ := bind_some hF
  refine wpn_c (hs := []) (vs := [_]) hO (zw (q0 := (⟨qf0.b, qf0.at_, qf0.failed⟩ : zd)) rmf0_0 h2) rfl fun _ σ _ _ hO h3 h4 => ?_
  have hL := hL.trans h3
  have mf0 := mf0.le h3
  obtain ⟨v5, rfl, rfl, r8⟩ := h4
  obtain ⟨A6, c7, rfl, -⟩ := r8.form
  have hO : Obs _ _ [_] := hO
  refine wpn_qa hO [] [(0, .pointer (some af0)), (1, .int .i64 c1.1)] (ar (ar trivial)) fun j => ?_
  refine wpn_r1 ?_
  injection hF with hF
  subst hF
  exact hQ _ _ _ _ _ rfl hO hL ⟨_, rfl, rfl, r8⟩
theorem zfL {τ : Hp} {q0 : zd} {bm0 : Nat} {vm0_0 : Value} {p1 : Int} {a2_0 : Addr} (rm0_0 : RdT Ty.u8 τ vm0_0 q0.b) (m2_0 : At τ a2_0 [.pointer (some ⟨bm0, 0, none⟩)]) {rr : (List Int) × zd} (hF : zcu q0 p1 = some rr) :
    Ctr Try.prog 41 #[.pointer (some ⟨bm0, 0, none⟩), .int .i64 p1, .func (.func 42) #[] #[(.pointer (some a2_0))]] τ [some (bm0, ⟨[vm0_0, .int .i64 q0.at_, .bool q0.failed], 82, 3, true⟩)] (fun v τ' vs' => ∃ (v0 : Value) (o0 : Ob) (u0_0 : Value), v = v0 ∧ vs' = [o0, some (bm0, ⟨[u0_0, .int .i64 rr.2.at_, .bool rr.2.failed], 82, 3, true⟩)] ∧ OwnO (Ty.int .i64) 3 τ' v0 rr.1 o0 ∧ RdT Ty.u8 τ' u0_0 rr.2.b) := by
  obtain ⟨Am0_0, cm0_0, rfl, -⟩ := rm0_0.form
  refine ctr_of (args := [.pointer (some ⟨bm0, 0, none⟩), .int .i64 p1, .func (.func 42) #[] #[(.pointer (some a2_0))]]) hm Try.func41 s41 rfl fun w0 σ hO Q hQ => ?_
  unfold zcu at hF
  have hL := Hp.le.refl τ
  show wpn _ _ a41.body _ _ _
  unfold a41
  dsimp only
  refine wpn_qa hO [] [(0, .pointer (some ⟨bm0, 0, none⟩)), (1, .int .i64 p1), (2, .func (.func 42) #[] #[(.pointer (some a2_0))])] (ar (ar (ar trivial))) fun j => ?_
  refine wpn_qa hO [] [(0, .pointer (some ⟨bm0, 0, none⟩)), (1, .int .i64 p1), (2, .func (.func 42) #[] #[(.pointer (some a2_0))]), (7, .slice none 0 0)] (ar (ar (ar (ar trivial)))) fun j => ?_
  refine wpn_assoc ?_
  refine wpn_q hO 2 [] [(0, .pointer (some ⟨bm0, 0, none⟩)), (2, .func (.func 42) #[] #[(.pointer (some a2_0))]), (7, .slice none 0 0), (9, .pointer (some ⟨bm0, 0, none⟩)), (10, .int .i64 p1)] (ar (ar (ar (ar (ar trivial))))) fun j => ?_
  obtain ⟨c4, h5, hF⟩ := bind_some hF
  refine wpn_c (hs := []) (vs := [_]) hO (zw (q0 := (⟨q0.b, q0.at_, q0.failed⟩ : zd)) rm0_0 h5) rfl fun _ σ _ _ hO h6 h7 => ?_
  have hL := hL.trans h6
  have m2_0 := m2_0.le h6
  obtain ⟨v8, rfl, rfl, r11⟩ := h7
  obtain ⟨A9, c10, rfl, -⟩ := r11.form
  have hO : Obs _ _ [_] := hO
  refine wpn_qa hO [] [(0, .pointer (some ⟨bm0, 0, none⟩)), (2, .func (.func 42) #[] #[(.pointer (some a2_0))]), (7, .slice none 0 0), (8, .int .i64 c4.1)] (ar (ar (ar (ar trivial)))) fun j => ?_
  refine wpn_bl ?_
  have hO := hO.no
  have hO : Obs _ _ [_, _] := hO
  refine wpn_lp (fun (n : Nat) e' σ' => ∃ (A29 : Option Addr) (c30 : Nat) (x31 : List UInt8) (x33 : Int) (x34 : Bool) (A36 : Option Addr) (c37 : Nat) (o38 : Ob) (x39 : List Int) (x41 : Int) (τ' : Hp), agr [(0, .pointer (some ⟨bm0, 0, none⟩)), (2, .func (.func 42) #[] #[(.pointer (some a2_0))]), (7, .slice A36 x39.length c37), (8, .int .i64 x41)] e' ∧ Obs τ' σ' [some (bm0, ⟨[.slice A29 x31.length c30, .int .i64 x33, .bool x34], 82, 3, true⟩), o38] ∧ Hp.le τ τ' ∧ RdT Ty.u8 τ' (.slice A29 x31.length c30) x31 ∧ At τ' a2_0 [.pointer (some ⟨bm0, 0, none⟩)] ∧ OwnO (Ty.int .i64) 3 τ' (.slice A36 x39.length c37) x39 o38 ∧ zbe  n x31 x33 x34 x39 x41 = some rr) big ⟨A9, c10, c4.2.b, c4.2.at_, c4.2.failed, none, 0, none, [], c4.1, _, ar (ar (ar (ar trivial))), hO, hL, r11, m2_0, OwnO.nil _ _ _, hF⟩ ?_
  clear hF hO hL
  rintro n56 e σ ⟨A29, c30, x31, x33, x34, A36, c37, o38, x39, x41, _, hA, hO, hL, r32, m35, w40, hF⟩
  rw [← sets_agr _ _ hA]
  cases n56 with
  | zero => exact nomatch (show none = some rr from hF)
  | succ n56 =>
    replace hF : zdD (zbe  n56) x31 x33 x34 x39 x41 = some rr := hF
    unfold zdD at hF
    refine wpn_assoc ?_
    refine wpn_qa hO [0] [(0, .pointer (some ⟨bm0, 0, none⟩)), (2, .func (.func 42) #[] #[(.pointer (some a2_0))]), (7, .slice A36 x39.length c37), (8, .int .i64 x41), (20, .bool ((decide (x41 > 0)) && (!x34)))] (And.intro (And.intro rfl rfl) (And.intro (And.intro rfl rfl) (fun _ => ar (ar (ar (ar (ar trivial))))))) fun j => ?_
    rcases ite_some hF with ⟨hb57, hF⟩ | ⟨hb57, hF⟩
    · refine wpn_cT (congrArg Value.bool hb57) ?_
      refine wpn_sk ?_
      refine wpn_bl ?_
      refine wpn_rlast ?_
      refine wpn_q hO 2 [] [(0, .pointer (some ⟨bm0, 0, none⟩)), (2, .func (.func 42) #[] #[(.pointer (some a2_0))]), (8, .int .i64 x41), (23, .slice A36 x39.length c37), (24, .func (.func 42) #[] #[(.pointer (some a2_0))])] (ar (ar (ar (ar (ar trivial))))) fun j => ?_
      obtain ⟨c58, h59, hF⟩ := bind_some hF
      have hO := hO.sel [1, 0] (by decide)
      refine wpn_cv (hs := [_]) (vs := [_]) rfl (by kernel_rfl) hO (zeL (qf0 := (⟨x31, x33, x34⟩ : zd)) r32 m35 h59) rfl fun _ σ _ _ hO h60 h61 => ?_
      have hL := hL.trans h60
      have m35 := m35.le h60
      have w40 := w40.le h60
      obtain ⟨v62, rfl, rfl, r65⟩ := h61
      obtain ⟨A63, c64, rfl, -⟩ := r65.form
      have hO : Obs _ _ [_, _] := hO
      obtain ⟨_, hr70, hF⟩ := bind_some hF
      refine wpn_ap1 (T := (Ty.int .i64)) (y := c58.1) hO w40 (i := 0) rfl rfl (fun _ => rfl) rfl rfl rfl hr70 (by decide) fun u _ σ o68 w69 hO => ?_
      obtain ⟨A66, c67, rfl, -⟩ := w69.form
      have hO : Obs _ _ [_, _] := hO
      refine wpn_qa hO [] [(0, .pointer (some ⟨bm0, 0, none⟩)), (2, .func (.func 42) #[] #[(.pointer (some a2_0))]), (7, .slice A66 (x39 ++ [c58.1]).length c67), (8, .int .i64 x41)] (ar (ar (ar (ar trivial)))) fun j => ?_
      refine wpn_end ?_
      refine inb_i ?_
      refine thn_i ?_
      refine wpn_rlast ?_
      refine wpn_qa hO [] [(0, .pointer (some ⟨bm0, 0, none⟩)), (2, .func (.func 42) #[] #[(.pointer (some a2_0))]), (7, .slice A66 (x39 ++ [c58.1]).length c67), (8, .int .i64 (IntKind.i64.wrap (x41 - 1)))] (ar (ar (ar (ar trivial)))) fun j => ?_
      refine wpn_end ?_
      refine thn_i ?_
      have hO := hO.sel [1, 0] (by decide)
      exact ⟨n56, Nat.lt_succ_self _, A63, c64, c58.2.b, c58.2.at_, c58.2.failed, A66, c67, o68, (x39 ++ [c58.1]), (IntKind.i64.wrap (x41 - 1)), _, ar (ar (ar (ar trivial))), hO, hL, r65, m35, w69, hF⟩
    · refine wpn_cF (congrArg Value.bool hb57) ?_
      refine wpn_ex ?_
      refine thn_x ?_
      refine inb_x ?_
      refine thn_i ?_
      refine wpn_qa hO [] [(0, .pointer (some ⟨bm0, 0, none⟩)), (6, .slice A36 x39.length c37)] (ar (ar trivial)) fun j => ?_
      refine wpn_r1 ?_
      injection hF with hF
      subst hF
      have hO := hO.sel [1, 0] (by decide)
      exact hQ _ _ _ _ _ rfl hO hL ⟨_, _, _, rfl, rfl, w40, r32⟩
theorem ze9 {τ : Hp} {qf0 : zd} {bmf0 : Nat} {vmf0_0 : Value} {af0 : Addr} (rmf0_0 : RdT Ty.u8 τ vmf0_0 qf0.b) (mf0 : At τ af0 [.pointer (some ⟨bmf0, 0, none⟩)]) {rr : zi × zd} (hF : zZ qf0 = some rr) :
    Ctr Try.prog 40 #[.pointer (some af0)] τ [some (bmf0, ⟨[vmf0_0, .int .i64 qf0.at_, .bool qf0.failed], 82, 3, true⟩)] (fun v τ' vs' => ∃ (v0_2 : Value) (u0_0 : Value), v = .agg #[.int .i64 rr.1.Func, .int .i64 rr.1.Line, v0_2] ∧ vs' = [some (bmf0, ⟨[u0_0, .int .i64 rr.2.at_, .bool rr.2.failed], 82, 3, true⟩)] ∧ RdT (Ty.int .i64) τ' v0_2 rr.1.Scope ∧ RdT Ty.u8 τ' u0_0 rr.2.b) := by
  obtain ⟨Amf0_0, cmf0_0, rfl, -⟩ := rmf0_0.form
  refine ctr_of (args := [.pointer (some af0)]) hm Try.func40 s40 rfl fun w0 σ hO Q hQ => ?_
  unfold zZ at hF
  have hL := Hp.le.refl τ
  show wpn _ _ a40.body _ _ _
  unfold a40
  dsimp only
  refine wpn_al hO fun b1 σ hO => ?_
  have hO : Obs _ _ [_, _] := hO
  refine wpn_nil ?_
  refine wpn_pq ?_
  refine wpn_ld rfl (mf0.le hO.base).fst ?_
  refine wpn_nil ?_
  refine wpn_pq ?_
  refine wpn_ld rfl (mf0.le hO.base).fst ?_
  refine wpn_nil ?_
  refine wpn_cut (fun e' σ' => ∃ (A19 : Option Addr) (c20 : Nat) (x21 : List UInt8) (x23 : Int) (x24 : Bool) (b26 : Nat) (x27 : Int) (x28 : Int) (τ' : Hp), agr [(0, .pointer (some af0)), (1, .pointer (some ⟨b1, 0, none⟩)), (2, .pointer (some ⟨b26, 0, none⟩))] e' ∧ Obs τ' σ' [some (bmf0, ⟨[.slice A19 x21.length c20, .int .i64 x23, .bool x24], 82, 3, true⟩), some (b1, ⟨[.int .i64 0, .int .i64 0, .slice none 0 0], 59, 3, true⟩), some (b26, ⟨[.int .i64 x27, .int .i64 x28, .slice none 0 0], 59, 3, true⟩)] ∧ Hp.le τ τ' ∧ RdT Ty.u8 τ' (.slice A19 x21.length c20) x21 ∧ At τ' af0 [.pointer (some ⟨bmf0, 0, none⟩)] ∧ zb9 x21 x23 x24 x27 x28 = some rr) ?_ ?_
  · refine wpn_ptl ?_
    obtain ⟨c44, h45, hF⟩ := bind_some hF
    obtain ⟨c52, h53, hF⟩ := bind_some hF
    refine wpn_pb ?_ ?_
    · refine wpn_pe ?_
      refine wpn_late ?_
      have hO := hO.sel [1, 0] (by decide)
      refine wpn_c (hs := [_]) (vs := [_]) hO (zw (q0 := (⟨qf0.b, qf0.at_, qf0.failed⟩ : zd)) rmf0_0 h45) rfl fun _ σ _ _ hO h46 h47 => ?_
      have hL := hL.trans h46
      have mf0 := mf0.le h46
      obtain ⟨v48, rfl, rfl, r51⟩ := h47
      obtain ⟨A49, c50, rfl, -⟩ := r51.form
      have hO : Obs _ _ [_, _] := hO
      refine wpn_nil ?_
      refine wpn_ag ⟨(again_ld rfl (mf0.le hO.base).fst rfl), trivial⟩ ?_
      refine wpn_nil ?_
      refine wpn_pb ?_ ?_
      · refine wpn_pe ?_
        refine wpn_c (hs := [_]) (vs := [_]) hO (zw (q0 := (⟨c44.2.b, c44.2.at_, c44.2.failed⟩ : zd)) r51 h53) rfl fun _ σ _ _ hO h54 h55 => ?_
        have hL := hL.trans h54
        have mf0 := mf0.le h54
        obtain ⟨v56, rfl, rfl, r59⟩ := h55
        obtain ⟨A57, c58, rfl, -⟩ := r59.form
        have hO : Obs _ _ [_, _] := hO
        refine wpn_nil ?_
        refine wpn_pq ?_
        refine wpn_qa hO [] [(0, .pointer (some af0)), (1, .pointer (some ⟨b1, 0, none⟩)), (3, .pointer (some ⟨bmf0, 0, none⟩)), (5, .pointer (some ⟨bmf0, 0, none⟩)), (7, .agg #[(.int .i64 c44.1), (.int .i64 c52.1), (.slice none 0 0)])] (ar (ar (ar (ar (ar trivial))))) fun j => ?_
        refine wpn_pe ?_
        refine wpn_late ?_
        refine wpn_al hO fun b60 σ hO => ?_
        have hO : Obs _ _ [_, _, _] := hO
        refine wpn_nil ?_
        refine wpn_ag ⟨(again_ld rfl (mf0.le hO.base).fst rfl), (again_ld rfl (mf0.le hO.base).fst rfl), trivial⟩ ?_
        refine wpn_nil ?_
        refine wpn_pe ?_
        refine wpn_st hO (i := 2) rfl (off := 0) rfl rfl rfl rfl (Nat.le_of_ble_eq_true rfl) rfl fun σ hO => ?_
        have hO : Obs _ _ [_, _, _] := hO
        refine wpn_nil ?_
        refine wpn_pd ?_
        refine wpn_end ?_
        refine thn_i ?_
        have hO := hO.sel [1, 0, 2] (by decide)
        exact ⟨A57, c58, c52.2.b, c52.2.at_, c52.2.failed, b60, c44.1, c52.1, _, ar (ar (ar trivial)), hO, hL, r59, mf0, hF⟩
      · refine wpn_pe ?_
        refine wpn_late ?_
        refine wpn_al hO fun b60 σ hO => ?_
        have hO : Obs _ _ [_, _, _] := hO
        refine wpn_nil ?_
        refine wpn_ag ⟨(again_ld rfl (mf0.le hO.base).fst rfl), (again_ld rfl (mf0.le hO.base).fst rfl), trivial⟩ ?_
        refine wpn_nil ?_
        refine wpn_pe ?_
        have hO := hO.sel [0, 2, 1] (by decide)
        refine wpn_c (hs := [_, _]) (vs := [_]) hO (zw (q0 := (⟨c44.2.b, c44.2.at_, c44.2.failed⟩ : zd)) r51 h53) rfl fun _ σ _ _ hO h54 h55 => ?_
        have hL := hL.trans h54
        have mf0 := mf0.le h54
        obtain ⟨v56, rfl, rfl, r59⟩ := h55
        obtain ⟨A57, c58, rfl, -⟩ := r59.form
        have hO : Obs _ _ [_, _, _] := hO
        refine wpn_nil ?_
        refine wpn_pq ?_
        refine wpn_qa hO [] [(0, .pointer (some af0)), (1, .pointer (some ⟨b1, 0, none⟩)), (2, .pointer (some ⟨b60, 0, none⟩)), (7, .agg #[(.int .i64 c44.1), (.int .i64 c52.1), (.slice none 0 0)])] (ar (ar (ar (ar trivial)))) fun j => ?_
        refine wpn_pe ?_
        refine wpn_st hO (i := 1) rfl (off := 0) rfl rfl rfl rfl (Nat.le_of_ble_eq_true rfl) rfl fun σ hO => ?_
        have hO : Obs _ _ [_, _, _] := hO
        refine wpn_nil ?_
        refine wpn_pd ?_
        refine wpn_end ?_
        refine thn_i ?_
        have hO := hO.sel [2, 0, 1] (by decide)
        exact ⟨A57, c58, c52.2.b, c52.2.at_, c52.2.failed, b60, c44.1, c52.1, _, ar (ar (ar trivial)), hO, hL, r59, mf0, hF⟩
    · refine wpn_pe ?_
      refine wpn_late ?_
      refine wpn_al hO fun b60 σ hO => ?_
      have hO : Obs _ _ [_, _, _] := hO
      refine wpn_nil ?_
      refine wpn_ag ⟨(again_ld rfl (mf0.le hO.base).fst rfl), (again_ld rfl (mf0.le hO.base).fst rfl), trivial⟩ ?_
      refine wpn_nil ?_
      refine wpn_pe ?_
      refine wpn_late ?_
      have hO := hO.sel [1, 2, 0] (by decide)
      refine wpn_c (hs := [_, _]) (vs := [_]) hO (zw (q0 := (⟨qf0.b, qf0.at_, qf0.failed⟩ : zd)) rmf0_0 h45) rfl fun _ σ _ _ hO h46 h47 => ?_
      have hL := hL.trans h46
      have mf0 := mf0.le h46
      obtain ⟨v48, rfl, rfl, r51⟩ := h47
      obtain ⟨A49, c50, rfl, -⟩ := r51.form
      have hO : Obs _ _ [_, _, _] := hO
      refine wpn_nil ?_
      refine wpn_ag ⟨(again_ld rfl (mf0.le hO.base).fst rfl), trivial⟩ ?_
      refine wpn_nil ?_
      refine wpn_pe ?_
      refine wpn_c (hs := [_, _]) (vs := [_]) hO (zw (q0 := (⟨c44.2.b, c44.2.at_, c44.2.failed⟩ : zd)) r51 h53) rfl fun _ σ _ _ hO h54 h55 => ?_
      have hL := hL.trans h54
      have mf0 := mf0.le h54
      obtain ⟨v56, rfl, rfl, r59⟩ := h55
      obtain ⟨A57, c58, rfl, -⟩ := r59.form
      have hO : Obs _ _ [_, _, _] := hO
      refine wpn_nil ?_
      refine wpn_pq ?_
      refine wpn_qa hO [] [(0, .pointer (some af0)), (1, .pointer (some ⟨b1, 0, none⟩)), (2, .pointer (some ⟨b60, 0, none⟩)), (7, .agg #[(.int .i64 c44.1), (.int .i64 c52.1), (.slice none 0 0)])] (ar (ar (ar (ar trivial)))) fun j => ?_
      refine wpn_pe ?_
      refine wpn_st hO (i := 1) rfl (off := 0) rfl rfl rfl rfl (Nat.le_of_ble_eq_true rfl) rfl fun σ hO => ?_
      have hO : Obs _ _ [_, _, _] := hO
      refine wpn_nil ?_
      refine wpn_pd ?_
      refine wpn_end ?_
      refine thn_i ?_
      have hO := hO.sel [2, 0, 1] (by decide)
      exact ⟨A57, c58, c52.2.b, c52.2.at_, c52.2.failed, b60, c44.1, c52.1, _, ar (ar (ar trivial)), hO, hL, r59, mf0, hF⟩
  · rintro e σ ⟨A19, c20, x21, x23, x24, b26, x27, x28, _, hA, hO, hL, r22, m25, hF⟩
    rw [← sets_agr _ _ hA]
    unfold zb9 at hF
    refine wpn_ld rfl (m25.le hO.base).fst ?_
    refine wpn_q hO 1 [] [(0, .pointer (some af0)), (1, .pointer (some ⟨b1, 0, none⟩)), (2, .pointer (some ⟨b26, 0, none⟩)), (8, .pointer (some ⟨bmf0, 0, none⟩)), (9, .func (.func 42) #[] #[(.pointer (some af0))])] (ar (ar (ar (ar (ar trivial))))) fun j => ?_
    obtain ⟨c29, h30, hF⟩ := bind_some hF
    have hO := hO.sel [1, 2, 0] (by decide)
    refine wpn_c (hs := [_, _]) (vs := [_]) hO (zfL (q0 := (⟨x21, x23, x24⟩ : zd)) r22 m25 h30) rfl fun _ σ _ _ hO h31 h32 => ?_
    have hL := hL.trans h31
    have m25 := m25.le h31
    obtain ⟨v33, o36, v38, rfl, rfl, w37, r41⟩ := h32
    obtain ⟨A34, c35, rfl, -⟩ := w37.form
    obtain ⟨A39, c40, rfl, -⟩ := r41.form
    have hO : Obs _ _ [_, _, _, _] := hO
    refine wpn_q hO 1 [] [(0, .pointer (some af0)), (1, .pointer (some ⟨b1, 0, none⟩)), (2, .pointer (some ⟨b26, 0, none⟩)), (10, .slice A34 c29.1.length c35), (11, .pointer (some ⟨b26, 2, none⟩))] (ar (ar (ar (ar (ar trivial))))) fun j => ?_
    refine wpn_st hO (i := 1) rfl (off := 2) rfl rfl rfl rfl (Nat.le_of_ble_eq_true rfl) rfl fun σ hO => ?_
    have hO : Obs _ _ [_, _, _, _] := hO
    refine wpn_nil ?_
    refine wpn_q hO 1 [1] [(0, .pointer (some af0)), (1, .pointer (some ⟨b1, 0, none⟩)), (12, .agg #[(.int .i64 x27), (.int .i64 x28), (.slice A34 c29.1.length c35)])] (And.intro (And.intro rfl rfl) (ar (ar (ar trivial)))) fun j => ?_
    refine wpn_st hO (i := 0) rfl (off := 0) rfl rfl rfl rfl (Nat.le_of_ble_eq_true rfl) rfl fun σ hO => ?_
    have hO : Obs _ _ [_, _, _, _] := hO
    refine wpn_nil ?_
    refine wpn_r1 ?_
    obtain ⟨_, h43, r42, hO⟩ := w37.share hO (i := 2) rfl
    have hL := hL.trans h43
    have m25 := m25.le h43
    have r41 := r41.le h43
    have hO : Obs _ _ [_, _, _, _] := hO
    injection hF with hF
    subst hF
    have hV0 := hO.val (i := 0) rfl (off := 0) (agg := true) (n := 3) rfl
    have hO := hO.sel [3] (by decide)
    exact hQ _ _ _ _ _ (resvs_c rfl (hV0) rfl) hO hL ⟨_, _, rfl, rfl, r42, r41⟩
theorem zeZ {τ : Hp} {q0 : zd} {bm0 : Nat} {vm0_0 : Value} {p1 : Int} {a2_0 : Addr} (rm0_0 : RdT Ty.u8 τ vm0_0 q0.b) (m2_0 : At τ a2_0 [.pointer (some ⟨bm0, 0, none⟩)]) {rr : (List zi) × zd} (hF : zcn q0 p1 = some rr) :
    Ctr Try.prog 39 #[.pointer (some ⟨bm0, 0, none⟩), .int .i64 p1, .func (.func 40) #[] #[(.pointer (some a2_0))]] τ [some (bm0, ⟨[vm0_0, .int .i64 q0.at_, .bool q0.failed], 82, 3, true⟩)] (fun v τ' vs' => ∃ (v0 : Value) (o0 : Ob) (u0_0 : Value), v = v0 ∧ vs' = [o0, some (bm0, ⟨[u0_0, .int .i64 rr.2.at_, .bool rr.2.failed], 82, 3, true⟩)] ∧ OwnO zl 59 τ' v0 rr.1 o0 ∧ RdT Ty.u8 τ' u0_0 rr.2.b) := by
  obtain ⟨Am0_0, cm0_0, rfl, -⟩ := rm0_0.form
  refine ctr_of (args := [.pointer (some ⟨bm0, 0, none⟩), .int .i64 p1, .func (.func 40) #[] #[(.pointer (some a2_0))]]) hm Try.func39 s39 rfl fun w0 σ hO Q hQ => ?_
  unfold zcn at hF
  have hL := Hp.le.refl τ
  show wpn _ _ a39.body _ _ _
  unfold a39
  dsimp only
  refine wpn_qa hO [] [(0, .pointer (some ⟨bm0, 0, none⟩)), (1, .int .i64 p1), (2, .func (.func 40) #[] #[(.pointer (some a2_0))])] (ar (ar (ar trivial))) fun j => ?_
  refine wpn_qa hO [] [(0, .pointer (some ⟨bm0, 0, none⟩)), (1, .int .i64 p1), (2, .func (.func 40) #[] #[(.pointer (some a2_0))]), (7, .slice none 0 0)] (ar (ar (ar (ar trivial)))) fun j => ?_
  refine wpn_assoc ?_
  refine wpn_q hO 2 [] [(0, .pointer (some ⟨bm0, 0, none⟩)), (2, .func (.func 40) #[] #[(.pointer (some a2_0))]), (7, .slice none 0 0), (9, .pointer (some ⟨bm0, 0, none⟩)), (10, .int .i64 p1)] (ar (ar (ar (ar (ar trivial))))) fun j => ?_
  obtain ⟨c4, h5, hF⟩ := bind_some hF
  refine wpn_c (hs := []) (vs := [_]) hO (zw (q0 := (⟨q0.b, q0.at_, q0.failed⟩ : zd)) rm0_0 h5) rfl fun _ σ _ _ hO h6 h7 => ?_
  have hL := hL.trans h6
  have m2_0 := m2_0.le h6
  obtain ⟨v8, rfl, rfl, r11⟩ := h7
  obtain ⟨A9, c10, rfl, -⟩ := r11.form
  have hO : Obs _ _ [_] := hO
  refine wpn_qa hO [] [(0, .pointer (some ⟨bm0, 0, none⟩)), (2, .func (.func 40) #[] #[(.pointer (some a2_0))]), (7, .slice none 0 0), (8, .int .i64 c4.1)] (ar (ar (ar (ar trivial)))) fun j => ?_
  refine wpn_bl ?_
  have hO := hO.no
  have hO : Obs _ _ [_, _] := hO
  refine wpn_lp (fun (n : Nat) e' σ' => ∃ (A33 : Option Addr) (c34 : Nat) (x35 : List UInt8) (x37 : Int) (x38 : Bool) (A40 : Option Addr) (c41 : Nat) (o42 : Ob) (x43 : List zi) (x45 : Int) (τ' : Hp), agr [(0, .pointer (some ⟨bm0, 0, none⟩)), (2, .func (.func 40) #[] #[(.pointer (some a2_0))]), (7, .slice A40 x43.length c41), (8, .int .i64 x45)] e' ∧ Obs τ' σ' [some (bm0, ⟨[.slice A33 x35.length c34, .int .i64 x37, .bool x38], 82, 3, true⟩), o42] ∧ Hp.le τ τ' ∧ RdT Ty.u8 τ' (.slice A33 x35.length c34) x35 ∧ At τ' a2_0 [.pointer (some ⟨bm0, 0, none⟩)] ∧ OwnO zl 59 τ' (.slice A40 x43.length c41) x43 o42 ∧ zbk  n x35 x37 x38 x43 x45 = some rr) big ⟨A9, c10, c4.2.b, c4.2.at_, c4.2.failed, none, 0, none, [], c4.1, _, ar (ar (ar (ar trivial))), hO, hL, r11, m2_0, OwnO.nil _ _ _, hF⟩ ?_
  clear hF hO hL
  rintro n64 e σ ⟨A33, c34, x35, x37, x38, A40, c41, o42, x43, x45, _, hA, hO, hL, r36, m39, w44, hF⟩
  rw [← sets_agr _ _ hA]
  cases n64 with
  | zero => exact nomatch (show none = some rr from hF)
  | succ n64 =>
    replace hF : zdC (zbk  n64) x35 x37 x38 x43 x45 = some rr := hF
    unfold zdC at hF
    refine wpn_assoc ?_
    refine wpn_qa hO [0] [(0, .pointer (some ⟨bm0, 0, none⟩)), (2, .func (.func 40) #[] #[(.pointer (some a2_0))]), (7, .slice A40 x43.length c41), (8, .int .i64 x45), (20, .bool ((decide (x45 > 0)) && (!x38)))] (And.intro (And.intro rfl rfl) (And.intro (And.intro rfl rfl) (fun _ => ar (ar (ar (ar (ar trivial))))))) fun j => ?_
    rcases ite_some hF with ⟨hb65, hF⟩ | ⟨hb65, hF⟩
    · refine wpn_cT (congrArg Value.bool hb65) ?_
      refine wpn_sk ?_
      refine wpn_bl ?_
      refine wpn_rlast ?_
      refine wpn_q hO 2 [] [(0, .pointer (some ⟨bm0, 0, none⟩)), (2, .func (.func 40) #[] #[(.pointer (some a2_0))]), (8, .int .i64 x45), (23, .slice A40 x43.length c41), (24, .func (.func 40) #[] #[(.pointer (some a2_0))])] (ar (ar (ar (ar (ar trivial))))) fun j => ?_
      obtain ⟨c66, h67, hF⟩ := bind_some hF
      have hO := hO.sel [1, 0] (by decide)
      refine wpn_cv (hs := [_]) (vs := [_]) rfl (by kernel_rfl) hO (ze9 (qf0 := (⟨x35, x37, x38⟩ : zd)) r36 m39 h67) rfl fun _ σ _ _ hO h68 h69 => ?_
      have hL := hL.trans h68
      have m39 := m39.le h68
      have w44 := w44.le h68
      obtain ⟨v70, v74, rfl, rfl, r71, r77⟩ := h69
      obtain ⟨A72, c73, rfl, -⟩ := r71.form
      obtain ⟨A75, c76, rfl, -⟩ := r77.form
      have hO : Obs _ _ [_, _] := hO
      obtain ⟨_, hr82, hF⟩ := bind_some hF
      refine wpn_ap1 (T := zl) (y := (⟨c66.1.Func, c66.1.Line, c66.1.Scope⟩ : zi)) hO w44 (i := 0) rfl rfl (fun _ => rfl) rfl ⟨_, rfl, r71⟩ rfl hr82 (by decide) fun u _ σ o80 w81 hO => ?_
      obtain ⟨A78, c79, rfl, -⟩ := w81.form
      have hO : Obs _ _ [_, _] := hO
      refine wpn_qa hO [] [(0, .pointer (some ⟨bm0, 0, none⟩)), (2, .func (.func 40) #[] #[(.pointer (some a2_0))]), (7, .slice A78 (x43 ++ [(⟨c66.1.Func, c66.1.Line, c66.1.Scope⟩ : zi)]).length c79), (8, .int .i64 x45)] (ar (ar (ar (ar trivial)))) fun j => ?_
      refine wpn_end ?_
      refine inb_i ?_
      refine thn_i ?_
      refine wpn_rlast ?_
      refine wpn_qa hO [] [(0, .pointer (some ⟨bm0, 0, none⟩)), (2, .func (.func 40) #[] #[(.pointer (some a2_0))]), (7, .slice A78 (x43 ++ [(⟨c66.1.Func, c66.1.Line, c66.1.Scope⟩ : zi)]).length c79), (8, .int .i64 (IntKind.i64.wrap (x45 - 1)))] (ar (ar (ar (ar trivial)))) fun j => ?_
      refine wpn_end ?_
      refine thn_i ?_
      have hO := hO.sel [1, 0] (by decide)
      exact ⟨n64, Nat.lt_succ_self _, A75, c76, c66.2.b, c66.2.at_, c66.2.failed, A78, c79, o80, (x43 ++ [(⟨c66.1.Func, c66.1.Line, c66.1.Scope⟩ : zi)]), (IntKind.i64.wrap (x45 - 1)), _, ar (ar (ar (ar trivial))), hO, hL, r77, m39, w81, hF⟩
    · refine wpn_cF (congrArg Value.bool hb65) ?_
      refine wpn_ex ?_
      refine thn_x ?_
      refine inb_x ?_
      refine thn_i ?_
      refine wpn_qa hO [] [(0, .pointer (some ⟨bm0, 0, none⟩)), (6, .slice A40 x43.length c41)] (ar (ar trivial)) fun j => ?_
      refine wpn_r1 ?_
      injection hF with hF
      subst hF
      have hO := hO.sel [1, 0] (by decide)
      exact hQ _ _ _ _ _ rfl hO hL ⟨_, _, _, rfl, rfl, w44, r36⟩
theorem zdH {τ : Hp} {v0 : Value} {p0 : (List UInt8)} {p1 : Int} (r0 : RdT Ty.u8 τ v0 p0) {rr : (List zc) × (List zi) × Int × Int} (hF : zH p0 p1 = some rr) :
    Ctr Try.prog 18 #[v0, .int .i64 p1] τ [] (fun v τ' vs' => ∃ (v0 : Value) (v1 : Value), v = .tuple #[v0, v1, .int .i64 rr.2.2.1, .int .i64 rr.2.2.2] ∧ vs' = [] ∧ RdT zj τ' v0 rr.1 ∧ RdT zl τ' v1 rr.2.1) := by
  obtain ⟨A0, c0, rfl, -⟩ := r0.form
  refine ctr_of (args := [.slice A0 p0.length c0, .int .i64 p1]) hm Try.func18 s18 rfl fun w0 σ hO Q hQ => ?_
  unfold zH at hF
  have hL := Hp.le.refl τ
  show wpn _ _ a18.body _ _ _
  unfold a18
  dsimp only
  refine wpn_qa hO [] [(0, .slice A0 p0.length c0), (1, .int .i64 p1)] (ar (ar trivial)) fun j => ?_
  refine wpn_assoc ?_
  refine wpn_qa hO [] [(0, .slice A0 p0.length c0), (1, .int .i64 p1), (17, .bool ((decide (p1 < 0)) || (decide (p1 > (p0.length : Int)))))] (And.intro (And.intro rfl rfl) (fun _ => ar (ar (ar trivial)))) fun j => ?_
  rcases ite_some hF with ⟨hb3, hF⟩ | ⟨hb3, hF⟩
  · refine wpn_cT (congrArg Value.bool hb3) ?_
    refine wpn_assoc ?_
    refine wpn_qa hO [] [(4, .slice none 0 0), (5, .slice none 0 0), (6, .int .i64 0), (7, .int .i64 1)] (ar (ar (ar (ar trivial)))) fun j => ?_
    refine wpn_rt ?_
    injection hF with hF
    subst hF
    exact hQ _ _ _ _ _ rfl hO hL ⟨_, _, rfl, rfl, (RdT.nil _ _), (RdT.nil _ _)⟩
  · refine wpn_cF (congrArg Value.bool hb3) ?_
    refine wpn_sk ?_
    refine wpn_q hO 3 [] [(20, .agg #[(.slice A0 p0.length c0), (.int .i64 p1), (.bool false)])] (ar trivial) fun j => ?_
    refine wpn_bx (n := 3) hO rfl rfl fun b4 σ hO => ?_
    have hO : Obs _ _ [_] := hO
    refine wpn_al hO fun b5 σ hO => ?_
    have hO : Obs _ _ [_, _] := hO
    refine wpn_st hO (i := 1) rfl (off := 0) rfl rfl rfl rfl (Nat.le_of_ble_eq_true rfl) rfl fun σ hO => ?_
    have hO : Obs _ _ [_, _] := hO
    refine wpn_nil ?_
    refine wpn_al hO fun b6 σ hO => ?_
    have hO : Obs _ _ [_, _, _] := hO
    refine wpn_st hO (i := 2) rfl (off := 0) rfl rfl rfl rfl (Nat.le_of_ble_eq_true rfl) rfl fun σ hO => ?_
    have hO : Obs _ _ [_, _, _] := hO
    refine wpn_nil ?_
    refine wpn_q hO 2 [1] [(8, .pointer (some ⟨b5, 0, none⟩)), (22, .pointer (some ⟨b4, 0, none⟩)), (23, .func (.func 32) #[] #[(.pointer (some ⟨b5, 0, none⟩)), (.pointer (some ⟨b6, 0, none⟩))])] (And.intro (And.intro rfl rfl) (ar (ar (ar trivial)))) fun j => ?_
    obtain ⟨_, h8, m7, hO⟩ := hO.shareV (i := 1) rfl
    have hL := hL.trans h8
    have r0 := r0.le h8
    have hO : Obs _ _ [_, _, _] := hO
    obtain ⟨c9, h10, hF⟩ := bind_some hF
    have hO := hO.sel [1, 0, 2] (by decide)
    refine wpn_c (hs := [_]) (vs := [_, _]) hO (zfA (q0 := (⟨p0, p1, false⟩ : zd)) r0 m7 h10) rfl fun _ σ _ _ hO h11 h12 => ?_
    have hL := hL.trans h11
    have m7 := m7.le h11
    obtain ⟨v13, o16, v18, rfl, rfl, w17, r21⟩ := h12
    obtain ⟨A14, c15, rfl, -⟩ := w17.form
    obtain ⟨A19, c20, rfl, -⟩ := r21.form
    have hO : Obs _ _ [_, _, _, _] := hO
    refine wpn_qa hO [] [(4, .slice A14 c9.1.length c15), (8, .pointer (some (⟨b5, 0, none⟩ : Addr)))] (ar (ar trivial)) fun j => ?_
    refine wpn_ld rfl (m7.le hO.base).fst ?_
    refine wpn_q hO 1 [] [(4, .slice A14 c9.1.length c15), (8, .pointer (some (⟨b5, 0, none⟩ : Addr))), (25, .pointer (some ⟨b4, 0, none⟩)), (26, .func (.func 40) #[] #[(.pointer (some (⟨b5, 0, none⟩ : Addr)))])] (ar (ar (ar (ar trivial)))) fun j => ?_
    obtain ⟨c22, h23, hF⟩ := bind_some hF
    have hO := hO.sel [0, 1, 3, 2] (by decide)
    refine wpn_c (hs := [_, _, _]) (vs := [_]) hO (zeZ (q0 := (⟨c9.2.1.b, c9.2.1.at_, c9.2.1.failed⟩ : zd)) r21 m7 h23) rfl fun _ σ _ _ hO h24 h25 => ?_
    have hL := hL.trans h24
    have w17 := w17.le h24
    have m7 := m7.le h24
    obtain ⟨v26, o29, v31, rfl, rfl, w30, r34⟩ := h25
    obtain ⟨A27, c28, rfl, -⟩ := w30.form
    obtain ⟨A32, c33, rfl, -⟩ := r34.form
    have hO : Obs _ _ [_, _, _, _, _] := hO
    refine wpn_qa hO [] [(4, .slice A14 c9.1.length c15), (5, .slice A27 c22.1.length c28), (8, .pointer (some (⟨b5, 0, none⟩ : Addr)))] (ar (ar (ar trivial))) fun j => ?_
    refine wpn_assoc ?_
    refine wpn_ld rfl (m7.le hO.base).fst ?_
    refine wpn_q hO 4 [4] [(4, .slice A14 c9.1.length c15), (5, .slice A27 c22.1.length c28), (8, .pointer (some (⟨b5, 0, none⟩ : Addr))), (32, .bool c22.2.failed)] (And.intro (And.intro rfl rfl) (ar (ar (ar (ar trivial))))) fun j => ?_
    obtain ⟨_, h36, r35, hO⟩ := w17.share hO (i := 1) rfl
    have hL := hL.trans h36
    have w30 := w30.le h36
    have m7 := m7.le h36
    have r34 := r34.le h36
    have hO : Obs _ _ [_, _, _, _, _] := hO
    obtain ⟨_, h38, r37, hO⟩ := w30.share hO (i := 3) rfl
    have hL := hL.trans h38
    have r35 := r35.le h38
    have m7 := m7.le h38
    have r34 := r34.le h38
    have hO : Obs _ _ [_, _, _, _, _] := hO
    have hO := hO.sel [4] (by decide)
    have hO : Obs _ _ [_] := hO
    obtain ⟨c39, h40, hF⟩ := bind_some hF
    refine wpn_mid 2 (fun e' σ' => ∃ (τ' : Hp), agr [(37, .bool c39), (4, .slice A14 c9.1.length c15), (5, .slice A27 c22.1.length c28), (8, .pointer (some (⟨b5, 0, none⟩ : Addr)))] e' ∧ Obs τ' σ' [some (b4, ⟨[.slice A32 c22.2.b.length c33, .int .i64 c22.2.at_, .bool c22.2.failed], 82, 3, true⟩)] ∧ Hp.le τ τ' ∧ RdT zj τ' (.slice A14 c9.1.length c15) c9.1 ∧ RdT zl τ' (.slice A27 c22.1.length c28) c22.1 ∧ At τ' (⟨b5, 0, none⟩ : Addr) [.pointer (some ⟨b4, 0, none⟩)] ∧ RdT Ty.u8 τ' (.slice A32 c22.2.b.length c33) c22.2.b) ?_ ?_
    · have hF := h40
      rcases ite_some hF with ⟨hb41, hF⟩ | ⟨hb41, hF⟩
      · refine wpn_gF (congrArg (fun x => isB (.bool x) false) hb41) ?_
        refine wpn_pk (congrArg Value.bool hb41) ?_
        refine wpn_nil ?_
        injection hF with hF
        subst hF
        refine wpn_end ?_
        exact ⟨rfl, _, ar (ar (ar (ar trivial))), hO, hL, r35, r37, m7, r34⟩
      · refine wpn_gT (congrArg (fun x => isB (.bool x) false) hb41) ?_
        refine wpn_q hO 2 [] [(4, .slice A14 c9.1.length c15), (5, .slice A27 c22.1.length c28), (8, .pointer (some (⟨b5, 0, none⟩ : Addr))), (32, .bool c22.2.failed), (33, .slice A14 c9.1.length c15), (34, .slice A27 c22.1.length c28)] (ar (ar (ar (ar (ar (ar trivial)))))) fun j => ?_
        obtain ⟨c42, h43, hF⟩ := bind_some hF
        refine wpn_c0 hO (zdv r35 r37 h43) rfl fun _ σ _ _ hO h44 h45 => ?_
        have hL := hL.trans h44
        have r35 := r35.le h44
        have r37 := r37.le h44
        have m7 := m7.le h44
        have r34 := r34.le h44
        obtain ⟨rfl, rfl⟩ := h45
        have hO : Obs _ _ [_] := hO
        refine wpn_q hO 1 [] [(4, .slice A14 c9.1.length c15), (5, .slice A27 c22.1.length c28), (8, .pointer (some (⟨b5, 0, none⟩ : Addr))), (32, .bool c22.2.failed), (36, .bool (!c42))] (ar (ar (ar (ar (ar trivial))))) fun j => ?_
        refine wpn_pk (congrArg Value.bool hb41) ?_
        refine wpn_nil ?_
        injection hF with hF
        subst hF
        refine wpn_end ?_
        exact ⟨rfl, _, ar (ar (ar (ar trivial))), hO, hL, r35, r37, m7, r34⟩
    · rintro e σ ⟨_, hA, hO, hL, r35, r37, m7, r34⟩
      rw [← sets_agr _ _ hA]
      refine wpn_nil ?_
      rcases ite_some hF with ⟨hb46, hF⟩ | ⟨hb46, hF⟩
      · refine wpn_cT (congrArg Value.bool hb46) ?_
        refine wpn_assoc ?_
        refine wpn_qa hO [] [(4, .slice none 0 0), (5, .slice none 0 0), (6, .int .i64 0), (7, .int .i64 5)] (ar (ar (ar (ar trivial)))) fun j => ?_
        refine wpn_rt ?_
        injection hF with hF
        subst hF
        have hO := hO.sel [] (by decide)
        exact hQ _ _ _ _ _ rfl hO hL ⟨_, _, rfl, rfl, (RdT.nil _ _), (RdT.nil _ _)⟩
      · refine wpn_cF (congrArg Value.bool hb46) ?_
        refine wpn_sk ?_
        refine wpn_p2r ?_
        refine wpn_q hO 2 [] [(8, .pointer (some (⟨b5, 0, none⟩ : Addr))), (38, .slice A14 c9.1.length c15), (39, .slice A27 c22.1.length c28)] (ar (ar (ar trivial))) fun j => ?_
        refine wpn_ld rfl (m7.le hO.base).fst ?_
        refine wpn_q hO 3 [0] [(8, .pointer (some (⟨b5, 0, none⟩ : Addr))), (38, .slice A14 c9.1.length c15), (39, .slice A27 c22.1.length c28), (40, .pointer (some ⟨b4, 0, none⟩)), (42, .pointer (some ⟨b4, 1, none⟩)), (43, .int .i64 c22.2.at_)] (And.intro (And.intro rfl rfl) (ar (ar (ar (ar (ar (ar trivial))))))) fun j => ?_
        refine wpn_late ?_
        refine wpn_qa hO [] [(4, .slice A14 c9.1.length c15), (8, .pointer (some (⟨b5, 0, none⟩ : Addr))), (39, .slice A27 c22.1.length c28), (40, .pointer (some ⟨b4, 0, none⟩)), (42, .pointer (some ⟨b4, 1, none⟩)), (43, .int .i64 c22.2.at_)] (ar (ar (ar (ar (ar (ar trivial)))))) fun j => ?_
        refine wpn_ag ⟨(again_ld rfl (hO.val (i := 0) (off := 1) (agg := false) (n := 1) rfl rfl) rfl), (again_ld rfl (m7.le hO.base).fst rfl), trivial⟩ ?_
        refine wpn_late ?_
        refine wpn_qa hO [] [(4, .slice A14 c9.1.length c15), (5, .slice A27 c22.1.length c28), (8, .pointer (some (⟨b5, 0, none⟩ : Addr))), (40, .pointer (some ⟨b4, 0, none⟩)), (42, .pointer (some ⟨b4, 1, none⟩)), (43, .int .i64 c22.2.at_)] (ar (ar (ar (ar (ar (ar trivial)))))) fun j => ?_
        refine wpn_ag ⟨(again_ld rfl (hO.val (i := 0) (off := 1) (agg := false) (n := 1) rfl rfl) rfl), (again_ld rfl (m7.le hO.base).fst rfl), trivial⟩ ?_
        refine wpn_qa hO [] [(4, .slice A14 c9.1.length c15), (5, .slice A27 c22.1.length c28), (6, .int .i64 c22.2.at_), (7, .int .i64 0)] (ar (ar (ar (ar trivial)))) fun j => ?_
        refine wpn_r1 ?_
        injection hF with hF
        subst hF
        have hO := hO.sel [] (by decide)
        exact hQ _ _ _ _ _ rfl hO hL ⟨_, _, rfl, rfl, r35, r37⟩
theorem zfb {τ : Hp}   {rr : zu} (hF : zdJ  = some rr) :
    Ctr Try.prog 22 #[] τ [] (fun v τ' vs' => ∃ (v0_0 : Value) (v0_1 : Value), v = .agg #[v0_0, v0_1] ∧ vs' = [] ∧ RdT zj τ' v0_0 rr.L ∧ RdT zl τ' v0_1 rr.Points) := by
  refine ctr_of (args := []) hm Try.func22 s22 rfl fun w0 σ hO Q hQ => ?_
  unfold zdJ at hF
  have hL := Hp.le.refl τ
  show wpn _ _ a22.body _ _ _
  unfold a22
  dsimp only
  refine wpn_al hO fun b1 σ hO => ?_
  have hO : Obs _ _ [_] := hO
  refine wpn_nil ?_
  refine wpn_q hO 2 [] [(0, .pointer (some ⟨b1, 0, none⟩)), (4, .agg #[(.string (⟨#[120]⟩ : ByteArray)), (.int .u8 1), (.int .i64 0), (.string (⟨#[]⟩ : ByteArray)), (.int .i64 1), (.slice none 0 0)])] (ar (ar trivial)) fun j => ?_
  refine wpn_al hO fun b2 σ hO => ?_
  have hO : Obs _ _ [_, _] := hO
  refine wpn_st hO (i := 1) rfl (off := 0) rfl rfl rfl rfl (Nat.le_of_ble_eq_true rfl) rfl fun σ hO => ?_
  have hO : Obs _ _ [_, _] := hO
  refine wpn_nil ?_
  refine wpn_q hO 1 [] [(0, .pointer (some ⟨b1, 0, none⟩)), (1, .pointer (some ⟨b2, 0, none⟩)), (5, .agg #[(.int .u8 2), (.int .i64 1)])] (ar (ar (ar trivial))) fun j => ?_
  refine wpn_lit (T := zq) (l := ([(⟨(2 : UInt8), 1⟩ : zg)] : List zg)) (cs := [.int .u8 2, .int .i64 1]) hO rfl ⟨[.int .u8 2, .int .i64 1], _, rfl, rfl, rfl⟩ rfl (by decide) fun _ σ o5 w6 hO => ?_
  obtain ⟨A3, c4, rfl, -⟩ := w6.form
  have hO : Obs _ _ [_, _, _] := hO
  refine wpn_q hO 1 [] [(0, .pointer (some ⟨b1, 0, none⟩)), (1, .pointer (some ⟨b2, 0, none⟩)), (7, .agg #[(.int .i64 2), (.int .i64 5), (.slice A3 ([(⟨(2 : UInt8), 1⟩ : zg)] : List zg).length c4)])] (ar (ar (ar trivial))) fun j => ?_
  obtain ⟨_, h8, r7, hO⟩ := w6.share hO (i := 2) rfl
  have hL := hL.trans h8
  have hO : Obs _ _ [_, _, _] := hO
  refine wpn_lit (T := zk) (l := ([(⟨2, 5, ([(⟨(2 : UInt8), 1⟩ : zg)] : List zg)⟩ : ze)] : List ze)) (cs := [.int .i64 2, .int .i64 5, .slice A3 ([(⟨(2 : UInt8), 1⟩ : zg)] : List zg).length c4]) hO rfl ⟨[.int .i64 2, .int .i64 5, .slice A3 ([(⟨(2 : UInt8), 1⟩ : zg)] : List zg).length c4], _, rfl, ⟨_, rfl, r7⟩, rfl⟩ rfl (by decide) fun _ σ o11 w12 hO => ?_
  obtain ⟨A9, c10, rfl, -⟩ := w12.form
  have hO : Obs _ _ [_, _, _, _] := hO
  refine wpn_qa hO [] [(0, .pointer (some ⟨b1, 0, none⟩)), (1, .pointer (some ⟨b2, 0, none⟩)), (2, .slice A9 ([(⟨2, 5, ([(⟨(2 : UInt8), 1⟩ : zg)] : List zg)⟩ : ze)] : List ze).length c10)] (ar (ar (ar trivial))) fun j => ?_
  refine wpn_q hO 1 [1] [(0, .pointer (some ⟨b1, 0, none⟩)), (2, .slice A9 ([(⟨2, 5, ([(⟨(2 : UInt8), 1⟩ : zg)] : List zg)⟩ : ze)] : List ze).length c10), (9, .agg #[(.string (⟨#[120]⟩ : ByteArray)), (.int .u8 1), (.int .i64 0), (.string (⟨#[]⟩ : ByteArray)), (.int .i64 1), (.slice none 0 0)])] (And.intro (And.intro rfl rfl) (ar (ar (ar trivial)))) fun j => ?_
  refine wpn_lit (T := zn) (l := ([(⟨(⟨#[120]⟩ : ByteArray), (⟨(1 : UInt8), 0, (⟨#[]⟩ : ByteArray)⟩ : zp), 1, []⟩ : zh)] : List zh)) (cs := [.string (⟨#[120]⟩ : ByteArray), .int .u8 1, .int .i64 0, .string (⟨#[]⟩ : ByteArray), .int .i64 1, .slice none 0 0]) hO rfl ⟨[.string (⟨#[120]⟩ : ByteArray), .int .u8 1, .int .i64 0, .string (⟨#[]⟩ : ByteArray), .int .i64 1, .slice none 0 0], _, rfl, ⟨_, rfl, RdT.nil _ _⟩, rfl⟩ rfl (by decide) fun _ σ o15 w16 hO => ?_
  obtain ⟨A13, c14, rfl, -⟩ := w16.form
  have hO : Obs _ _ [_, _, _, _, _] := hO
  refine wpn_q hO 1 [] [(0, .pointer (some ⟨b1, 0, none⟩)), (10, .slice A13 ([(⟨(⟨#[120]⟩ : ByteArray), (⟨(1 : UInt8), 0, (⟨#[]⟩ : ByteArray)⟩ : zp), 1, []⟩ : zh)] : List zh).length c14), (11, .slice A9 ([(⟨2, 5, ([(⟨(2 : UInt8), 1⟩ : zg)] : List zg)⟩ : ze)] : List ze).length c10)] (ar (ar (ar trivial))) fun j => ?_
  obtain ⟨_, h18, r17, hO⟩ := w12.share hO (i := 3) rfl
  have hL := hL.trans h18
  have w16 := w16.le h18
  have hO : Obs _ _ [_, _, _, _, _] := hO
  refine wpn_lit (T := (Ty.slice zk)) (l := ([([(⟨2, 5, ([(⟨(2 : UInt8), 1⟩ : zg)] : List zg)⟩ : ze)] : List ze)] : List (List ze))) (cs := [.slice A9 ([(⟨2, 5, ([(⟨(2 : UInt8), 1⟩ : zg)] : List zg)⟩ : ze)] : List ze).length c10]) hO rfl ⟨[.slice A9 ([(⟨2, 5, ([(⟨(2 : UInt8), 1⟩ : zg)] : List zg)⟩ : ze)] : List ze).length c10], _, rfl, ⟨_, rfl, r17⟩, rfl⟩ rfl (by decide) fun _ σ o21 w22 hO => ?_
  obtain ⟨A19, c20, rfl, -⟩ := w22.form
  have hO : Obs _ _ [_, _, _, _, _, _] := hO
  refine wpn_q hO 1 [] [(0, .pointer (some ⟨b1, 0, none⟩)), (13, .agg #[(.string (⟨#[102]⟩ : ByteArray)), (.int .i64 0), (.int .i64 9), (.slice A13 ([(⟨(⟨#[120]⟩ : ByteArray), (⟨(1 : UInt8), 0, (⟨#[]⟩ : ByteArray)⟩ : zp), 1, []⟩ : zh)] : List zh).length c14), (.slice A19 ([([(⟨2, 5, ([(⟨(2 : UInt8), 1⟩ : zg)] : List zg)⟩ : ze)] : List ze)] : List (List ze)).length c20)])] (ar (ar trivial)) fun j => ?_
  obtain ⟨_, h24, r23, hO⟩ := w16.share hO (i := 4) rfl
  have hL := hL.trans h24
  have w22 := w22.le h24
  have hO : Obs _ _ [_, _, _, _, _, _] := hO
  obtain ⟨_, h26, r25, hO⟩ := w22.share hO (i := 5) rfl
  have hL := hL.trans h26
  have r23 := r23.le h26
  have hO : Obs _ _ [_, _, _, _, _, _] := hO
  refine wpn_lit (T := zj) (l := ([(⟨(⟨#[102]⟩ : ByteArray), 0, 9, ([(⟨(⟨#[120]⟩ : ByteArray), (⟨(1 : UInt8), 0, (⟨#[]⟩ : ByteArray)⟩ : zp), 1, []⟩ : zh)] : List zh), ([([(⟨2, 5, ([(⟨(2 : UInt8), 1⟩ : zg)] : List zg)⟩ : ze)] : List ze)] : List (List ze))⟩ : zc)] : List zc)) (cs := [.string (⟨#[102]⟩ : ByteArray), .int .i64 0, .int .i64 9, .slice A13 ([(⟨(⟨#[120]⟩ : ByteArray), (⟨(1 : UInt8), 0, (⟨#[]⟩ : ByteArray)⟩ : zp), 1, []⟩ : zh)] : List zh).length c14, .slice A19 ([([(⟨2, 5, ([(⟨(2 : UInt8), 1⟩ : zg)] : List zg)⟩ : ze)] : List ze)] : List (List ze)).length c20]) hO rfl ⟨[.string (⟨#[102]⟩ : ByteArray), .int .i64 0, .int .i64 9, .slice A13 ([(⟨(⟨#[120]⟩ : ByteArray), (⟨(1 : UInt8), 0, (⟨#[]⟩ : ByteArray)⟩ : zp), 1, []⟩ : zh)] : List zh).length c14, .slice A19 ([([(⟨2, 5, ([(⟨(2 : UInt8), 1⟩ : zg)] : List zg)⟩ : ze)] : List ze)] : List (List ze)).length c20], _, rfl, ⟨_, _, rfl, r23, r25⟩, rfl⟩ rfl (by decide) fun _ σ o29 w30 hO => ?_
  obtain ⟨A27, c28, rfl, -⟩ := w30.form
  have hO : Obs _ _ [_, _, _, _, _, _, _] := hO
  refine wpn_lit (T := (Ty.int .i64)) (l := ([0] : List Int)) (cs := [.int .i64 0]) hO rfl ⟨[.int .i64 0], _, rfl, rfl, rfl⟩ rfl (by decide) fun _ σ o33 w34 hO => ?_
  obtain ⟨A31, c32, rfl, -⟩ := w34.form
  have hO : Obs _ _ [_, _, _, _, _, _, _, _] := hO
  refine wpn_q hO 1 [] [(0, .pointer (some ⟨b1, 0, none⟩)), (14, .slice A27 ([(⟨(⟨#[102]⟩ : ByteArray), 0, 9, ([(⟨(⟨#[120]⟩ : ByteArray), (⟨(1 : UInt8), 0, (⟨#[]⟩ : ByteArray)⟩ : zp), 1, []⟩ : zh)] : List zh), ([([(⟨2, 5, ([(⟨(2 : UInt8), 1⟩ : zg)] : List zg)⟩ : ze)] : List ze)] : List (List ze))⟩ : zc)] : List zc).length c28), (16, .agg #[(.int .i64 0), (.int .i64 3), (.slice A31 ([0] : List Int).length c32)])] (ar (ar (ar trivial))) fun j => ?_
  obtain ⟨_, h36, r35, hO⟩ := w34.share hO (i := 7) rfl
  have hL := hL.trans h36
  have w30 := w30.le h36
  have hO : Obs _ _ [_, _, _, _, _, _, _, _] := hO
  refine wpn_lit (T := zl) (l := ([(⟨0, 3, ([0] : List Int)⟩ : zi)] : List zi)) (cs := [.int .i64 0, .int .i64 3, .slice A31 ([0] : List Int).length c32]) hO rfl ⟨[.int .i64 0, .int .i64 3, .slice A31 ([0] : List Int).length c32], _, rfl, ⟨_, rfl, r35⟩, rfl⟩ rfl (by decide) fun _ σ o39 w40 hO => ?_
  obtain ⟨A37, c38, rfl, -⟩ := w40.form
  have hO : Obs _ _ [_, _, _, _, _, _, _, _, _] := hO
  refine wpn_q hO 1 [] [(0, .pointer (some ⟨b1, 0, none⟩)), (18, .agg #[(.slice A27 ([(⟨(⟨#[102]⟩ : ByteArray), 0, 9, ([(⟨(⟨#[120]⟩ : ByteArray), (⟨(1 : UInt8), 0, (⟨#[]⟩ : ByteArray)⟩ : zp), 1, []⟩ : zh)] : List zh), ([([(⟨2, 5, ([(⟨(2 : UInt8), 1⟩ : zg)] : List zg)⟩ : ze)] : List ze)] : List (List ze))⟩ : zc)] : List zc).length c28), (.slice A37 ([(⟨0, 3, ([0] : List Int)⟩ : zi)] : List zi).length c38)])] (ar (ar trivial)) fun j => ?_
  refine wpn_st hO (i := 0) rfl (off := 0) rfl rfl rfl rfl (Nat.le_of_ble_eq_true rfl) rfl fun σ hO => ?_
  have hO : Obs _ _ [_, _, _, _, _, _, _, _, _] := hO
  refine wpn_nil ?_
  refine wpn_r1 ?_
  obtain ⟨_, h42, r41, hO⟩ := w30.share hO (i := 6) rfl
  have hL := hL.trans h42
  have w40 := w40.le h42
  have hO : Obs _ _ [_, _, _, _, _, _, _, _, _] := hO
  obtain ⟨_, h44, r43, hO⟩ := w40.share hO (i := 8) rfl
  have hL := hL.trans h44
  have r41 := r41.le h44
  have hO : Obs _ _ [_, _, _, _, _, _, _, _, _] := hO
  injection hF with hF
  subst hF
  have hV0 := hO.val (i := 0) rfl (off := 0) (agg := true) (n := 2) rfl
  have hO := hO.sel [] (by decide)
  exact hQ _ _ _ _ _ (resvs_c rfl (hV0) rfl) hO hL ⟨_, _, rfl, rfl, r41, r43⟩
theorem zdO {τ : Hp}   {rr : Bool} (hF : zbb  = some rr) :
    Ctr Try.prog 7 #[] τ [] (fun v τ' vs' => v = .bool rr ∧ vs' = []) := by
  refine ctr_of (args := []) hm Try.func7 s7 rfl fun w0 σ hO Q hQ => ?_
  unfold zbb at hF
  have hL := Hp.le.refl τ
  show wpn _ _ a7.body _ _ _
  unfold a7
  dsimp only
  refine wpn_qa hO [] [] (trivial) fun j => ?_
  obtain ⟨c1, h2, hF⟩ := bind_some hF
  refine wpn_c0 hO (zfb h2) rfl fun _ σ _ _ hO h3 h4 => ?_
  have hL := hL.trans h3
  obtain ⟨v5, v9, rfl, rfl, r6, r10⟩ := h4
  obtain ⟨A7, c8, rfl, -⟩ := r6.form
  obtain ⟨A11, c12, rfl, -⟩ := r10.form
  have hO : Obs _ _ [] := hO
  refine wpn_al hO fun b13 σ hO => ?_
  have hO : Obs _ _ [_] := hO
  refine wpn_st hO (i := 0) rfl (off := 0) rfl rfl rfl rfl (Nat.le_of_ble_eq_true rfl) rfl fun σ hO => ?_
  have hO : Obs _ _ [_] := hO
  refine wpn_nil ?_
  refine wpn_q hO 4 [0, 0] [(1, .pointer (some ⟨b13, 0, none⟩)), (15, .slice A7 c1.L.length c8), (17, .slice A11 c1.Points.length c12)] (And.intro (And.intro rfl rfl) (And.intro (And.intro rfl rfl) (ar (ar (ar trivial))))) fun j => ?_
  obtain ⟨c14, h15, hF⟩ := bind_some hF
  refine wpn_c0 hO (zdK (RdT.nil Ty.u8 _) r6 r10 h15) rfl fun _ σ _ _ hO h16 h17 => ?_
  have hL := hL.trans h16
  have r6 := r6.le h16
  have r10 := r10.le h16
  obtain ⟨v18, o21, rfl, rfl, w22⟩ := h17
  obtain ⟨A19, c20, rfl, -⟩ := w22.form
  have hO : Obs _ _ [_, _] := hO
  refine wpn_qa hO [] [(1, .pointer (some ⟨b13, 0, none⟩)), (2, .slice A19 c14.1.length c20), (3, .int .i64 c14.2)] (ar (ar (ar trivial))) fun j => ?_
  refine wpn_q hO 1 [] [(1, .pointer (some ⟨b13, 0, none⟩)), (2, .slice A19 c14.1.length c20), (3, .int .i64 c14.2), (22, .slice A19 c14.1.length c20)] (ar (ar (ar (ar trivial)))) fun j => ?_
  obtain ⟨_, h24, r23, hO⟩ := w22.share hO (i := 1) rfl
  have hL := hL.trans h24
  have r6 := r6.le h24
  have r10 := r10.le h24
  have hO : Obs _ _ [_, _] := hO
  obtain ⟨c25, h26, hF⟩ := bind_some hF
  refine wpn_c0 hO (zdH r23 h26) rfl fun _ σ _ _ hO h27 h28 => ?_
  have hL := hL.trans h27
  have r23 := r23.le h27
  have r6 := r6.le h27
  have r10 := r10.le h27
  obtain ⟨v29, v33, rfl, rfl, r32, r36⟩ := h28
  obtain ⟨A30, c31, rfl, -⟩ := r32.form
  obtain ⟨A34, c35, rfl, -⟩ := r36.form
  have hO : Obs _ _ [_, _] := hO
  refine wpn_qa hO [] [(1, .pointer (some ⟨b13, 0, none⟩)), (2, .slice A19 c14.1.length c20), (3, .int .i64 c14.2), (4, .slice A30 c25.1.length c31), (5, .slice A34 c25.2.1.length c35), (6, .int .i64 c25.2.2.1), (7, .int .i64 c25.2.2.2)] (ar (ar (ar (ar (ar (ar (ar trivial))))))) fun j => ?_
  refine wpn_q hO 1 [] [(1, .pointer (some ⟨b13, 0, none⟩)), (2, .slice A19 c14.1.length c20), (3, .int .i64 c14.2), (4, .slice A30 c25.1.length c31), (5, .slice A34 c25.2.1.length c35), (6, .int .i64 c25.2.2.1), (7, .int .i64 c25.2.2.2), (29, .slice A30 c25.1.length c31)] (ar (ar (ar (ar (ar (ar (ar (ar trivial)))))))) fun j => ?_
  obtain ⟨c37, h38, hF⟩ := bind_some hF
  refine wpn_c0 hO (zfu r32 h38) rfl fun _ σ _ _ hO h39 h40 => ?_
  have hL := hL.trans h39
  have r23 := r23.le h39
  have r32 := r32.le h39
  have r36 := r36.le h39
  have r6 := r6.le h39
  have r10 := r10.le h39
  obtain ⟨rfl, rfl⟩ := h40
  have hO : Obs _ _ [_, _] := hO
  refine wpn_qa hO [] [(1, .pointer (some ⟨b13, 0, none⟩)), (2, .slice A19 c14.1.length c20), (3, .int .i64 c14.2), (4, .slice A30 c25.1.length c31), (5, .slice A34 c25.2.1.length c35), (6, .int .i64 c25.2.2.1), (7, .int .i64 c25.2.2.2), (8, .int .i64 c37.1), (9, .bool c37.2)] (ar (ar (ar (ar (ar (ar (ar (ar (ar trivial))))))))) fun j => ?_
  refine wpn_q hO 2 [] [(1, .pointer (some ⟨b13, 0, none⟩)), (2, .slice A19 c14.1.length c20), (3, .int .i64 c14.2), (4, .slice A30 c25.1.length c31), (5, .slice A34 c25.2.1.length c35), (6, .int .i64 c25.2.2.1), (7, .int .i64 c25.2.2.2), (8, .int .i64 c37.1), (9, .bool c37.2), (34, .slice A30 c25.1.length c31), (35, .slice A34 c25.2.1.length c35)] (ar (ar (ar (ar (ar (ar (ar (ar (ar (ar (ar trivial))))))))))) fun j => ?_
  obtain ⟨c41, h42, hF⟩ := bind_some hF
  refine wpn_c0 hO (zeu (p3 := (⟨#[120]⟩ : ByteArray)) r32 r36 h42) rfl fun _ σ _ _ hO h43 h44 => ?_
  have hL := hL.trans h43
  have r23 := r23.le h43
  have r32 := r32.le h43
  have r36 := r36.le h43
  have r6 := r6.le h43
  have r10 := r10.le h43
  obtain ⟨rfl, rfl⟩ := h44
  have hO : Obs _ _ [_, _] := hO
  refine wpn_qa hO [] [(1, .pointer (some ⟨b13, 0, none⟩)), (2, .slice A19 c14.1.length c20), (3, .int .i64 c14.2), (4, .slice A30 c25.1.length c31), (5, .slice A34 c25.2.1.length c35), (6, .int .i64 c25.2.2.1), (7, .int .i64 c25.2.2.2), (8, .int .i64 c37.1), (9, .bool c37.2), (10, .int .i64 c41.1), (11, .bool c41.2)] (ar (ar (ar (ar (ar (ar (ar (ar (ar (ar (ar trivial))))))))))) fun j => ?_
  refine wpn_q hO 12 [] [(1, .pointer (some ⟨b13, 0, none⟩)), (4, .slice A30 c25.1.length c31), (5, .slice A34 c25.2.1.length c35), (8, .int .i64 c37.1), (9, .bool c37.2), (10, .int .i64 c41.1), (11, .bool c41.2), (54, .bool ((((c14.2 == 0) && ((c14.1.length : Int) == 20)) && (c25.2.2.2 == 0)) && (c25.2.2.1 == 20)))] (And.intro (And.intro rfl rfl) (fun _ => And.intro (And.intro rfl rfl) (fun _ => And.intro (And.intro rfl rfl) (fun _ => ar (ar (ar (ar (ar (ar (ar (ar trivial))))))))))) fun j => ?_
  have hO := hO.sel [0] (by decide)
  have hO : Obs _ _ [_] := hO
  obtain ⟨c45, h46, hF⟩ := bind_some hF
  refine wpn_mid 2 (fun e' σ' => ∃ (τ' : Hp), agr [(59, .bool c45), (1, .pointer (some ⟨b13, 0, none⟩)), (5, .slice A34 c25.2.1.length c35), (8, .int .i64 c37.1), (9, .bool c37.2), (10, .int .i64 c41.1), (11, .bool c41.2)] e' ∧ Obs τ' σ' [some (b13, ⟨[.slice A7 c1.L.length c8, .slice A11 c1.Points.length c12], 25, 2, true⟩)] ∧ Hp.le τ τ' ∧ RdT zl τ' (.slice A34 c25.2.1.length c35) c25.2.1 ∧ RdT zj τ' (.slice A7 c1.L.length c8) c1.L ∧ RdT zl τ' (.slice A11 c1.Points.length c12) c1.Points) ?_ ?_
  · have hF := h46
    rcases ite_some hF with ⟨hb47, hF⟩ | ⟨hb47, hF⟩
    · refine wpn_gT (congrArg (fun x => isB (.bool x) true) hb47) ?_
      refine wpn_q hO 3 [0] [(1, .pointer (some ⟨b13, 0, none⟩)), (5, .slice A34 c25.2.1.length c35), (8, .int .i64 c37.1), (9, .bool c37.2), (10, .int .i64 c41.1), (11, .bool c41.2), (54, .bool ((((c14.2 == 0) && ((c14.1.length : Int) == 20)) && (c25.2.2.2 == 0)) && (c25.2.2.1 == 20))), (55, .slice A30 c25.1.length c31), (57, .slice A7 c1.L.length c8)] (And.intro (And.intro rfl rfl) (ar (ar (ar (ar (ar (ar (ar (ar (ar trivial)))))))))) fun j => ?_
      obtain ⟨c48, h49, hF⟩ := bind_some hF
      refine wpn_c0 hO (zd0 r32 r6 h49) rfl fun _ σ _ _ hO h50 h51 => ?_
      have hL := hL.trans h50
      have r36 := r36.le h50
      have r32 := r32.le h50
      have r6 := r6.le h50
      have r10 := r10.le h50
      obtain ⟨rfl, rfl⟩ := h51
      have hO : Obs _ _ [_] := hO
      refine wpn_pk (congrArg Value.bool hb47) ?_
      refine wpn_nil ?_
      injection hF with hF
      subst hF
      refine wpn_end ?_
      exact ⟨rfl, _, ar (ar (ar (ar (ar (ar (ar trivial)))))), hO, hL, r36, r6, r10⟩
    · refine wpn_gF (congrArg (fun x => isB (.bool x) true) hb47) ?_
      refine wpn_pk (congrArg Value.bool hb47) ?_
      refine wpn_nil ?_
      injection hF with hF
      subst hF
      refine wpn_end ?_
      exact ⟨rfl, _, ar (ar (ar (ar (ar (ar (ar trivial)))))), hO, hL, r36, r6, r10⟩
  · rintro e σ ⟨_, hA, hO, hL, r36, r6, r10⟩
    rw [← sets_agr _ _ hA]
    refine wpn_q hO 1 [] [(1, .pointer (some ⟨b13, 0, none⟩)), (5, .slice A34 c25.2.1.length c35), (8, .int .i64 c37.1), (9, .bool c37.2), (10, .int .i64 c41.1), (11, .bool c41.2), (60, .bool c45)] (ar (ar (ar (ar (ar (ar (ar trivial))))))) fun j => ?_
    obtain ⟨c52, h53, hF⟩ := bind_some hF
    refine wpn_mid 2 (fun e' σ' => ∃ (τ' : Hp), agr [(65, .bool c52), (8, .int .i64 c37.1), (9, .bool c37.2), (10, .int .i64 c41.1), (11, .bool c41.2)] e' ∧ Obs τ' σ' [some (b13, ⟨[.slice A7 c1.L.length c8, .slice A11 c1.Points.length c12], 25, 2, true⟩)] ∧ Hp.le τ τ' ∧ RdT zj τ' (.slice A7 c1.L.length c8) c1.L ∧ RdT zl τ' (.slice A11 c1.Points.length c12) c1.Points) ?_ ?_
    · have hF := h53
      rcases ite_some hF with ⟨hb54, hF⟩ | ⟨hb54, hF⟩
      · refine wpn_gT (congrArg (fun x => isB (.bool x) true) hb54) ?_
        refine wpn_q hO 3 [0] [(8, .int .i64 c37.1), (9, .bool c37.2), (10, .int .i64 c41.1), (11, .bool c41.2), (60, .bool c45), (61, .slice A34 c25.2.1.length c35), (63, .slice A11 c1.Points.length c12)] (And.intro (And.intro rfl rfl) (ar (ar (ar (ar (ar (ar (ar trivial)))))))) fun j => ?_
        obtain ⟨c55, h56, hF⟩ := bind_some hF
        refine wpn_c0 hO (zdT r36 r10 h56) rfl fun _ σ _ _ hO h57 h58 => ?_
        have hL := hL.trans h57
        have r36 := r36.le h57
        have r10 := r10.le h57
        have r6 := r6.le h57
        obtain ⟨rfl, rfl⟩ := h58
        have hO : Obs _ _ [_] := hO
        refine wpn_pk (congrArg Value.bool hb54) ?_
        refine wpn_nil ?_
        injection hF with hF
        subst hF
        refine wpn_end ?_
        exact ⟨rfl, _, ar (ar (ar (ar (ar trivial)))), hO, hL, r6, r10⟩
      · refine wpn_gF (congrArg (fun x => isB (.bool x) true) hb54) ?_
        refine wpn_pk (congrArg Value.bool hb54) ?_
        refine wpn_nil ?_
        injection hF with hF
        subst hF
        refine wpn_end ?_
        exact ⟨rfl, _, ar (ar (ar (ar (ar trivial)))), hO, hL, r6, r10⟩
    · rintro e σ ⟨_, hA, hO, hL, r6, r10⟩
      rw [← sets_agr _ _ hA]
      refine wpn_qa hO [] [(0, .bool ((((c52 && (c37.1 == 0)) && c37.2) && (c41.1 == 0)) && c41.2))] (And.intro (And.intro rfl rfl) (fun _ => And.intro (And.intro rfl rfl) (fun _ => And.intro (And.intro rfl rfl) (fun _ => And.intro (And.intro rfl rfl) (fun _ => ar trivial))))) fun j => ?_
      refine wpn_r1 ?_
      injection hF with hF
      subst hF
      have hO := hO.sel [] (by decide)
      exact hQ _ _ _ _ _ rfl hO hL ⟨rfl, rfl⟩
theorem zfs {τ : Hp} {v0 : Value} {p0 : (List zg)} (r0 : RdT zq τ v0 p0) {rr : (List zg)} (hF : zbP p0 = some rr) :
    Ctr Try.prog 43 #[v0] τ [] (fun v τ' vs' => ∃ (v0 : Value) (o0 : Ob), v = v0 ∧ vs' = [o0] ∧ OwnO zq 52 τ' v0 rr o0) := by
  obtain ⟨A0, c0, rfl, -⟩ := r0.form
  refine ctr_of (args := [.slice A0 p0.length c0]) hm Try.func43 s43 rfl fun w0 σ hO Q hQ => ?_
  unfold zbP at hF
  have hL := Hp.le.refl τ
  show wpn _ _ a43.body _ _ _
  unfold a43
  dsimp only
  refine wpn_qa hO [] [(0, .slice A0 p0.length c0)] (ar trivial) fun j => ?_
  refine wpn_lit (T := zq) (l := ([] : List zg)) (cs := []) hO rfl rfl rfl (by decide) fun _ σ o4 w5 hO => ?_
  obtain ⟨A2, c3, rfl, -⟩ := w5.form
  have hO : Obs _ _ [_] := hO
  refine wpn_q hO 1 [] [(3, .slice A2 ([] : List zg).length c3), (4, .slice A0 p0.length c0)] (ar (ar trivial)) fun j => ?_
  obtain ⟨_, hr10, hF⟩ := bind_some hF
  refine wpn_apl (T := zq) hO w5 (i := 0) rfl rfl rfl r0 hr10 (by decide) fun _ σ o8 w9 hO => ?_
  obtain ⟨A6, c7, rfl, -⟩ := w9.form
  have hO : Obs _ _ [_] := hO
  refine wpn_qa hO [] [(2, .slice A6 (([] : List zg) ++ p0).length c7)] (ar trivial) fun j => ?_
  refine wpn_r1 ?_
  injection hF with hF
  subst hF
  exact hQ _ _ _ _ _ rfl hO hL ⟨_, _, rfl, rfl, w9⟩
end Go.Proofs.Ytckcngkkofemjaa
