import Derived.Test.YtjcehfjmmbbblaaF
import Derived.Test.YtjcehfjmmbbblaaAc0
import Derived.Test.YtjcehfjmmbbblaaM00
import Derived.Test.YtjcehfjmmbbblaaM01
import Derived.Test.YtjcehfjmmbbblaaG1
namespace Go.Proofs.Ytjcehfjmmbbblaa
open Go.Ab Go.RowKit
set_option linter.unusedVariables false
set_option linter.unusedSimpArgs false
set_option maxRecDepth 10000
theorem zdb {τ : Hp} {v0 : Value} {p0 : (List UInt8)} {q0 : (List UInt8)} {v1 : Value} {p1 : (List UInt8)} (r0 : RdT Ty.u8 τ v0 p0) (f0 : Full Ty.u8 τ v0 q0) (r1 : RdT Ty.u8 τ v1 p1) {rr : Bool} (hF : zbE p0 q0 p1 = some rr) :
    Ctr Try.prog 15 #[v0, v1] τ [] (fun v τ' vs' => v = .bool rr ∧ vs' = []) := by
  obtain ⟨A0, n0, rfl, f0⟩ := f0
  obtain ⟨_, _, hv0, -⟩ := r0.form
  injection hv0 with _ hv0 _
  subst hv0
  have f0 : Full Ty.u8 τ (.slice A0 p0.length q0.length) q0 := ⟨_, _, rfl, f0⟩
  obtain ⟨A1, c1, rfl, -⟩ := r1.form
  refine ctr_of (args := [.slice A0 p0.length q0.length, .slice A1 p1.length c1]) hm Try.func15 s15 rfl fun w0 σ hO Q hQ => ?_
  unfold zbE at hF
  have hL := Hp.le.refl τ
  show wpn _ _ a15.body _ _ _
  unfold a15
  dsimp only
  refine wpn_qa hO [] [(0, .slice A0 p0.length q0.length), (1, .slice A1 p1.length c1)] (ar (ar trivial)) fun j => ?_
  refine wpn_assoc ?_
  refine wpn_qa hO [] [(0, .slice A0 p0.length q0.length), (1, .slice A1 p1.length c1), (20, .bool (((p0.length : Int) != (p1.length : Int)) || (decide ((q0.length : Int) < (IntKind.i64.wrap ((p0.length : Int) + 8))))))] (And.intro (And.intro rfl rfl) (fun _ => ar (ar (ar trivial)))) fun j => ?_
  rcases ite_some hF with ⟨hb3, hF⟩ | ⟨hb3, hF⟩
  · refine wpn_cT (congrArg Value.bool hb3) ?_
    refine wpn_assoc ?_
    refine wpn_qa hO [] [(4, .bool false)] (ar trivial) fun j => ?_
    refine wpn_rt ?_
    injection hF with hF
    subst hF
    exact hQ _ _ _ _ _ rfl hO hL ⟨rfl, rfl⟩
  · refine wpn_cF (congrArg Value.bool hb3) ?_
    refine wpn_sk ?_
    refine wpn_assoc ?_
    refine wpn_q hO 4 [] [(1, .slice A1 p1.length c1), (21, .slice A0 p0.length q0.length), (24, .int .i64 (IntKind.i64.wrap ((p0.length : Int) + 8)))] (ar (ar (ar trivial))) fun j => ?_
    obtain ⟨y4, g5, hF⟩ := bind_some hF
    refine wpn_slf (T := Ty.u8) f0 rfl rfl g5 fun _ r6 => ?_
    obtain ⟨A7, c8, rfl, -⟩ := r6.form
    refine wpn_qa hO [] [(1, .slice A1 p1.length c1), (25, .slice A7 y4.length c8), (26, .int .i64 (y4.length : Int)), (27, .int .i64 0)] (ar (ar (ar (ar trivial)))) fun j => ?_
    refine wpn_bl ?_
    refine wpn_lp (fun (n : Nat) e' σ' => ∃ (x27 : Int) (τ' : Hp), agr [(1, .slice A1 p1.length c1), (25, .slice A7 y4.length c8), (26, .int .i64 (y4.length : Int)), (27, .int .i64 x27)] e' ∧ Obs τ' σ' [] ∧ Hp.le τ τ' ∧ RdT Ty.u8 τ' (.slice A1 p1.length c1) p1 ∧ RdT Ty.u8 τ' (.slice A7 y4.length c8) y4 ∧ zbj p1 y4 n x27 = some rr) big ⟨0, _, ar (ar (ar (ar trivial))), hO, hL, r1, r6, hF⟩ ?_
    clear hF hO hL
    rintro n42 e σ ⟨x27, _, hA, hO, hL, r25, r26, hF⟩
    rw [← sets_agr _ _ hA]
    cases n42 with
    | zero => exact nomatch (show none = some rr from hF)
    | succ n42 =>
      replace hF : zK (zbj p1 y4 n42) p1 y4 x27 = some rr := hF
      unfold zK at hF
      refine wpn_qa hO [] [(1, .slice A1 p1.length c1), (25, .slice A7 y4.length c8), (26, .int .i64 (y4.length : Int)), (27, .int .i64 x27), (28, .bool (decide (x27 < (y4.length : Int))))] (ar (ar (ar (ar (ar trivial))))) fun j => ?_
      rcases ite_some hF with ⟨hb43, hF⟩ | ⟨hb43, hF⟩
      · refine wpn_cT (congrArg Value.bool hb43) ?_
        refine wpn_sk ?_
        refine wpn_bl ?_
        refine wpn_q hO 1 [] [(1, .slice A1 p1.length c1), (25, .slice A7 y4.length c8), (26, .int .i64 (y4.length : Int)), (27, .int .i64 x27), (29, .int .i64 x27)] (ar (ar (ar (ar (ar trivial))))) fun j => ?_
        obtain ⟨y44, g45, hF⟩ := bind_some hF
        refine wpn_idx (T := Ty.u8) r26 hO.base rfl rfl g45 (by decide) fun a46 _ k47 m48 => ?_
        obtain rfl : _ = ([.int .u8 y44.toNat] : List Value) := k47
        refine wpn_ld rfl (m48.le hO.base).fst ?_
        refine wpn_qa hO [] [(1, .slice A1 p1.length c1), (5, .int .i64 x27), (6, .int .u8 (y44.toNat : Int)), (25, .slice A7 y4.length c8), (26, .int .i64 (y4.length : Int)), (27, .int .i64 x27)] (ar (ar (ar (ar (ar (ar trivial)))))) fun j => ?_
        refine wpn_qa hO [] [(1, .slice A1 p1.length c1), (5, .int .i64 x27), (6, .int .u8 (y44.toNat : Int)), (7, .int .u8 (IntKind.u8.wrap (IntKind.i64.wrap ((IntKind.i64.wrap (8 + (p1.length : Int))) - x27)))), (25, .slice A7 y4.length c8), (26, .int .i64 (y4.length : Int)), (27, .int .i64 x27)] (ar (ar (ar (ar (ar (ar (ar trivial))))))) fun j => ?_
        refine wpn_assoc ?_
        refine wpn_qa hO [] [(1, .slice A1 p1.length c1), (5, .int .i64 x27), (6, .int .u8 (y44.toNat : Int)), (7, .int .u8 (IntKind.u8.wrap (IntKind.i64.wrap ((IntKind.i64.wrap (8 + (p1.length : Int))) - x27)))), (25, .slice A7 y4.length c8), (26, .int .i64 (y4.length : Int)), (27, .int .i64 x27), (41, .bool (decide (x27 < (p1.length : Int))))] (ar (ar (ar (ar (ar (ar (ar (ar trivial)))))))) fun j => ?_
        rcases ite_some hF with ⟨hb49, hF⟩ | ⟨hb49, hF⟩
        · refine wpn_cT (congrArg Value.bool hb49) ?_
          refine wpn_q hO 2 [] [(1, .slice A1 p1.length c1), (6, .int .u8 (y44.toNat : Int)), (25, .slice A7 y4.length c8), (26, .int .i64 (y4.length : Int)), (27, .int .i64 x27), (42, .slice A1 p1.length c1), (43, .int .i64 x27)] (ar (ar (ar (ar (ar (ar (ar trivial))))))) fun j => ?_
          obtain ⟨y50, g51, hF⟩ := bind_some hF
          refine wpn_idx (T := Ty.u8) r25 hO.base rfl rfl g51 (by decide) fun a52 _ k53 m54 => ?_
          obtain rfl : _ = ([.int .u8 y50.toNat] : List Value) := k53
          refine wpn_ld rfl (m54.le hO.base).fst ?_
          refine wpn_qa hO [] [(1, .slice A1 p1.length c1), (6, .int .u8 (y44.toNat : Int)), (7, .int .u8 (y50.toNat : Int)), (25, .slice A7 y4.length c8), (26, .int .i64 (y4.length : Int)), (27, .int .i64 x27)] (ar (ar (ar (ar (ar (ar trivial)))))) fun j => ?_
          refine wpn_qa hO [] [(1, .slice A1 p1.length c1), (25, .slice A7 y4.length c8), (26, .int .i64 (y4.length : Int)), (27, .int .i64 x27), (48, .bool ((y44.toNat : Int) != (y50.toNat : Int)))] (ar (ar (ar (ar (ar trivial))))) fun j => ?_
          refine wpn_clast ?_
          rcases ite_some hF with ⟨hb55, hF⟩ | ⟨hb55, hF⟩
          · refine wpn_cT (congrArg Value.bool hb55) ?_
            refine wpn_assoc ?_
            refine wpn_qa hO [] [(4, .bool false)] (ar trivial) fun j => ?_
            refine wpn_rt ?_
            refine inb_r1 ?_
            refine thn_r1 ?_
            refine thn_r1 ?_
            refine inb_r1 ?_
            refine thn_r1 ?_
            injection hF with hF
            subst hF
            exact hQ _ _ _ _ _ rfl hO hL ⟨rfl, rfl⟩
          · refine wpn_cF (congrArg Value.bool hb55) ?_
            refine wpn_sk ?_
            refine wpn_end ?_
            refine inb_i ?_
            refine thn_i ?_
            refine wpn_rlast ?_
            refine wpn_qa hO [] [(1, .slice A1 p1.length c1), (25, .slice A7 y4.length c8), (26, .int .i64 (y4.length : Int)), (27, .int .i64 (IntKind.i64.wrap (x27 + 1)))] (ar (ar (ar (ar trivial)))) fun j => ?_
            refine wpn_end ?_
            refine thn_i ?_
            exact ⟨n42, Nat.lt_succ_self _, (IntKind.i64.wrap (x27 + 1)), _, ar (ar (ar (ar trivial))), hO, hL, r25, r26, hF⟩
        · refine wpn_cF (congrArg Value.bool hb49) ?_
          refine wpn_sk ?_
          refine wpn_qa hO [] [(1, .slice A1 p1.length c1), (25, .slice A7 y4.length c8), (26, .int .i64 (y4.length : Int)), (27, .int .i64 x27), (48, .bool ((y44.toNat : Int) != (IntKind.u8.wrap (IntKind.i64.wrap ((IntKind.i64.wrap (8 + (p1.length : Int))) - x27)))))] (ar (ar (ar (ar (ar trivial))))) fun j => ?_
          refine wpn_clast ?_
          rcases ite_some hF with ⟨hb56, hF⟩ | ⟨hb56, hF⟩
          · refine wpn_cT (congrArg Value.bool hb56) ?_
            refine wpn_assoc ?_
            refine wpn_qa hO [] [(4, .bool false)] (ar trivial) fun j => ?_
            refine wpn_rt ?_
            refine inb_r1 ?_
            refine thn_r1 ?_
            refine thn_r1 ?_
            refine inb_r1 ?_
            refine thn_r1 ?_
            injection hF with hF
            subst hF
            exact hQ _ _ _ _ _ rfl hO hL ⟨rfl, rfl⟩
          · refine wpn_cF (congrArg Value.bool hb56) ?_
            refine wpn_sk ?_
            refine wpn_end ?_
            refine inb_i ?_
            refine thn_i ?_
            refine wpn_rlast ?_
            refine wpn_qa hO [] [(1, .slice A1 p1.length c1), (25, .slice A7 y4.length c8), (26, .int .i64 (y4.length : Int)), (27, .int .i64 (IntKind.i64.wrap (x27 + 1)))] (ar (ar (ar (ar trivial)))) fun j => ?_
            refine wpn_end ?_
            refine thn_i ?_
            exact ⟨n42, Nat.lt_succ_self _, (IntKind.i64.wrap (x27 + 1)), _, ar (ar (ar (ar trivial))), hO, hL, r25, r26, hF⟩
      · refine wpn_cF (congrArg Value.bool hb43) ?_
        refine wpn_ex ?_
        refine thn_x ?_
        refine inb_x ?_
        refine thn_i ?_
        refine wpn_qa hO [] [(4, .bool true)] (ar trivial) fun j => ?_
        refine wpn_r1 ?_
        injection hF with hF
        subst hF
        exact hQ _ _ _ _ _ rfl hO hL ⟨rfl, rfl⟩
theorem zcC {τ : Hp} {v0 : Value} {p0 : (List UInt8)} {p1 : Int} (r0 : RdT Ty.u8 τ v0 p0) {rr : Int} (hF : zbo p0 p1 = some rr) :
    Ctr Try.prog 64 #[v0, .int .i64 p1] τ [] (fun v τ' vs' => v = .int .i64 rr ∧ vs' = []) := by
  obtain ⟨A0, c0, rfl, -⟩ := r0.form
  refine ctr_of (args := [.slice A0 p0.length c0, .int .i64 p1]) hm Try.func64 s64 rfl fun w0 σ hO Q hQ => ?_
  unfold zbo at hF
  have hL := Hp.le.refl τ
  show wpn _ _ a64.body _ _ _
  unfold a64
  dsimp only
  refine wpn_qa hO [] [(0, .slice A0 p0.length c0), (1, .int .i64 p1)] (ar (ar trivial)) fun j => ?_
  refine wpn_assoc ?_
  refine wpn_qa hO [] [(0, .slice A0 p0.length c0), (1, .int .i64 p1), (5, .int .i64 0)] (ar (ar (ar trivial))) fun j => ?_
  refine wpn_bl ?_
  refine wpn_lp (fun (n : Nat) e' σ' => ∃ (x12 : Int) (τ' : Hp), agr [(0, .slice A0 p0.length c0), (1, .int .i64 p1), (5, .int .i64 x12)] e' ∧ Obs τ' σ' [] ∧ Hp.le τ τ' ∧ RdT Ty.u8 τ' (.slice A0 p0.length c0) p0 ∧ zbf p0 p1 n x12 = some rr) big ⟨0, _, ar (ar (ar trivial)), hO, hL, r0, hF⟩ ?_
  clear hF hO hL
  rintro n20 e σ ⟨x12, _, hA, hO, hL, r11, hF⟩
  rw [← sets_agr _ _ hA]
  cases n20 with
  | zero => exact nomatch (show none = some rr from hF)
  | succ n20 =>
    replace hF : zbg (zbf p0 p1 n20) p0 p1 x12 = some rr := hF
    unfold zbg at hF
    refine wpn_assoc ?_
    refine wpn_qa hO [] [(0, .slice A0 p0.length c0), (1, .int .i64 p1), (5, .int .i64 x12), (15, .bool ((decide (x12 < 10)) && (decide ((IntKind.i64.wrap (p1 + x12)) < (p0.length : Int)))))] (And.intro (And.intro rfl rfl) (fun _ => ar (ar (ar (ar trivial))))) fun j => ?_
    rcases ite_some hF with ⟨hb21, hF⟩ | ⟨hb21, hF⟩
    · refine wpn_cT (congrArg Value.bool hb21) ?_
      refine wpn_sk ?_
      refine wpn_bl ?_
      refine wpn_q hO 4 [] [(0, .slice A0 p0.length c0), (1, .int .i64 p1), (5, .int .i64 x12), (18, .slice A0 p0.length c0), (21, .int .i64 (IntKind.i64.wrap (p1 + x12)))] (ar (ar (ar (ar (ar trivial))))) fun j => ?_
      obtain ⟨y22, g23, hF⟩ := bind_some hF
      refine wpn_idx (T := Ty.u8) r11 hO.base rfl rfl g23 (by decide) fun a24 _ k25 m26 => ?_
      obtain rfl : _ = ([.int .u8 y22.toNat] : List Value) := k25
      refine wpn_ld rfl (m26.le hO.base).fst ?_
      refine wpn_qa hO [] [(0, .slice A0 p0.length c0), (1, .int .i64 p1), (5, .int .i64 x12), (24, .bool (decide ((y22.toNat : Int) < 128)))] (ar (ar (ar (ar trivial)))) fun j => ?_
      refine wpn_clast ?_
      rcases ite_some hF with ⟨hb27, hF⟩ | ⟨hb27, hF⟩
      · refine wpn_cT (congrArg Value.bool hb27) ?_
        refine wpn_assoc ?_
        refine wpn_qa hO [] [(4, .int .i64 (IntKind.i64.wrap (x12 + 1)))] (ar trivial) fun j => ?_
        refine wpn_rt ?_
        refine inb_r1 ?_
        refine thn_r1 ?_
        refine thn_r1 ?_
        refine inb_r1 ?_
        refine thn_r1 ?_
        injection hF with hF
        subst hF
        exact hQ _ _ _ _ _ rfl hO hL ⟨rfl, rfl⟩
      · refine wpn_cF (congrArg Value.bool hb27) ?_
        refine wpn_sk ?_
        refine wpn_end ?_
        refine inb_i ?_
        refine thn_i ?_
        refine wpn_rlast ?_
        refine wpn_qa hO [] [(0, .slice A0 p0.length c0), (1, .int .i64 p1), (5, .int .i64 (IntKind.i64.wrap (x12 + 1)))] (ar (ar (ar trivial))) fun j => ?_
        refine wpn_end ?_
        refine thn_i ?_
        exact ⟨n20, Nat.lt_succ_self _, (IntKind.i64.wrap (x12 + 1)), _, ar (ar (ar trivial)), hO, hL, r11, hF⟩
    · refine wpn_cF (congrArg Value.bool hb21) ?_
      refine wpn_ex ?_
      refine thn_x ?_
      refine inb_x ?_
      refine thn_i ?_
      refine wpn_qa hO [] [(4, .int .i64 0)] (ar trivial) fun j => ?_
      refine wpn_r1 ?_
      injection hF with hF
      subst hF
      exact hQ _ _ _ _ _ rfl hO hL ⟨rfl, rfl⟩
theorem zcr {τ : Hp} {v0 : Value} {p0 : (List UInt8)} {p1 : Int} {p2 : Int} (r0 : RdT Ty.u8 τ v0 p0) {rr : Int} (hF : zv p0 p1 p2 = some rr) :
    Ctr Try.prog 65 #[v0, .int .i64 p1, .int .i64 p2] τ [] (fun v τ' vs' => v = .int .u64 rr ∧ vs' = []) := by
  obtain ⟨A0, c0, rfl, -⟩ := r0.form
  refine ctr_of (args := [.slice A0 p0.length c0, .int .i64 p1, .int .i64 p2]) hm Try.func65 s65 rfl fun w0 σ hO Q hQ => ?_
  unfold zv at hF
  have hL := Hp.le.refl τ
  show wpn _ _ a65.body _ _ _
  unfold a65
  dsimp only
  refine wpn_qa hO [] [(0, .slice A0 p0.length c0), (1, .int .i64 p1), (2, .int .i64 p2)] (ar (ar (ar trivial))) fun j => ?_
  refine wpn_qa hO [] [(0, .slice A0 p0.length c0), (1, .int .i64 p1), (2, .int .i64 p2), (7, .int .u64 0)] (ar (ar (ar (ar trivial)))) fun j => ?_
  refine wpn_assoc ?_
  refine wpn_qa hO [] [(0, .slice A0 p0.length c0), (1, .int .i64 p1), (7, .int .u64 0), (8, .int .i64 (IntKind.i64.wrap (p2 - 1)))] (ar (ar (ar (ar trivial)))) fun j => ?_
  refine wpn_bl ?_
  refine wpn_lp (fun (n : Nat) e' σ' => ∃ (x12 : Int) (x13 : Int) (τ' : Hp), agr [(0, .slice A0 p0.length c0), (1, .int .i64 p1), (7, .int .u64 x12), (8, .int .i64 x13)] e' ∧ Obs τ' σ' [] ∧ Hp.le τ τ' ∧ RdT Ty.u8 τ' (.slice A0 p0.length c0) p0 ∧ zbp p0 p1 n x12 x13 = some rr) big ⟨0, (IntKind.i64.wrap (p2 - 1)), _, ar (ar (ar (ar trivial))), hO, hL, r0, hF⟩ ?_
  clear hF hO hL
  rintro n20 e σ ⟨x12, x13, _, hA, hO, hL, r11, hF⟩
  rw [← sets_agr _ _ hA]
  cases n20 with
  | zero => exact nomatch (show none = some rr from hF)
  | succ n20 =>
    replace hF : z1 (zbp p0 p1 n20) p0 p1 x12 x13 = some rr := hF
    unfold z1 at hF
    refine wpn_assoc ?_
    refine wpn_qa hO [] [(0, .slice A0 p0.length c0), (1, .int .i64 p1), (7, .int .u64 x12), (8, .int .i64 x13), (12, .bool (decide (x13 ≥ 0)))] (ar (ar (ar (ar (ar trivial))))) fun j => ?_
    rcases ite_some hF with ⟨hb21, hF⟩ | ⟨hb21, hF⟩
    · refine wpn_cT (congrArg Value.bool hb21) ?_
      refine wpn_sk ?_
      refine wpn_bl ?_
      refine wpn_rlast ?_
      refine wpn_q hO 6 [] [(0, .slice A0 p0.length c0), (1, .int .i64 p1), (8, .int .i64 x13), (16, .int .u64 (IntKind.u64.wrap (128 * x12))), (17, .slice A0 p0.length c0), (20, .int .i64 (IntKind.i64.wrap (p1 + x13)))] (ar (ar (ar (ar (ar (ar trivial)))))) fun j => ?_
      obtain ⟨y22, g23, hF⟩ := bind_some hF
      refine wpn_idx (T := Ty.u8) r11 hO.base rfl rfl g23 (by decide) fun a24 _ k25 m26 => ?_
      obtain rfl : _ = ([.int .u8 y22.toNat] : List Value) := k25
      refine wpn_ld rfl (m26.le hO.base).fst ?_
      refine wpn_qa hO [] [(0, .slice A0 p0.length c0), (1, .int .i64 p1), (7, .int .u64 (IntKind.u64.wrap ((IntKind.u64.wrap (128 * x12)) + (IntKind.u64.wrap (Int.tmod (y22.toNat : Int) 128))))), (8, .int .i64 x13)] (ar (ar (ar (ar trivial)))) fun j => ?_
      refine wpn_end ?_
      refine inb_i ?_
      refine thn_i ?_
      refine wpn_rlast ?_
      refine wpn_qa hO [] [(0, .slice A0 p0.length c0), (1, .int .i64 p1), (7, .int .u64 (IntKind.u64.wrap ((IntKind.u64.wrap (128 * x12)) + (IntKind.u64.wrap (Int.tmod (y22.toNat : Int) 128))))), (8, .int .i64 (IntKind.i64.wrap (x13 - 1)))] (ar (ar (ar (ar trivial)))) fun j => ?_
      refine wpn_end ?_
      refine thn_i ?_
      exact ⟨n20, Nat.lt_succ_self _, (IntKind.u64.wrap ((IntKind.u64.wrap (128 * x12)) + (IntKind.u64.wrap (Int.tmod (y22.toNat : Int) 128)))), (IntKind.i64.wrap (x13 - 1)), _, ar (ar (ar (ar trivial))), hO, hL, r11, hF⟩
    · refine wpn_cF (congrArg Value.bool hb21) ?_
      refine wpn_ex ?_
      refine thn_x ?_
      refine inb_x ?_
      refine thn_i ?_
      refine wpn_qa hO [] [(6, .int .u64 x12)] (ar trivial) fun j => ?_
      refine wpn_r1 ?_
      injection hF with hF
      subst hF
      exact hQ _ _ _ _ _ rfl hO hL ⟨rfl, rfl⟩
theorem zcN {τ : Hp} {v0 : Value} {p0 : (List UInt8)} {p1 : Int} {v2 : Value} {p2 : (List UInt8)} (r0 : RdT Ty.u8 τ v0 p0) (r2 : RdT Ty.u8 τ v2 p2) {rr : Bool} (hF : zu p0 p1 p2 = some rr) :
    Ctr Try.prog 66 #[v0, .int .i64 p1, v2] τ [] (fun v τ' vs' => v = .bool rr ∧ vs' = []) := by
  obtain ⟨A0, c0, rfl, -⟩ := r0.form
  obtain ⟨A2, c2, rfl, -⟩ := r2.form
  refine ctr_of (args := [.slice A0 p0.length c0, .int .i64 p1, .slice A2 p2.length c2]) hm Try.func66 s66 rfl fun w0 σ hO Q hQ => ?_
  unfold zu at hF
  have hL := Hp.le.refl τ
  show wpn _ _ a66.body _ _ _
  unfold a66
  dsimp only
  refine wpn_qa hO [] [(0, .slice A0 p0.length c0), (1, .int .i64 p1), (2, .slice A2 p2.length c2)] (ar (ar (ar trivial))) fun j => ?_
  refine wpn_assoc ?_
  refine wpn_qa hO [] [(0, .slice A0 p0.length c0), (1, .int .i64 p1), (2, .slice A2 p2.length c2), (14, .bool (decide ((p2.length : Int) > (IntKind.i64.wrap ((p0.length : Int) - p1)))))] (ar (ar (ar (ar trivial)))) fun j => ?_
  rcases ite_some hF with ⟨hb4, hF⟩ | ⟨hb4, hF⟩
  · refine wpn_cT (congrArg Value.bool hb4) ?_
    refine wpn_assoc ?_
    refine wpn_qa hO [] [(6, .bool false)] (ar trivial) fun j => ?_
    refine wpn_rt ?_
    injection hF with hF
    subst hF
    exact hQ _ _ _ _ _ rfl hO hL ⟨rfl, rfl⟩
  · refine wpn_cF (congrArg Value.bool hb4) ?_
    refine wpn_sk ?_
    refine wpn_assoc ?_
    refine wpn_qa hO [] [(0, .slice A0 p0.length c0), (1, .int .i64 p1), (2, .slice A2 p2.length c2), (7, .int .i64 0)] (ar (ar (ar (ar trivial)))) fun j => ?_
    refine wpn_bl ?_
    refine wpn_lp (fun (n : Nat) e' σ' => ∃ (x21 : Int) (τ' : Hp), agr [(0, .slice A0 p0.length c0), (1, .int .i64 p1), (2, .slice A2 p2.length c2), (7, .int .i64 x21)] e' ∧ Obs τ' σ' [] ∧ Hp.le τ τ' ∧ RdT Ty.u8 τ' (.slice A0 p0.length c0) p0 ∧ RdT Ty.u8 τ' (.slice A2 p2.length c2) p2 ∧ zbb p0 p1 p2 n x21 = some rr) big ⟨0, _, ar (ar (ar (ar trivial))), hO, hL, r0, r2, hF⟩ ?_
    clear hF hO hL
    rintro n34 e σ ⟨x21, _, hA, hO, hL, r19, r20, hF⟩
    rw [← sets_agr _ _ hA]
    cases n34 with
    | zero => exact nomatch (show none = some rr from hF)
    | succ n34 =>
      replace hF : zbz (zbb p0 p1 p2 n34) p0 p1 p2 x21 = some rr := hF
      unfold zbz at hF
      refine wpn_assoc ?_
      refine wpn_qa hO [] [(0, .slice A0 p0.length c0), (1, .int .i64 p1), (2, .slice A2 p2.length c2), (7, .int .i64 x21), (18, .bool (decide (x21 < (p2.length : Int))))] (ar (ar (ar (ar (ar trivial))))) fun j => ?_
      rcases ite_some hF with ⟨hb35, hF⟩ | ⟨hb35, hF⟩
      · refine wpn_cT (congrArg Value.bool hb35) ?_
        refine wpn_sk ?_
        refine wpn_bl ?_
        refine wpn_p2r ?_
        refine wpn_q hO 4 [] [(0, .slice A0 p0.length c0), (1, .int .i64 p1), (2, .slice A2 p2.length c2), (7, .int .i64 x21), (21, .slice A0 p0.length c0), (24, .int .i64 (IntKind.i64.wrap (p1 + x21)))] (ar (ar (ar (ar (ar (ar trivial)))))) fun j => ?_
        obtain ⟨y36, g37, hF⟩ := bind_some hF
        refine wpn_idx (T := Ty.u8) r19 hO.base rfl rfl g37 (by decide) fun a38 _ k39 m40 => ?_
        obtain rfl : _ = ([.int .u8 y36.toNat] : List Value) := k39
        refine wpn_ld rfl (m40.le hO.base).fst ?_
        refine wpn_q hO 2 [] [(0, .slice A0 p0.length c0), (1, .int .i64 p1), (2, .slice A2 p2.length c2), (7, .int .i64 x21), (26, .int .u8 (y36.toNat : Int)), (27, .slice A2 p2.length c2), (28, .int .i64 x21)] (ar (ar (ar (ar (ar (ar (ar trivial))))))) fun j => ?_
        obtain ⟨y41, g42, hF⟩ := bind_some hF
        refine wpn_idx (T := Ty.u8) r20 hO.base rfl rfl g42 (by decide) fun a43 _ k44 m45 => ?_
        obtain rfl : _ = ([.int .u8 y41.toNat] : List Value) := k44
        refine wpn_ld rfl (m45.le hO.base).fst ?_
        refine wpn_qa hO [] [(0, .slice A0 p0.length c0), (1, .int .i64 p1), (2, .slice A2 p2.length c2), (7, .int .i64 x21), (31, .bool ((y36.toNat : Int) != (y41.toNat : Int)))] (ar (ar (ar (ar (ar trivial))))) fun j => ?_
        refine wpn_clast ?_
        rcases ite_some hF with ⟨hb46, hF⟩ | ⟨hb46, hF⟩
        · refine wpn_cT (congrArg Value.bool hb46) ?_
          refine wpn_assoc ?_
          refine wpn_qa hO [] [(6, .bool false)] (ar trivial) fun j => ?_
          refine wpn_rt ?_
          refine inb_r1 ?_
          refine thn_r1 ?_
          refine thn_r1 ?_
          refine inb_r1 ?_
          refine thn_r1 ?_
          injection hF with hF
          subst hF
          exact hQ _ _ _ _ _ rfl hO hL ⟨rfl, rfl⟩
        · refine wpn_cF (congrArg Value.bool hb46) ?_
          refine wpn_sk ?_
          refine wpn_end ?_
          refine inb_i ?_
          refine thn_i ?_
          refine wpn_rlast ?_
          refine wpn_qa hO [] [(0, .slice A0 p0.length c0), (1, .int .i64 p1), (2, .slice A2 p2.length c2), (7, .int .i64 (IntKind.i64.wrap (x21 + 1)))] (ar (ar (ar (ar trivial)))) fun j => ?_
          refine wpn_end ?_
          refine thn_i ?_
          exact ⟨n34, Nat.lt_succ_self _, (IntKind.i64.wrap (x21 + 1)), _, ar (ar (ar (ar trivial))), hO, hL, r19, r20, hF⟩
      · refine wpn_cF (congrArg Value.bool hb35) ?_
        refine wpn_ex ?_
        refine thn_x ?_
        refine inb_x ?_
        refine thn_i ?_
        refine wpn_qa hO [] [(6, .bool true)] (ar trivial) fun j => ?_
        refine wpn_r1 ?_
        injection hF with hF
        subst hF
        exact hQ _ _ _ _ _ rfl hO hL ⟨rfl, rfl⟩
theorem zcw {τ : Hp} {v0 : Value} {p0 : (List UInt8)} {p1 : Int} (r0 : RdT Ty.u8 τ v0 p0) {rr : Int × Int × Int} (hF : zt p0 p1 = some rr) :
    Ctr Try.prog 56 #[v0, .int .i64 p1] τ [] (fun v τ' vs' => v = .tuple #[.int .u64 rr.1, .int .i64 rr.2.1, .int .i64 rr.2.2] ∧ vs' = []) := by
  obtain ⟨A0, c0, rfl, -⟩ := r0.form
  refine ctr_of (args := [.slice A0 p0.length c0, .int .i64 p1]) hm Try.func56 s56 rfl fun w0 σ hO Q hQ => ?_
  unfold zt at hF
  have hL := Hp.le.refl τ
  show wpn _ _ a56.body _ _ _
  unfold a56
  dsimp only
  refine wpn_qa hO [] [(0, .slice A0 p0.length c0), (1, .int .i64 p1)] (ar (ar trivial)) fun j => ?_
  refine wpn_assoc ?_
  refine wpn_qa hO [] [(0, .slice A0 p0.length c0), (1, .int .i64 p1), (16, .bool ((decide (p1 < 0)) || (decide (p1 > (p0.length : Int)))))] (And.intro (And.intro rfl rfl) (fun _ => ar (ar (ar trivial)))) fun j => ?_
  rcases ite_some hF with ⟨hb3, hF⟩ | ⟨hb3, hF⟩
  · refine wpn_cT (congrArg Value.bool hb3) ?_
    refine wpn_assoc ?_
    refine wpn_qa hO [] [(4, .int .u64 0), (5, .int .i64 0), (6, .int .i64 1)] (ar (ar (ar trivial))) fun j => ?_
    refine wpn_rt ?_
    injection hF with hF
    subst hF
    exact hQ _ _ _ _ _ rfl hO hL ⟨rfl, rfl⟩
  · refine wpn_cF (congrArg Value.bool hb3) ?_
    refine wpn_sk ?_
    refine wpn_q hO 2 [] [(0, .slice A0 p0.length c0), (1, .int .i64 p1), (17, .slice A0 p0.length c0), (18, .int .i64 p1)] (ar (ar (ar (ar trivial)))) fun j => ?_
    obtain ⟨c4, h5, hF⟩ := bind_some hF
    refine wpn_c0 hO (zcC r0 h5) rfl fun _ σ _ _ hO h6 h7 => ?_
    have hL := hL.trans h6
    have r0 := r0.le h6
    obtain ⟨rfl, rfl⟩ := h7
    have hO : Obs _ _ [] := hO
    refine wpn_qa hO [] [(0, .slice A0 p0.length c0), (1, .int .i64 p1), (7, .int .i64 c4)] (ar (ar (ar trivial))) fun j => ?_
    refine wpn_q hO 3 [] [(0, .slice A0 p0.length c0), (1, .int .i64 p1), (7, .int .i64 c4), (20, .slice A0 p0.length c0), (21, .int .i64 p1), (22, .int .i64 c4)] (ar (ar (ar (ar (ar (ar trivial)))))) fun j => ?_
    obtain ⟨c8, h9, hF⟩ := bind_some hF
    refine wpn_c0 hO (zcr r0 h9) rfl fun _ σ _ _ hO h10 h11 => ?_
    have hL := hL.trans h10
    have r0 := r0.le h10
    obtain ⟨rfl, rfl⟩ := h11
    have hO : Obs _ _ [] := hO
    refine wpn_qa hO [] [(0, .slice A0 p0.length c0), (1, .int .i64 p1), (7, .int .i64 c4), (8, .int .u64 c8)] (ar (ar (ar (ar trivial)))) fun j => ?_
    refine wpn_assoc ?_
    refine wpn_q hO 3 [] [(0, .slice A0 p0.length c0), (1, .int .i64 p1), (7, .int .i64 c4), (8, .int .u64 c8), (26, .bool (c4 == 0))] (ar (ar (ar (ar (ar trivial))))) fun j => ?_
    obtain ⟨c12, h13, hF⟩ := bind_some hF
    refine wpn_mid 2 (fun e' σ' => ∃ (τ' : Hp), agr [(33, .bool c12), (1, .int .i64 p1), (7, .int .i64 c4), (8, .int .u64 c8)] e' ∧ Obs τ' σ' [] ∧ Hp.le τ τ') ?_ ?_
    · have hF := h13
      rcases ite_some hF with ⟨hb14, hF⟩ | ⟨hb14, hF⟩
      · refine wpn_gF (congrArg (fun x => isB (.bool x) false) hb14) ?_
        refine wpn_pk (congrArg Value.bool hb14) ?_
        refine wpn_nil ?_
        injection hF with hF
        subst hF
        refine wpn_end ?_
        exact ⟨rfl, _, ar (ar (ar (ar trivial))), hO, hL⟩
      · refine wpn_gT (congrArg (fun x => isB (.bool x) false) hb14) ?_
        refine wpn_q hO 3 [] [(1, .int .i64 p1), (7, .int .i64 c4), (8, .int .u64 c8), (26, .bool (c4 == 0)), (27, .slice A0 p0.length c0), (28, .int .i64 p1), (29, .int .u64 c8)] (ar (ar (ar (ar (ar (ar (ar trivial))))))) fun j => ?_
        obtain ⟨c15, h16, hF⟩ := bind_some hF
        refine wpn_c0 hO (zc4 (RdT.nil Ty.u8 _) h16) rfl fun _ σ _ _ hO h17 h18 => ?_
        have hL := hL.trans h17
        have r0 := r0.le h17
        obtain ⟨v19, o22, rfl, rfl, w23⟩ := h18
        obtain ⟨A20, c21, rfl, -⟩ := w23.form
        have hO : Obs _ _ [_] := hO
        obtain ⟨_, h25, r24, hO⟩ := w23.share hO (i := 0) rfl
        have hL := hL.trans h25
        have r0 := r0.le h25
        have hO : Obs _ _ [_] := hO
        obtain ⟨c26, h27, hF⟩ := bind_some hF
        refine wpn_c0 hO (zcN r0 r24 h27) rfl fun _ σ _ _ hO h28 h29 => ?_
        have hL := hL.trans h28
        have r0 := r0.le h28
        have r24 := r24.le h28
        obtain ⟨rfl, rfl⟩ := h29
        have hO : Obs _ _ [_] := hO
        refine wpn_q hO 1 [] [(1, .int .i64 p1), (7, .int .i64 c4), (8, .int .u64 c8), (26, .bool (c4 == 0)), (32, .bool (!c26))] (ar (ar (ar (ar (ar trivial))))) fun j => ?_
        refine wpn_pk (congrArg Value.bool hb14) ?_
        refine wpn_nil ?_
        injection hF with hF
        subst hF
        refine wpn_end ?_
        have hO := hO.sel [] (by decide)
        exact ⟨rfl, _, ar (ar (ar (ar trivial))), hO, hL⟩
    · rintro e σ ⟨_, hA, hO, hL⟩
      rw [← sets_agr _ _ hA]
      refine wpn_nil ?_
      rcases ite_some hF with ⟨hb30, hF⟩ | ⟨hb30, hF⟩
      · refine wpn_cT (congrArg Value.bool hb30) ?_
        refine wpn_assoc ?_
        refine wpn_qa hO [] [(4, .int .u64 0), (5, .int .i64 0), (6, .int .i64 5)] (ar (ar (ar trivial))) fun j => ?_
        refine wpn_rt ?_
        injection hF with hF
        subst hF
        exact hQ _ _ _ _ _ rfl hO hL ⟨rfl, rfl⟩
      · refine wpn_cF (congrArg Value.bool hb30) ?_
        refine wpn_sk ?_
        refine wpn_qa hO [] [(4, .int .u64 c8), (5, .int .i64 (IntKind.i64.wrap (p1 + c4))), (6, .int .i64 0)] (ar (ar (ar trivial))) fun j => ?_
        refine wpn_r1 ?_
        injection hF with hF
        subst hF
        exact hQ _ _ _ _ _ rfl hO hL ⟨rfl, rfl⟩
theorem zca {τ : Hp} {v0 : Value} {p0 : (List UInt8)} {p1 : Int} (r0 : RdT Ty.u8 τ v0 p0) {rr : Int × Int × Bool} (hF : zg p0 p1 = some rr) :
    Ctr Try.prog 40 #[v0, .int .i64 p1] τ [] (fun v τ' vs' => v = .tuple #[.int .i64 rr.1, .int .i64 rr.2.1, .bool rr.2.2] ∧ vs' = []) := by
  obtain ⟨A0, c0, rfl, -⟩ := r0.form
  refine ctr_of (args := [.slice A0 p0.length c0, .int .i64 p1]) hm Try.func40 s40 rfl fun w0 σ hO Q hQ => ?_
  unfold zg at hF
  have hL := Hp.le.refl τ
  show wpn _ _ a40.body _ _ _
  unfold a40
  dsimp only
  refine wpn_qa hO [] [(0, .slice A0 p0.length c0), (1, .int .i64 p1)] (ar (ar trivial)) fun j => ?_
  refine wpn_q hO 2 [] [(11, .slice A0 p0.length c0), (12, .int .i64 p1)] (ar (ar trivial)) fun j => ?_
  obtain ⟨c3, h4, hF⟩ := bind_some hF
  refine wpn_c0 hO (zcw r0 h4) rfl fun _ σ _ _ hO h5 h6 => ?_
  have hL := hL.trans h5
  have r0 := r0.le h5
  obtain ⟨rfl, rfl⟩ := h6
  have hO : Obs _ _ [] := hO
  refine wpn_qa hO [] [(7, .int .u64 c3.1), (8, .int .i64 c3.2.1), (9, .int .i64 c3.2.2)] (ar (ar (ar trivial))) fun j => ?_
  refine wpn_assoc ?_
  refine wpn_qa hO [] [(7, .int .u64 c3.1), (8, .int .i64 c3.2.1), (22, .bool ((c3.2.2 != 0) || (decide (c3.1 > 16777216))))] (And.intro (And.intro rfl rfl) (fun _ => ar (ar (ar trivial)))) fun j => ?_
  rcases ite_some hF with ⟨hb7, hF⟩ | ⟨hb7, hF⟩
  · refine wpn_cT (congrArg Value.bool hb7) ?_
    refine wpn_assoc ?_
    refine wpn_qa hO [] [(4, .int .i64 0), (5, .int .i64 0), (6, .bool false)] (ar (ar (ar trivial))) fun j => ?_
    refine wpn_rt ?_
    injection hF with hF
    subst hF
    exact hQ _ _ _ _ _ rfl hO hL ⟨rfl, rfl⟩
  · refine wpn_cF (congrArg Value.bool hb7) ?_
    refine wpn_sk ?_
    refine wpn_qa hO [] [(4, .int .i64 (IntKind.i64.wrap c3.1)), (5, .int .i64 c3.2.1), (6, .bool true)] (ar (ar (ar trivial))) fun j => ?_
    refine wpn_r1 ?_
    injection hF with hF
    subst hF
    exact hQ _ _ _ _ _ rfl hO hL ⟨rfl, rfl⟩
theorem zdo {τ : Hp} {v0 : Value} {p0 : (List UInt8)} {p1 : Int} (r0 : RdT Ty.u8 τ v0 p0) {rr : Int × Int × Int} (hF : zy p0 p1 = some rr) :
    Ctr Try.prog 57 #[v0, .int .i64 p1] τ [] (fun v τ' vs' => v = .tuple #[.int .i64 rr.1, .int .i64 rr.2.1, .int .i64 rr.2.2] ∧ vs' = []) := by
  obtain ⟨A0, c0, rfl, -⟩ := r0.form
  refine ctr_of (args := [.slice A0 p0.length c0, .int .i64 p1]) hm Try.func57 s57 rfl fun w0 σ hO Q hQ => ?_
  unfold zy at hF
  have hL := Hp.le.refl τ
  show wpn _ _ a57.body _ _ _
  unfold a57
  dsimp only
  refine wpn_qa hO [] [(0, .slice A0 p0.length c0), (1, .int .i64 p1)] (ar (ar trivial)) fun j => ?_
  refine wpn_assoc ?_
  refine wpn_qa hO [] [(0, .slice A0 p0.length c0), (1, .int .i64 p1), (16, .bool ((decide (p1 < 0)) || (decide (p1 > (p0.length : Int)))))] (And.intro (And.intro rfl rfl) (fun _ => ar (ar (ar trivial)))) fun j => ?_
  rcases ite_some hF with ⟨hb3, hF⟩ | ⟨hb3, hF⟩
  · refine wpn_cT (congrArg Value.bool hb3) ?_
    refine wpn_assoc ?_
    refine wpn_qa hO [] [(4, .int .i64 0), (5, .int .i64 0), (6, .int .i64 1)] (ar (ar (ar trivial))) fun j => ?_
    refine wpn_rt ?_
    injection hF with hF
    subst hF
    exact hQ _ _ _ _ _ rfl hO hL ⟨rfl, rfl⟩
  · refine wpn_cF (congrArg Value.bool hb3) ?_
    refine wpn_sk ?_
    refine wpn_q hO 2 [] [(0, .slice A0 p0.length c0), (1, .int .i64 p1), (17, .slice A0 p0.length c0), (18, .int .i64 p1)] (ar (ar (ar (ar trivial)))) fun j => ?_
    obtain ⟨c4, h5, hF⟩ := bind_some hF
    refine wpn_c0 hO (zcC r0 h5) rfl fun _ σ _ _ hO h6 h7 => ?_
    have hL := hL.trans h6
    have r0 := r0.le h6
    obtain ⟨rfl, rfl⟩ := h7
    have hO : Obs _ _ [] := hO
    refine wpn_qa hO [] [(0, .slice A0 p0.length c0), (1, .int .i64 p1), (7, .int .i64 c4)] (ar (ar (ar trivial))) fun j => ?_
    refine wpn_assoc ?_
    refine wpn_qa hO [] [(0, .slice A0 p0.length c0), (1, .int .i64 p1), (7, .int .i64 c4), (21, .bool (c4 == 0))] (ar (ar (ar (ar trivial)))) fun j => ?_
    rcases ite_some hF with ⟨hb8, hF⟩ | ⟨hb8, hF⟩
    · refine wpn_cT (congrArg Value.bool hb8) ?_
      refine wpn_assoc ?_
      refine wpn_qa hO [] [(4, .int .i64 0), (5, .int .i64 0), (6, .int .i64 5)] (ar (ar (ar trivial))) fun j => ?_
      refine wpn_rt ?_
      injection hF with hF
      subst hF
      exact hQ _ _ _ _ _ rfl hO hL ⟨rfl, rfl⟩
    · refine wpn_cF (congrArg Value.bool hb8) ?_
      refine wpn_sk ?_
      refine wpn_q hO 3 [] [(0, .slice A0 p0.length c0), (1, .int .i64 p1), (7, .int .i64 c4), (22, .slice A0 p0.length c0), (23, .int .i64 p1), (24, .int .i64 c4)] (ar (ar (ar (ar (ar (ar trivial)))))) fun j => ?_
      obtain ⟨c9, h10, hF⟩ := bind_some hF
      refine wpn_c0 hO (zcr r0 h10) rfl fun _ σ _ _ hO h11 h12 => ?_
      have hL := hL.trans h11
      have r0 := r0.le h11
      obtain ⟨rfl, rfl⟩ := h12
      have hO : Obs _ _ [] := hO
      refine wpn_qa hO [] [(0, .slice A0 p0.length c0), (1, .int .i64 p1), (7, .int .i64 c4), (8, .int .u64 c9)] (ar (ar (ar (ar trivial)))) fun j => ?_
      refine wpn_assoc ?_
      refine wpn_q hO 5 [] [(0, .slice A0 p0.length c0), (1, .int .i64 p1), (7, .int .i64 c4), (8, .int .u64 c9), (26, .slice A0 p0.length c0), (30, .int .i64 (IntKind.i64.wrap ((IntKind.i64.wrap (p1 + c4)) - 1)))] (ar (ar (ar (ar (ar (ar trivial)))))) fun j => ?_
      obtain ⟨y13, g14, hF⟩ := bind_some hF
      refine wpn_idx (T := Ty.u8) r0 hO.base rfl rfl g14 (by decide) fun a15 _ k16 m17 => ?_
      obtain rfl : _ = ([.int .u8 y13.toNat] : List Value) := k16
      refine wpn_ld rfl (m17.le hO.base).fst ?_
      refine wpn_qa hO [] [(0, .slice A0 p0.length c0), (1, .int .i64 p1), (7, .int .i64 c4), (8, .int .u64 c9), (37, .bool ((decide ((y13.toNat : Int) ≥ 64)) && (decide (c4 < 10))))] (And.intro (And.intro rfl rfl) (fun _ => ar (ar (ar (ar (ar trivial)))))) fun j => ?_
      refine wpn_cut (fun e' σ' => ∃ (x22 : Int) (τ' : Hp), agr [(0, .slice A0 p0.length c0), (1, .int .i64 p1), (7, .int .i64 c4), (8, .int .u64 x22)] e' ∧ Obs τ' σ' [] ∧ Hp.le τ τ' ∧ RdT Ty.u8 τ' (.slice A0 p0.length c0) p0 ∧ zz p0 p1 c4 x22 = some rr) ?_ ?_
      · refine wpn_clast ?_
        rcases ite_some hF with ⟨hb39, hF⟩ | ⟨hb39, hF⟩
        · refine wpn_cT (congrArg Value.bool hb39) ?_
          refine wpn_q hO 4 [] [(0, .slice A0 p0.length c0), (1, .int .i64 p1), (7, .int .i64 c4), (38, .int .u64 c9), (41, .int .u64 (IntKind.u64.wrap (IntKind.i64.wrap (7 * c4))))] (ar (ar (ar (ar (ar trivial))))) fun j => ?_
          obtain ⟨y40, g41, hF⟩ := bind_some hF
          refine wpn_bn (shlO_bin g41) ?_
          refine wpn_qa hO [] [(0, .slice A0 p0.length c0), (1, .int .i64 p1), (7, .int .i64 c4), (8, .int .u64 (IntKind.u64.wrap (c9 - y40)))] (ar (ar (ar (ar trivial)))) fun j => ?_
          refine wpn_end ?_
          refine thn_i ?_
          exact ⟨(IntKind.u64.wrap (c9 - y40)), _, ar (ar (ar (ar trivial))), hO, hL, r0, hF⟩
        · refine wpn_cF (congrArg Value.bool hb39) ?_
          refine wpn_sk ?_
          refine wpn_end ?_
          refine thn_i ?_
          exact ⟨c9, _, ar (ar (ar (ar trivial))), hO, hL, r0, hF⟩
      · rintro e σ ⟨x22, _, hA, hO, hL, r21, hF⟩
        rw [← sets_agr _ _ hA]
        unfold zz at hF
        refine wpn_assoc ?_
        refine wpn_q hO 4 [] [(1, .int .i64 p1), (7, .int .i64 c4), (8, .int .u64 x22), (44, .slice A0 p0.length c0), (45, .int .i64 p1), (47, .int .i64 (IntKind.i64.wrap x22))] (ar (ar (ar (ar (ar (ar trivial)))))) fun j => ?_
        obtain ⟨c23, h24, hF⟩ := bind_some hF
        refine wpn_c0 hO (zc7 (RdT.nil Ty.u8 _) h24) rfl fun _ σ _ _ hO h25 h26 => ?_
        have hL := hL.trans h25
        have r21 := r21.le h25
        obtain ⟨v27, o30, rfl, rfl, w31⟩ := h26
        obtain ⟨A28, c29, rfl, -⟩ := w31.form
        have hO : Obs _ _ [_] := hO
        obtain ⟨_, h33, r32, hO⟩ := w31.share hO (i := 0) rfl
        have hL := hL.trans h33
        have r21 := r21.le h33
        have hO : Obs _ _ [_] := hO
        obtain ⟨c34, h35, hF⟩ := bind_some hF
        refine wpn_c0 hO (zcN r21 r32 h35) rfl fun _ σ _ _ hO h36 h37 => ?_
        have hL := hL.trans h36
        have r21 := r21.le h36
        have r32 := r32.le h36
        obtain ⟨rfl, rfl⟩ := h37
        have hO : Obs _ _ [_] := hO
        refine wpn_qa hO [] [(1, .int .i64 p1), (7, .int .i64 c4), (8, .int .u64 x22), (50, .bool (!c34))] (ar (ar (ar (ar trivial)))) fun j => ?_
        rcases ite_some hF with ⟨hb38, hF⟩ | ⟨hb38, hF⟩
        · refine wpn_cT (congrArg Value.bool hb38) ?_
          refine wpn_assoc ?_
          refine wpn_qa hO [] [(4, .int .i64 0), (5, .int .i64 0), (6, .int .i64 5)] (ar (ar (ar trivial))) fun j => ?_
          refine wpn_rt ?_
          injection hF with hF
          subst hF
          have hO := hO.sel [] (by decide)
          exact hQ _ _ _ _ _ rfl hO hL ⟨rfl, rfl⟩
        · refine wpn_cF (congrArg Value.bool hb38) ?_
          refine wpn_sk ?_
          refine wpn_qa hO [] [(4, .int .i64 (IntKind.i64.wrap x22)), (5, .int .i64 (IntKind.i64.wrap (p1 + c4))), (6, .int .i64 0)] (ar (ar (ar trivial))) fun j => ?_
          refine wpn_r1 ?_
          injection hF with hF
          subst hF
          have hO := hO.sel [] (by decide)
          exact hQ _ _ _ _ _ rfl hO hL ⟨rfl, rfl⟩
theorem zcP {τ : Hp} {v0 : Value} {p0 : (List UInt8)} {p1 : Int} (r0 : RdT Ty.u8 τ v0 p0) {rr : (List zb) × Int × Int} (hF : zZ p0 p1 = some rr) :
    Ctr Try.prog 41 #[v0, .int .i64 p1] τ [] (fun v τ' vs' => ∃ (v0 : Value), v = .tuple #[v0, .int .i64 rr.2.1, .int .i64 rr.2.2] ∧ vs' = [] ∧ RdT zd τ' v0 rr.1) := by
  obtain ⟨A0, c0, rfl, -⟩ := r0.form
  refine ctr_of (args := [.slice A0 p0.length c0, .int .i64 p1]) hm Try.func41 s41 rfl fun w0 σ hO Q hQ => ?_
  unfold zZ at hF
  have hL := Hp.le.refl τ
  show wpn _ _ a41.body _ _ _
  unfold a41
  dsimp only
  refine wpn_qa hO [] [(0, .slice A0 p0.length c0), (1, .int .i64 p1)] (ar (ar trivial)) fun j => ?_
  refine wpn_assoc ?_
  refine wpn_qa hO [] [(0, .slice A0 p0.length c0), (1, .int .i64 p1), (20, .bool ((decide (p1 < 0)) || (decide (p1 > (p0.length : Int)))))] (And.intro (And.intro rfl rfl) (fun _ => ar (ar (ar trivial)))) fun j => ?_
  rcases ite_some hF with ⟨hb3, hF⟩ | ⟨hb3, hF⟩
  · refine wpn_cT (congrArg Value.bool hb3) ?_
    refine wpn_assoc ?_
    refine wpn_qa hO [] [(4, .slice none 0 0), (5, .int .i64 0), (6, .int .i64 1)] (ar (ar (ar trivial))) fun j => ?_
    refine wpn_rt ?_
    injection hF with hF
    subst hF
    exact hQ _ _ _ _ _ rfl hO hL ⟨_, rfl, rfl, (RdT.nil _ _)⟩
  · refine wpn_cF (congrArg Value.bool hb3) ?_
    refine wpn_sk ?_
    refine wpn_q hO 2 [] [(0, .slice A0 p0.length c0), (22, .slice A0 p0.length c0), (23, .int .i64 p1)] (ar (ar (ar trivial))) fun j => ?_
    obtain ⟨c4, h5, hF⟩ := bind_some hF
    refine wpn_c0 hO (zcw r0 h5) rfl fun _ σ _ _ hO h6 h7 => ?_
    have hL := hL.trans h6
    have r0 := r0.le h6
    obtain ⟨rfl, rfl⟩ := h7
    have hO : Obs _ _ [] := hO
    refine wpn_qa hO [] [(0, .slice A0 p0.length c0), (7, .int .u64 c4.1), (8, .int .i64 c4.2.1), (9, .int .i64 c4.2.2)] (ar (ar (ar (ar trivial)))) fun j => ?_
    refine wpn_assoc ?_
    refine wpn_qa hO [] [(0, .slice A0 p0.length c0), (7, .int .u64 c4.1), (8, .int .i64 c4.2.1), (33, .bool ((c4.2.2 != 0) || (decide (c4.1 > 16))))] (And.intro (And.intro rfl rfl) (fun _ => ar (ar (ar (ar trivial))))) fun j => ?_
    rcases ite_some hF with ⟨hb8, hF⟩ | ⟨hb8, hF⟩
    · refine wpn_cT (congrArg Value.bool hb8) ?_
      refine wpn_assoc ?_
      refine wpn_qa hO [] [(4, .slice none 0 0), (5, .int .i64 0), (6, .int .i64 5)] (ar (ar (ar trivial))) fun j => ?_
      refine wpn_rt ?_
      injection hF with hF
      subst hF
      exact hQ _ _ _ _ _ rfl hO hL ⟨_, rfl, rfl, (RdT.nil _ _)⟩
    · refine wpn_cF (congrArg Value.bool hb8) ?_
      refine wpn_sk ?_
      refine wpn_qa hO [] [(0, .slice A0 p0.length c0), (7, .int .u64 c4.1), (8, .int .i64 c4.2.1), (10, .slice none 0 0)] (ar (ar (ar (ar trivial)))) fun j => ?_
      refine wpn_assoc ?_
      refine wpn_qa hO [] [(0, .slice A0 p0.length c0), (7, .int .u64 c4.1), (8, .int .i64 c4.2.1), (10, .slice none 0 0), (11, .int .i64 0)] (ar (ar (ar (ar (ar trivial))))) fun j => ?_
      refine wpn_bl ?_
      have hO := hO.no
      have hO : Obs _ _ [_] := hO
      refine wpn_lp (fun (n : Nat) e' σ' => ∃ (x42 : Int) (A43 : Option Addr) (c44 : Nat) (o45 : Ob) (x46 : List zb) (x48 : Int) (τ' : Hp), agr [(0, .slice A0 p0.length c0), (7, .int .u64 c4.1), (8, .int .i64 x42), (10, .slice A43 x46.length c44), (11, .int .i64 x48)] e' ∧ Obs τ' σ' [o45] ∧ Hp.le τ τ' ∧ RdT Ty.u8 τ' (.slice A0 p0.length c0) p0 ∧ OwnO zd 44 τ' (.slice A43 x46.length c44) x46 o45 ∧ zbx p0 c4 n x42 x46 x48 = some rr) big ⟨c4.2.1, none, 0, none, [], 0, _, ar (ar (ar (ar (ar trivial)))), hO, hL, r0, OwnO.nil _ _ _, hF⟩ ?_
      clear hF hO hL
      rintro n80 e σ ⟨x42, A43, c44, o45, x46, x48, _, hA, hO, hL, r41, w47, hF⟩
      rw [← sets_agr _ _ hA]
      cases n80 with
      | zero => exact nomatch (show none = some rr from hF)
      | succ n80 =>
        replace hF : zm (zbx p0 c4 n80) p0 c4 x42 x46 x48 = some rr := hF
        unfold zm at hF
        refine wpn_assoc ?_
        refine wpn_qa hO [] [(0, .slice A0 p0.length c0), (7, .int .u64 c4.1), (8, .int .i64 x42), (10, .slice A43 x46.length c44), (11, .int .i64 x48), (37, .bool (decide (x48 < (IntKind.i64.wrap c4.1))))] (ar (ar (ar (ar (ar (ar trivial)))))) fun j => ?_
        rcases ite_some hF with ⟨hb81, hF⟩ | ⟨hb81, hF⟩
        · refine wpn_cT (congrArg Value.bool hb81) ?_
          refine wpn_sk ?_
          refine wpn_bl ?_
          refine wpn_assoc ?_
          refine wpn_qa hO [] [(0, .slice A0 p0.length c0), (7, .int .u64 c4.1), (8, .int .i64 x42), (10, .slice A43 x46.length c44), (11, .int .i64 x48), (43, .bool (decide (x42 ≥ (p0.length : Int))))] (ar (ar (ar (ar (ar (ar trivial)))))) fun j => ?_
          rcases ite_some hF with ⟨hb82, hF⟩ | ⟨hb82, hF⟩
          · refine wpn_cT (congrArg Value.bool hb82) ?_
            refine wpn_assoc ?_
            refine wpn_qa hO [] [(4, .slice none 0 0), (5, .int .i64 0), (6, .int .i64 5)] (ar (ar (ar trivial))) fun j => ?_
            refine wpn_rt ?_
            refine inb_r1 ?_
            refine thn_r1 ?_
            refine thn_r1 ?_
            refine inb_r1 ?_
            refine thn_r1 ?_
            injection hF with hF
            subst hF
            have hO := hO.sel [] (by decide)
            exact hQ _ _ _ _ _ rfl hO hL ⟨_, rfl, rfl, (RdT.nil _ _)⟩
          · refine wpn_cF (congrArg Value.bool hb82) ?_
            refine wpn_sk ?_
            refine wpn_q hO 2 [] [(0, .slice A0 p0.length c0), (7, .int .u64 c4.1), (8, .int .i64 x42), (10, .slice A43 x46.length c44), (11, .int .i64 x48), (44, .slice A0 p0.length c0), (45, .int .i64 x42)] (ar (ar (ar (ar (ar (ar (ar trivial))))))) fun j => ?_
            obtain ⟨y83, g84, hF⟩ := bind_some hF
            refine wpn_idx (T := Ty.u8) r41 hO.base rfl rfl g84 (by decide) fun a85 _ k86 m87 => ?_
            obtain rfl : _ = ([.int .u8 y83.toNat] : List Value) := k86
            refine wpn_ld rfl (m87.le hO.base).fst ?_
            refine wpn_q hO 1 [] [(0, .slice A0 p0.length c0), (7, .int .u64 c4.1), (8, .int .i64 x42), (10, .slice A43 x46.length c44), (11, .int .i64 x48), (48, .agg #[(.int .u8 (y83.toNat : Int)), (.int .i64 0)])] (ar (ar (ar (ar (ar (ar trivial)))))) fun j => ?_
            refine wpn_al hO fun b88 σ hO => ?_
            have hO : Obs _ _ [_, _] := hO
            refine wpn_st hO (i := 1) rfl (off := 0) rfl rfl rfl rfl (Nat.le_of_ble_eq_true rfl) rfl fun σ hO => ?_
            have hO : Obs _ _ [_, _] := hO
            refine wpn_nil ?_
            refine wpn_qa hO [] [(0, .slice A0 p0.length c0), (7, .int .u64 c4.1), (8, .int .i64 (IntKind.i64.wrap (x42 + 1))), (10, .slice A43 x46.length c44), (11, .int .i64 x48), (12, .pointer (some ⟨b88, 0, none⟩))] (ar (ar (ar (ar (ar (ar trivial)))))) fun j => ?_
            refine wpn_assoc ?_
            refine wpn_qa hO [1, 1, 1] [(0, .slice A0 p0.length c0), (7, .int .u64 c4.1), (8, .int .i64 (IntKind.i64.wrap (x42 + 1))), (10, .slice A43 x46.length c44), (11, .int .i64 x48), (12, .pointer (some ⟨b88, 0, none⟩)), (63, .bool ((((y83.toNat : Int) == 1) || ((y83.toNat : Int) == 2)) || ((y83.toNat : Int) == 3)))] (And.intro (And.intro rfl rfl) (And.intro (And.intro rfl rfl) (And.intro (And.intro rfl rfl) (fun _ => And.intro (And.intro rfl rfl) (And.intro (And.intro rfl rfl) (fun _ => ar (ar (ar (ar (ar (ar (ar trivial)))))))))))) fun j => ?_
            rcases ite_some hF with ⟨hb89, hF⟩ | ⟨hb89, hF⟩
            · refine wpn_cT (congrArg Value.bool hb89) ?_
              refine wpn_assoc ?_
              refine wpn_q hO 2 [] [(0, .slice A0 p0.length c0), (7, .int .u64 c4.1), (10, .slice A43 x46.length c44), (11, .int .i64 x48), (12, .pointer (some ⟨b88, 0, none⟩)), (65, .slice A0 p0.length c0), (66, .int .i64 (IntKind.i64.wrap (x42 + 1)))] (ar (ar (ar (ar (ar (ar (ar trivial))))))) fun j => ?_
              obtain ⟨c90, h91, hF⟩ := bind_some hF
              refine wpn_c0 hO (zdo r41 h91) rfl fun _ σ _ _ hO h92 h93 => ?_
              have hL := hL.trans h92
              have r41 := r41.le h92
              have w47 := w47.le h92
              obtain ⟨rfl, rfl⟩ := h93
              have hO : Obs _ _ [_, _] := hO
              refine wpn_q hO 5 [] [(0, .slice A0 p0.length c0), (7, .int .u64 c4.1), (10, .slice A43 x46.length c44), (11, .int .i64 x48), (12, .pointer (some ⟨b88, 0, none⟩)), (68, .int .i64 c90.1), (69, .int .i64 c90.2.1), (70, .int .i64 c90.2.2), (71, .pointer (some ⟨b88, 1, none⟩))] (ar (ar (ar (ar (ar (ar (ar (ar (ar trivial))))))))) fun j => ?_
              refine wpn_st hO (i := 1) rfl (off := 1) rfl rfl rfl rfl (Nat.le_of_ble_eq_true rfl) rfl fun σ hO => ?_
              have hO : Obs _ _ [_, _] := hO
              refine wpn_qa hO [] [(0, .slice A0 p0.length c0), (7, .int .u64 c4.1), (8, .int .i64 c90.2.1), (9, .int .i64 c90.2.2), (10, .slice A43 x46.length c44), (11, .int .i64 x48), (12, .pointer (some ⟨b88, 0, none⟩))] (ar (ar (ar (ar (ar (ar (ar trivial))))))) fun j => ?_
              refine wpn_assoc ?_
              refine wpn_qa hO [] [(0, .slice A0 p0.length c0), (7, .int .u64 c4.1), (8, .int .i64 c90.2.1), (10, .slice A43 x46.length c44), (11, .int .i64 x48), (12, .pointer (some ⟨b88, 0, none⟩)), (73, .bool (c90.2.2 != 0))] (ar (ar (ar (ar (ar (ar (ar trivial))))))) fun j => ?_
              rcases ite_some hF with ⟨hb94, hF⟩ | ⟨hb94, hF⟩
              · refine wpn_cT (congrArg Value.bool hb94) ?_
                refine wpn_assoc ?_
                refine wpn_qa hO [] [(4, .slice none 0 0), (5, .int .i64 0), (6, .int .i64 5)] (ar (ar (ar trivial))) fun j => ?_
                refine wpn_rt ?_
                refine inb_r1 ?_
                refine thn_r1 ?_
                refine thn_r1 ?_
                refine inb_r1 ?_
                refine thn_r1 ?_
                injection hF with hF
                subst hF
                have hO := hO.sel [] (by decide)
                exact hQ _ _ _ _ _ rfl hO hL ⟨_, rfl, rfl, (RdT.nil _ _)⟩
              · refine wpn_cF (congrArg Value.bool hb94) ?_
                refine wpn_sk ?_
                refine wpn_rlast ?_
                refine wpn_q hO 2 [1] [(0, .slice A0 p0.length c0), (7, .int .u64 c4.1), (8, .int .i64 c90.2.1), (11, .int .i64 x48), (74, .slice A43 x46.length c44), (75, .agg #[(.int .u8 (y83.toNat : Int)), (.int .i64 c90.1)])] (And.intro (And.intro rfl rfl) (ar (ar (ar (ar (ar (ar trivial))))))) fun j => ?_
                obtain ⟨_, hr99, hF⟩ := bind_some hF
                refine wpn_ap1 (T := zd) (y := (⟨y83, c90.1⟩ : zb)) hO w47 (i := 0) rfl rfl (fun _ => rfl) rfl rfl rfl hr99 (by decide) fun u _ σ o97 w98 hO => ?_
                obtain ⟨A95, c96, rfl, -⟩ := w98.form
                have hO : Obs _ _ [_, _] := hO
                refine wpn_qa hO [] [(0, .slice A0 p0.length c0), (7, .int .u64 c4.1), (8, .int .i64 c90.2.1), (10, .slice A95 (x46 ++ [(⟨y83, c90.1⟩ : zb)]).length c96), (11, .int .i64 x48)] (ar (ar (ar (ar (ar trivial))))) fun j => ?_
                refine wpn_end ?_
                refine inb_i ?_
                refine thn_i ?_
                refine wpn_rlast ?_
                refine wpn_qa hO [] [(0, .slice A0 p0.length c0), (7, .int .u64 c4.1), (8, .int .i64 c90.2.1), (10, .slice A95 (x46 ++ [(⟨y83, c90.1⟩ : zb)]).length c96), (11, .int .i64 (IntKind.i64.wrap (x48 + 1)))] (ar (ar (ar (ar (ar trivial))))) fun j => ?_
                refine wpn_end ?_
                refine thn_i ?_
                have hO := hO.sel [0] (by decide)
                exact ⟨n80, Nat.lt_succ_self _, c90.2.1, A95, c96, o97, (x46 ++ [(⟨y83, c90.1⟩ : zb)]), (IntKind.i64.wrap (x48 + 1)), _, ar (ar (ar (ar (ar trivial)))), hO, hL, r41, w98, hF⟩
            · refine wpn_cF (congrArg Value.bool hb89) ?_
              refine wpn_sk ?_
              refine wpn_rlast ?_
              refine wpn_q hO 2 [1] [(0, .slice A0 p0.length c0), (7, .int .u64 c4.1), (8, .int .i64 (IntKind.i64.wrap (x42 + 1))), (11, .int .i64 x48), (74, .slice A43 x46.length c44), (75, .agg #[(.int .u8 (y83.toNat : Int)), (.int .i64 0)])] (And.intro (And.intro rfl rfl) (ar (ar (ar (ar (ar (ar trivial))))))) fun j => ?_
              obtain ⟨_, hr104, hF⟩ := bind_some hF
              refine wpn_ap1 (T := zd) (y := (⟨y83, 0⟩ : zb)) hO w47 (i := 0) rfl rfl (fun _ => rfl) rfl rfl rfl hr104 (by decide) fun u _ σ o102 w103 hO => ?_
              obtain ⟨A100, c101, rfl, -⟩ := w103.form
              have hO : Obs _ _ [_, _] := hO
              refine wpn_qa hO [] [(0, .slice A0 p0.length c0), (7, .int .u64 c4.1), (8, .int .i64 (IntKind.i64.wrap (x42 + 1))), (10, .slice A100 (x46 ++ [(⟨y83, 0⟩ : zb)]).length c101), (11, .int .i64 x48)] (ar (ar (ar (ar (ar trivial))))) fun j => ?_
              refine wpn_end ?_
              refine inb_i ?_
              refine thn_i ?_
              refine wpn_rlast ?_
              refine wpn_qa hO [] [(0, .slice A0 p0.length c0), (7, .int .u64 c4.1), (8, .int .i64 (IntKind.i64.wrap (x42 + 1))), (10, .slice A100 (x46 ++ [(⟨y83, 0⟩ : zb)]).length c101), (11, .int .i64 (IntKind.i64.wrap (x48 + 1)))] (ar (ar (ar (ar (ar trivial))))) fun j => ?_
              refine wpn_end ?_
              refine thn_i ?_
              have hO := hO.sel [0] (by decide)
              exact ⟨n80, Nat.lt_succ_self _, (IntKind.i64.wrap (x42 + 1)), A100, c101, o102, (x46 ++ [(⟨y83, 0⟩ : zb)]), (IntKind.i64.wrap (x48 + 1)), _, ar (ar (ar (ar (ar trivial)))), hO, hL, r41, w103, hF⟩
        · refine wpn_cF (congrArg Value.bool hb81) ?_
          refine wpn_ex ?_
          refine thn_x ?_
          refine inb_x ?_
          refine thn_i ?_
          refine wpn_assoc ?_
          refine wpn_q hO 1 [] [(8, .int .i64 x42), (10, .slice A43 x46.length c44), (78, .slice A43 x46.length c44)] (ar (ar (ar trivial))) fun j => ?_
          obtain ⟨_, h106, r105, hO⟩ := w47.share hO (i := 0) rfl
          have hL := hL.trans h106
          have hO : Obs _ _ [_] := hO
          obtain ⟨c107, h108, hF⟩ := bind_some hF
          refine wpn_c0 hO (zct r105 h108) rfl fun _ σ _ _ hO h109 h110 => ?_
          have hL := hL.trans h109
          have r105 := r105.le h109
          obtain ⟨rfl, rfl⟩ := h110
          have hO : Obs _ _ [_] := hO
          refine wpn_qa hO [] [(8, .int .i64 x42), (10, .slice A43 x46.length c44), (80, .bool (!c107))] (ar (ar (ar trivial))) fun j => ?_
          rcases ite_some hF with ⟨hb111, hF⟩ | ⟨hb111, hF⟩
          · refine wpn_cT (congrArg Value.bool hb111) ?_
            refine wpn_assoc ?_
            refine wpn_qa hO [] [(4, .slice none 0 0), (5, .int .i64 0), (6, .int .i64 5)] (ar (ar (ar trivial))) fun j => ?_
            refine wpn_rt ?_
            injection hF with hF
            subst hF
            have hO := hO.sel [] (by decide)
            exact hQ _ _ _ _ _ rfl hO hL ⟨_, rfl, rfl, (RdT.nil _ _)⟩
          · refine wpn_cF (congrArg Value.bool hb111) ?_
            refine wpn_sk ?_
            refine wpn_qa hO [] [(4, .slice A43 x46.length c44), (5, .int .i64 x42), (6, .int .i64 0)] (ar (ar (ar trivial))) fun j => ?_
            refine wpn_r1 ?_
            injection hF with hF
            subst hF
            have hO := hO.sel [] (by decide)
            exact hQ _ _ _ _ _ rfl hO hL ⟨_, rfl, rfl, r105⟩
theorem zdK {τ : Hp} {v0 : Value} {p0 : (List UInt8)} {p1 : Int} (r0 : RdT Ty.u8 τ v0 p0) {rr : (List za) × Int × Int} (hF : zM p0 p1 = some rr) :
    Ctr Try.prog 21 #[v0, .int .i64 p1] τ [] (fun v τ' vs' => ∃ (v0 : Value), v = .tuple #[v0, .int .i64 rr.2.1, .int .i64 rr.2.2] ∧ vs' = [] ∧ RdT zc τ' v0 rr.1) := by
  obtain ⟨A0, c0, rfl, -⟩ := r0.form
  refine ctr_of (args := [.slice A0 p0.length c0, .int .i64 p1]) hm Try.func21 s21 rfl fun w0 σ hO Q hQ => ?_
  unfold zM at hF
  have hL := Hp.le.refl τ
  show wpn _ _ a21.body _ _ _
  unfold a21
  dsimp only
  refine wpn_qa hO [] [(0, .slice A0 p0.length c0), (1, .int .i64 p1)] (ar (ar trivial)) fun j => ?_
  refine wpn_assoc ?_
  refine wpn_qa hO [] [(0, .slice A0 p0.length c0), (1, .int .i64 p1), (29, .bool ((decide (p1 < 0)) || (decide (p1 > (p0.length : Int)))))] (And.intro (And.intro rfl rfl) (fun _ => ar (ar (ar trivial)))) fun j => ?_
  rcases ite_some hF with ⟨hb3, hF⟩ | ⟨hb3, hF⟩
  · refine wpn_cT (congrArg Value.bool hb3) ?_
    refine wpn_assoc ?_
    refine wpn_qa hO [] [(4, .slice none 0 0), (5, .int .i64 0), (6, .int .i64 1)] (ar (ar (ar trivial))) fun j => ?_
    refine wpn_rt ?_
    injection hF with hF
    subst hF
    exact hQ _ _ _ _ _ rfl hO hL ⟨_, rfl, rfl, (RdT.nil _ _)⟩
  · refine wpn_cF (congrArg Value.bool hb3) ?_
    refine wpn_sk ?_
    refine wpn_q hO 2 [] [(0, .slice A0 p0.length c0), (31, .slice A0 p0.length c0), (32, .int .i64 p1)] (ar (ar (ar trivial))) fun j => ?_
    obtain ⟨c4, h5, hF⟩ := bind_some hF
    refine wpn_c0 hO (zca r0 h5) rfl fun _ σ _ _ hO h6 h7 => ?_
    have hL := hL.trans h6
    have r0 := r0.le h6
    obtain ⟨rfl, rfl⟩ := h7
    have hO : Obs _ _ [] := hO
    refine wpn_qa hO [] [(0, .slice A0 p0.length c0), (7, .int .i64 c4.1), (8, .int .i64 c4.2.1), (9, .bool c4.2.2)] (ar (ar (ar (ar trivial)))) fun j => ?_
    refine wpn_assoc ?_
    refine wpn_qa hO [] [(0, .slice A0 p0.length c0), (7, .int .i64 c4.1), (8, .int .i64 c4.2.1), (42, .bool ((!c4.2.2) || (decide (c4.1 > 4000))))] (And.intro (And.intro rfl rfl) (fun _ => ar (ar (ar (ar trivial))))) fun j => ?_
    rcases ite_some hF with ⟨hb8, hF⟩ | ⟨hb8, hF⟩
    · refine wpn_cT (congrArg Value.bool hb8) ?_
      refine wpn_assoc ?_
      refine wpn_qa hO [] [(4, .slice none 0 0), (5, .int .i64 0), (6, .int .i64 5)] (ar (ar (ar trivial))) fun j => ?_
      refine wpn_rt ?_
      injection hF with hF
      subst hF
      exact hQ _ _ _ _ _ rfl hO hL ⟨_, rfl, rfl, (RdT.nil _ _)⟩
    · refine wpn_cF (congrArg Value.bool hb8) ?_
      refine wpn_sk ?_
      refine wpn_qa hO [] [(0, .slice A0 p0.length c0), (7, .int .i64 c4.1), (8, .int .i64 c4.2.1), (10, .slice none 0 0)] (ar (ar (ar (ar trivial)))) fun j => ?_
      refine wpn_qa hO [] [(0, .slice A0 p0.length c0), (7, .int .i64 c4.1), (8, .int .i64 c4.2.1), (10, .slice none 0 0), (11, .int .i64 0)] (ar (ar (ar (ar (ar trivial))))) fun j => ?_
      refine wpn_assoc ?_
      refine wpn_qa hO [] [(0, .slice A0 p0.length c0), (7, .int .i64 c4.1), (8, .int .i64 c4.2.1), (10, .slice none 0 0), (11, .int .i64 0), (12, .int .i64 0)] (ar (ar (ar (ar (ar (ar trivial)))))) fun j => ?_
      refine wpn_bl ?_
      have hO := hO.no
      have hO : Obs _ _ [_] := hO
      refine wpn_lp (fun (n : Nat) e' σ' => ∃ (x43 : Int) (A44 : Option Addr) (c45 : Nat) (o46 : Ob) (x47 : List za) (x49 : Int) (x50 : Int) (τ' : Hp), agr [(0, .slice A0 p0.length c0), (7, .int .i64 c4.1), (8, .int .i64 x43), (10, .slice A44 x47.length c45), (11, .int .i64 x49), (12, .int .i64 x50)] e' ∧ Obs τ' σ' [o46] ∧ Hp.le τ τ' ∧ RdT Ty.u8 τ' (.slice A0 p0.length c0) p0 ∧ OwnO zc 46 τ' (.slice A44 x47.length c45) x47 o46 ∧ z7 p0 c4 n x43 x47 x49 x50 = some rr) big ⟨c4.2.1, none, 0, none, [], 0, 0, _, ar (ar (ar (ar (ar (ar trivial))))), hO, hL, r0, OwnO.nil _ _ _, hF⟩ ?_
      clear hF hO hL
      rintro n84 e σ ⟨x43, A44, c45, o46, x47, x49, x50, _, hA, hO, hL, r42, w48, hF⟩
      rw [← sets_agr _ _ hA]
      cases n84 with
      | zero => exact nomatch (show none = some rr from hF)
      | succ n84 =>
        replace hF : zp (z7 p0 c4 n84) p0 c4 x43 x47 x49 x50 = some rr := hF
        unfold zp at hF
        refine wpn_assoc ?_
        refine wpn_qa hO [] [(0, .slice A0 p0.length c0), (7, .int .i64 c4.1), (8, .int .i64 x43), (10, .slice A44 x47.length c45), (11, .int .i64 x49), (12, .int .i64 x50), (45, .bool (decide (x50 < c4.1)))] (ar (ar (ar (ar (ar (ar (ar trivial))))))) fun j => ?_
        rcases ite_some hF with ⟨hb85, hF⟩ | ⟨hb85, hF⟩
        · refine wpn_cT (congrArg Value.bool hb85) ?_
          refine wpn_sk ?_
          refine wpn_bl ?_
          refine wpn_q hO 2 [] [(0, .slice A0 p0.length c0), (7, .int .i64 c4.1), (10, .slice A44 x47.length c45), (11, .int .i64 x49), (12, .int .i64 x50), (49, .slice A0 p0.length c0), (50, .int .i64 x43)] (ar (ar (ar (ar (ar (ar (ar trivial))))))) fun j => ?_
          obtain ⟨c86, h87, hF⟩ := bind_some hF
          refine wpn_c0 hO (zca r42 h87) rfl fun _ σ _ _ hO h88 h89 => ?_
          have hL := hL.trans h88
          have r42 := r42.le h88
          have w48 := w48.le h88
          obtain ⟨rfl, rfl⟩ := h89
          have hO : Obs _ _ [_] := hO
          refine wpn_qa hO [] [(0, .slice A0 p0.length c0), (7, .int .i64 c4.1), (10, .slice A44 x47.length c45), (11, .int .i64 x49), (12, .int .i64 x50), (13, .int .i64 c86.1), (14, .int .i64 c86.2.1), (15, .bool c86.2.2)] (ar (ar (ar (ar (ar (ar (ar (ar trivial)))))))) fun j => ?_
          refine wpn_assoc ?_
          refine wpn_qa hO [] [(0, .slice A0 p0.length c0), (7, .int .i64 c4.1), (10, .slice A44 x47.length c45), (11, .int .i64 x49), (12, .int .i64 x50), (13, .int .i64 c86.1), (14, .int .i64 c86.2.1), (56, .bool (!c86.2.2))] (ar (ar (ar (ar (ar (ar (ar (ar trivial)))))))) fun j => ?_
          rcases ite_some hF with ⟨hb90, hF⟩ | ⟨hb90, hF⟩
          · refine wpn_cT (congrArg Value.bool hb90) ?_
            refine wpn_assoc ?_
            refine wpn_qa hO [] [(4, .slice none 0 0), (5, .int .i64 0), (6, .int .i64 5)] (ar (ar (ar trivial))) fun j => ?_
            refine wpn_rt ?_
            refine inb_r1 ?_
            refine thn_r1 ?_
            refine thn_r1 ?_
            refine inb_r1 ?_
            refine thn_r1 ?_
            injection hF with hF
            subst hF
            have hO := hO.sel [] (by decide)
            exact hQ _ _ _ _ _ rfl hO hL ⟨_, rfl, rfl, (RdT.nil _ _)⟩
          · refine wpn_cF (congrArg Value.bool hb90) ?_
            refine wpn_sk ?_
            refine wpn_q hO 2 [] [(0, .slice A0 p0.length c0), (7, .int .i64 c4.1), (10, .slice A44 x47.length c45), (11, .int .i64 x49), (12, .int .i64 x50), (13, .int .i64 c86.1), (58, .slice A0 p0.length c0), (59, .int .i64 c86.2.1)] (ar (ar (ar (ar (ar (ar (ar (ar trivial)))))))) fun j => ?_
            obtain ⟨c91, h92, hF⟩ := bind_some hF
            refine wpn_c0 hO (zca r42 h92) rfl fun _ σ _ _ hO h93 h94 => ?_
            have hL := hL.trans h93
            have r42 := r42.le h93
            have w48 := w48.le h93
            obtain ⟨rfl, rfl⟩ := h94
            have hO : Obs _ _ [_] := hO
            refine wpn_qa hO [] [(0, .slice A0 p0.length c0), (7, .int .i64 c4.1), (10, .slice A44 x47.length c45), (11, .int .i64 x49), (12, .int .i64 x50), (13, .int .i64 c86.1), (16, .int .i64 c91.1), (17, .int .i64 c91.2.1), (18, .bool c91.2.2)] (ar (ar (ar (ar (ar (ar (ar (ar (ar trivial))))))))) fun j => ?_
            refine wpn_assoc ?_
            refine wpn_qa hO [] [(0, .slice A0 p0.length c0), (7, .int .i64 c4.1), (10, .slice A44 x47.length c45), (11, .int .i64 x49), (12, .int .i64 x50), (13, .int .i64 c86.1), (16, .int .i64 c91.1), (17, .int .i64 c91.2.1), (65, .bool (!c91.2.2))] (ar (ar (ar (ar (ar (ar (ar (ar (ar trivial))))))))) fun j => ?_
            rcases ite_some hF with ⟨hb95, hF⟩ | ⟨hb95, hF⟩
            · refine wpn_cT (congrArg Value.bool hb95) ?_
              refine wpn_assoc ?_
              refine wpn_qa hO [] [(4, .slice none 0 0), (5, .int .i64 0), (6, .int .i64 5)] (ar (ar (ar trivial))) fun j => ?_
              refine wpn_rt ?_
              refine inb_r1 ?_
              refine thn_r1 ?_
              refine thn_r1 ?_
              refine inb_r1 ?_
              refine thn_r1 ?_
              injection hF with hF
              subst hF
              have hO := hO.sel [] (by decide)
              exact hQ _ _ _ _ _ rfl hO hL ⟨_, rfl, rfl, (RdT.nil _ _)⟩
            · refine wpn_cF (congrArg Value.bool hb95) ?_
              refine wpn_sk ?_
              refine wpn_q hO 2 [] [(0, .slice A0 p0.length c0), (7, .int .i64 c4.1), (10, .slice A44 x47.length c45), (11, .int .i64 x49), (12, .int .i64 x50), (13, .int .i64 c86.1), (16, .int .i64 c91.1), (67, .slice A0 p0.length c0), (68, .int .i64 c91.2.1)] (ar (ar (ar (ar (ar (ar (ar (ar (ar trivial))))))))) fun j => ?_
              obtain ⟨c96, h97, hF⟩ := bind_some hF
              refine wpn_c0 hO (zcP r42 h97) rfl fun _ σ _ _ hO h98 h99 => ?_
              have hL := hL.trans h98
              have r42 := r42.le h98
              have w48 := w48.le h98
              obtain ⟨v100, rfl, rfl, r103⟩ := h99
              obtain ⟨A101, c102, rfl, -⟩ := r103.form
              have hO : Obs _ _ [_] := hO
              refine wpn_qa hO [] [(0, .slice A0 p0.length c0), (7, .int .i64 c4.1), (10, .slice A44 x47.length c45), (11, .int .i64 x49), (12, .int .i64 x50), (13, .int .i64 c86.1), (16, .int .i64 c91.1), (19, .slice A101 c96.1.length c102), (20, .int .i64 c96.2.1), (21, .int .i64 c96.2.2)] (ar (ar (ar (ar (ar (ar (ar (ar (ar (ar trivial)))))))))) fun j => ?_
              refine wpn_assoc ?_
              refine wpn_qa hO [] [(0, .slice A0 p0.length c0), (7, .int .i64 c4.1), (10, .slice A44 x47.length c45), (11, .int .i64 x49), (12, .int .i64 x50), (13, .int .i64 c86.1), (16, .int .i64 c91.1), (19, .slice A101 c96.1.length c102), (20, .int .i64 c96.2.1), (74, .bool (c96.2.2 != 0))] (ar (ar (ar (ar (ar (ar (ar (ar (ar (ar trivial)))))))))) fun j => ?_
              rcases ite_some hF with ⟨hb104, hF⟩ | ⟨hb104, hF⟩
              · refine wpn_cT (congrArg Value.bool hb104) ?_
                refine wpn_assoc ?_
                refine wpn_qa hO [] [(4, .slice none 0 0), (5, .int .i64 0), (6, .int .i64 5)] (ar (ar (ar trivial))) fun j => ?_
                refine wpn_rt ?_
                refine inb_r1 ?_
                refine thn_r1 ?_
                refine thn_r1 ?_
                refine inb_r1 ?_
                refine thn_r1 ?_
                injection hF with hF
                subst hF
                have hO := hO.sel [] (by decide)
                exact hQ _ _ _ _ _ rfl hO hL ⟨_, rfl, rfl, (RdT.nil _ _)⟩
              · refine wpn_cF (congrArg Value.bool hb104) ?_
                refine wpn_sk ?_
                refine wpn_q hO 11 [] [(0, .slice A0 p0.length c0), (7, .int .i64 c4.1), (11, .int .i64 x49), (12, .int .i64 x50), (13, .int .i64 c86.1), (16, .int .i64 c91.1), (20, .int .i64 c96.2.1), (75, .slice A44 x47.length c45), (85, .agg #[(.int .i64 (IntKind.i64.wrap (x49 + c86.1))), (.int .i64 (IntKind.i64.wrap ((IntKind.i64.wrap (x49 + c86.1)) + c91.1))), (.slice A101 c96.1.length c102)])] (ar (ar (ar (ar (ar (ar (ar (ar (ar trivial))))))))) fun j => ?_
                obtain ⟨_, hr109, hF⟩ := bind_some hF
                refine wpn_ap1 (T := zc) (y := (⟨(IntKind.i64.wrap (x49 + c86.1)), (IntKind.i64.wrap ((IntKind.i64.wrap (x49 + c86.1)) + c91.1)), c96.1⟩ : za)) hO w48 (i := 0) rfl rfl (fun _ => rfl) rfl ⟨_, rfl, r103⟩ rfl hr109 (by decide) fun u _ σ o107 w108 hO => ?_
                obtain ⟨A105, c106, rfl, -⟩ := w108.form
                have hO : Obs _ _ [_] := hO
                refine wpn_qa hO [] [(0, .slice A0 p0.length c0), (7, .int .i64 c4.1), (10, .slice A105 (x47 ++ [(⟨(IntKind.i64.wrap (x49 + c86.1)), (IntKind.i64.wrap ((IntKind.i64.wrap (x49 + c86.1)) + c91.1)), c96.1⟩ : za)]).length c106), (11, .int .i64 x49), (12, .int .i64 x50), (13, .int .i64 c86.1), (16, .int .i64 c91.1), (20, .int .i64 c96.2.1)] (ar (ar (ar (ar (ar (ar (ar (ar trivial)))))))) fun j => ?_
                refine wpn_qa hO [] [(0, .slice A0 p0.length c0), (7, .int .i64 c4.1), (10, .slice A105 (x47 ++ [(⟨(IntKind.i64.wrap (x49 + c86.1)), (IntKind.i64.wrap ((IntKind.i64.wrap (x49 + c86.1)) + c91.1)), c96.1⟩ : za)]).length c106), (11, .int .i64 (IntKind.i64.wrap ((IntKind.i64.wrap (x49 + c86.1)) + c91.1))), (12, .int .i64 x50), (20, .int .i64 c96.2.1)] (ar (ar (ar (ar (ar (ar trivial)))))) fun j => ?_
                refine wpn_qa hO [] [(0, .slice A0 p0.length c0), (7, .int .i64 c4.1), (8, .int .i64 c96.2.1), (10, .slice A105 (x47 ++ [(⟨(IntKind.i64.wrap (x49 + c86.1)), (IntKind.i64.wrap ((IntKind.i64.wrap (x49 + c86.1)) + c91.1)), c96.1⟩ : za)]).length c106), (11, .int .i64 (IntKind.i64.wrap ((IntKind.i64.wrap (x49 + c86.1)) + c91.1))), (12, .int .i64 x50)] (ar (ar (ar (ar (ar (ar trivial)))))) fun j => ?_
                refine wpn_qa hO [] [(0, .slice A0 p0.length c0), (7, .int .i64 c4.1), (8, .int .i64 c96.2.1), (10, .slice A105 (x47 ++ [(⟨(IntKind.i64.wrap (x49 + c86.1)), (IntKind.i64.wrap ((IntKind.i64.wrap (x49 + c86.1)) + c91.1)), c96.1⟩ : za)]).length c106), (11, .int .i64 (IntKind.i64.wrap ((IntKind.i64.wrap (x49 + c86.1)) + c91.1))), (12, .int .i64 x50), (95, .bool (decide ((IntKind.i64.wrap ((IntKind.i64.wrap (x49 + c86.1)) + c91.1)) > 16777216)))] (ar (ar (ar (ar (ar (ar (ar trivial))))))) fun j => ?_
                refine wpn_clast ?_
                rcases ite_some hF with ⟨hb110, hF⟩ | ⟨hb110, hF⟩
                · refine wpn_cT (congrArg Value.bool hb110) ?_
                  refine wpn_assoc ?_
                  refine wpn_qa hO [] [(4, .slice none 0 0), (5, .int .i64 0), (6, .int .i64 5)] (ar (ar (ar trivial))) fun j => ?_
                  refine wpn_rt ?_
                  refine inb_r1 ?_
                  refine thn_r1 ?_
                  refine thn_r1 ?_
                  refine inb_r1 ?_
                  refine thn_r1 ?_
                  injection hF with hF
                  subst hF
                  have hO := hO.sel [] (by decide)
                  exact hQ _ _ _ _ _ rfl hO hL ⟨_, rfl, rfl, (RdT.nil _ _)⟩
                · refine wpn_cF (congrArg Value.bool hb110) ?_
                  refine wpn_sk ?_
                  refine wpn_end ?_
                  refine inb_i ?_
                  refine thn_i ?_
                  refine wpn_rlast ?_
                  refine wpn_qa hO [] [(0, .slice A0 p0.length c0), (7, .int .i64 c4.1), (8, .int .i64 c96.2.1), (10, .slice A105 (x47 ++ [(⟨(IntKind.i64.wrap (x49 + c86.1)), (IntKind.i64.wrap ((IntKind.i64.wrap (x49 + c86.1)) + c91.1)), c96.1⟩ : za)]).length c106), (11, .int .i64 (IntKind.i64.wrap ((IntKind.i64.wrap (x49 + c86.1)) + c91.1))), (12, .int .i64 (IntKind.i64.wrap (x50 + 1)))] (ar (ar (ar (ar (ar (ar trivial)))))) fun j => ?_
                  refine wpn_end ?_
                  refine thn_i ?_
                  exact ⟨n84, Nat.lt_succ_self _, c96.2.1, A105, c106, o107, (x47 ++ [(⟨(IntKind.i64.wrap (x49 + c86.1)), (IntKind.i64.wrap ((IntKind.i64.wrap (x49 + c86.1)) + c91.1)), c96.1⟩ : za)]), (IntKind.i64.wrap ((IntKind.i64.wrap (x49 + c86.1)) + c91.1)), (IntKind.i64.wrap (x50 + 1)), _, ar (ar (ar (ar (ar (ar trivial))))), hO, hL, r42, w108, hF⟩
        · refine wpn_cF (congrArg Value.bool hb85) ?_
          refine wpn_ex ?_
          refine thn_x ?_
          refine inb_x ?_
          refine thn_i ?_
          refine wpn_assoc ?_
          refine wpn_q hO 1 [] [(8, .int .i64 x43), (10, .slice A44 x47.length c45), (96, .slice A44 x47.length c45)] (ar (ar (ar trivial))) fun j => ?_
          obtain ⟨_, h112, r111, hO⟩ := w48.share hO (i := 0) rfl
          have hL := hL.trans h112
          have hO : Obs _ _ [_] := hO
          obtain ⟨c113, h114, hF⟩ := bind_some hF
          refine wpn_c0 hO (zdj r111 h114) rfl fun _ σ _ _ hO h115 h116 => ?_
          have hL := hL.trans h115
          have r111 := r111.le h115
          obtain ⟨rfl, rfl⟩ := h116
          have hO : Obs _ _ [_] := hO
          refine wpn_qa hO [] [(8, .int .i64 x43), (10, .slice A44 x47.length c45), (98, .bool (!c113))] (ar (ar (ar trivial))) fun j => ?_
          rcases ite_some hF with ⟨hb117, hF⟩ | ⟨hb117, hF⟩
          · refine wpn_cT (congrArg Value.bool hb117) ?_
            refine wpn_assoc ?_
            refine wpn_qa hO [] [(4, .slice none 0 0), (5, .int .i64 0), (6, .int .i64 5)] (ar (ar (ar trivial))) fun j => ?_
            refine wpn_rt ?_
            injection hF with hF
            subst hF
            have hO := hO.sel [] (by decide)
            exact hQ _ _ _ _ _ rfl hO hL ⟨_, rfl, rfl, (RdT.nil _ _)⟩
          · refine wpn_cF (congrArg Value.bool hb117) ?_
            refine wpn_sk ?_
            refine wpn_qa hO [] [(4, .slice A44 x47.length c45), (5, .int .i64 x43), (6, .int .i64 0)] (ar (ar (ar trivial))) fun j => ?_
            refine wpn_r1 ?_
            injection hF with hF
            subst hF
            have hO := hO.sel [] (by decide)
            exact hQ _ _ _ _ _ rfl hO hL ⟨_, rfl, rfl, r111⟩
theorem zcQ {τ : Hp} {v0 : Value} {p0 : (List UInt8)} {p1 : Int} (r0 : RdT Ty.u8 τ v0 p0) {rr : Bool} (hF : zbS p0 p1 = some rr) :
    Ctr Try.prog 4 #[v0, .int .i64 p1] τ [] (fun v τ' vs' => v = .bool rr ∧ vs' = []) := by
  obtain ⟨A0, c0, rfl, -⟩ := r0.form
  refine ctr_of (args := [.slice A0 p0.length c0, .int .i64 p1]) hm Try.func4 s4 rfl fun w0 σ hO Q hQ => ?_
  unfold zbS at hF
  have hL := Hp.le.refl τ
  show wpn _ _ a4.body _ _ _
  unfold a4
  dsimp only
  refine wpn_qa hO [] [(0, .slice A0 p0.length c0), (1, .int .i64 p1)] (ar (ar trivial)) fun j => ?_
  refine wpn_assoc ?_
  refine wpn_qa hO [] [(0, .slice A0 p0.length c0), (1, .int .i64 p1), (14, .bool (decide ((p0.length : Int) > 8192)))] (ar (ar (ar trivial))) fun j => ?_
  rcases ite_some hF with ⟨hb3, hF⟩ | ⟨hb3, hF⟩
  · refine wpn_cT (congrArg Value.bool hb3) ?_
    refine wpn_assoc ?_
    obtain ⟨c4, h5, hF⟩ := bind_some hF
    refine wpn_c0 hO (zcH h5) rfl fun _ σ _ _ hO h6 h7 => ?_
    have hL := hL.trans h6
    have r0 := r0.le h6
    obtain ⟨rfl, rfl⟩ := h7
    have hO : Obs _ _ [] := hO
    refine wpn_qa hO [] [(4, .bool c4)] (ar trivial) fun j => ?_
    refine wpn_rt ?_
    injection hF with hF
    subst hF
    exact hQ _ _ _ _ _ rfl hO hL ⟨rfl, rfl⟩
  · refine wpn_cF (congrArg Value.bool hb3) ?_
    refine wpn_sk ?_
    refine wpn_q hO 1 [] [(0, .slice A0 p0.length c0), (1, .int .i64 p1), (16, .slice A0 p0.length c0)] (ar (ar (ar trivial))) fun j => ?_
    obtain ⟨c8, h9, hF⟩ := bind_some hF
    refine wpn_c0 hO (zcZ r0 h9) rfl fun _ σ _ _ hO h10 h11 => ?_
    have hL := hL.trans h10
    have r0 := r0.le h10
    obtain ⟨v12, rfl, rfl, r15, f16⟩ := h11
    obtain ⟨A13, n17, rfl, f16⟩ := f16
    obtain ⟨_, _, h18, -⟩ := r15.form
    injection h18 with _ h18 _
    subst h18
    have f16 : Full Ty.u8 _ (.slice A13 c8.1.length c8.2.length) c8.2 := ⟨_, _, rfl, f16⟩
    have hO : Obs _ _ [] := hO
    refine wpn_qa hO [] [(0, .slice A0 p0.length c0), (1, .int .i64 p1), (5, .slice A13 c8.1.length c8.2.length)] (ar (ar (ar trivial))) fun j => ?_
    refine wpn_q hO 2 [] [(0, .slice A0 p0.length c0), (1, .int .i64 p1), (5, .slice A13 c8.1.length c8.2.length), (19, .slice A13 c8.1.length c8.2.length), (20, .int .i64 p1)] (ar (ar (ar (ar (ar trivial))))) fun j => ?_
    obtain ⟨c19, h20, hF⟩ := bind_some hF
    refine wpn_c0 hO (zcA r15 h20) rfl fun _ σ _ _ hO h21 h22 => ?_
    have hL := hL.trans h21
    have r0 := r0.le h21
    have r15 := r15.le h21
    have f16 := f16.le h21
    obtain ⟨v23, rfl, rfl, r26⟩ := h22
    obtain ⟨A24, c25, rfl, -⟩ := r26.form
    have hO : Obs _ _ [] := hO
    refine wpn_qa hO [] [(0, .slice A0 p0.length c0), (1, .int .i64 p1), (5, .slice A13 c8.1.length c8.2.length), (6, .slice A24 c19.1.length c25), (7, .int .i64 c19.2.1), (8, .int .i64 c19.2.2)] (ar (ar (ar (ar (ar (ar trivial)))))) fun j => ?_
    refine wpn_q hO 2 [] [(0, .slice A0 p0.length c0), (5, .slice A13 c8.1.length c8.2.length), (6, .slice A24 c19.1.length c25), (7, .int .i64 c19.2.1), (8, .int .i64 c19.2.2), (26, .slice A0 p0.length c0), (27, .int .i64 p1)] (ar (ar (ar (ar (ar (ar (ar trivial))))))) fun j => ?_
    obtain ⟨c27, h28, hF⟩ := bind_some hF
    refine wpn_c0 hO (zdK r0 h28) rfl fun _ σ _ _ hO h29 h30 => ?_
    have hL := hL.trans h29
    have r0 := r0.le h29
    have r15 := r15.le h29
    have f16 := f16.le h29
    have r26 := r26.le h29
    obtain ⟨v31, rfl, rfl, r34⟩ := h30
    obtain ⟨A32, c33, rfl, -⟩ := r34.form
    have hO : Obs _ _ [] := hO
    refine wpn_qa hO [] [(0, .slice A0 p0.length c0), (5, .slice A13 c8.1.length c8.2.length), (6, .slice A24 c19.1.length c25), (7, .int .i64 c19.2.1), (8, .int .i64 c19.2.2), (9, .slice A32 c27.1.length c33), (10, .int .i64 c27.2.1), (11, .int .i64 c27.2.2)] (ar (ar (ar (ar (ar (ar (ar (ar trivial)))))))) fun j => ?_
    refine wpn_q hO 2 [] [(0, .slice A0 p0.length c0), (5, .slice A13 c8.1.length c8.2.length), (7, .int .i64 c19.2.1), (8, .int .i64 c19.2.2), (10, .int .i64 c27.2.1), (11, .int .i64 c27.2.2), (32, .slice A24 c19.1.length c25), (33, .slice A32 c27.1.length c33)] (ar (ar (ar (ar (ar (ar (ar (ar trivial)))))))) fun j => ?_
    obtain ⟨c35, h36, hF⟩ := bind_some hF
    refine wpn_c0 hO (zcO r26 r34 h36) rfl fun _ σ _ _ hO h37 h38 => ?_
    have hL := hL.trans h37
    have r0 := r0.le h37
    have r15 := r15.le h37
    have f16 := f16.le h37
    have r26 := r26.le h37
    have r34 := r34.le h37
    obtain ⟨rfl, rfl⟩ := h38
    have hO : Obs _ _ [] := hO
    refine wpn_q hO 7 [] [(0, .slice A0 p0.length c0), (5, .slice A13 c8.1.length c8.2.length), (45, .bool ((c35 && (c19.2.1 == c27.2.1)) && (c19.2.2 == c27.2.2)))] (And.intro (And.intro rfl rfl) (fun _ => And.intro (And.intro rfl rfl) (fun _ => ar (ar (ar trivial))))) fun j => ?_
    obtain ⟨c39, h40, hF⟩ := bind_some hF
    refine wpn_mid 2 (fun e' σ' => ∃ (τ' : Hp), agr [(49, .bool c39)] e' ∧ Obs τ' σ' [] ∧ Hp.le τ τ') ?_ ?_
    · have hF := h40
      rcases ite_some hF with ⟨hb41, hF⟩ | ⟨hb41, hF⟩
      · refine wpn_gT (congrArg (fun x => isB (.bool x) true) hb41) ?_
        refine wpn_q hO 2 [] [(45, .bool ((c35 && (c19.2.1 == c27.2.1)) && (c19.2.2 == c27.2.2))), (46, .slice A13 c8.1.length c8.2.length), (47, .slice A0 p0.length c0)] (ar (ar (ar trivial))) fun j => ?_
        obtain ⟨c42, h43, hF⟩ := bind_some hF
        refine wpn_c0 hO (zdb r15 f16 r0 h43) rfl fun _ σ _ _ hO h44 h45 => ?_
        have hL := hL.trans h44
        have r15 := r15.le h44
        have f16 := f16.le h44
        have r0 := r0.le h44
        obtain ⟨rfl, rfl⟩ := h45
        have hO : Obs _ _ [] := hO
        refine wpn_pk (congrArg Value.bool hb41) ?_
        refine wpn_nil ?_
        injection hF with hF
        subst hF
        refine wpn_end ?_
        exact ⟨rfl, _, ar (trivial), hO, hL⟩
      · refine wpn_gF (congrArg (fun x => isB (.bool x) true) hb41) ?_
        refine wpn_pk (congrArg Value.bool hb41) ?_
        refine wpn_nil ?_
        injection hF with hF
        subst hF
        refine wpn_end ?_
        exact ⟨rfl, _, ar (trivial), hO, hL⟩
    · rintro e σ ⟨_, hA, hO, hL⟩
      rw [← sets_agr _ _ hA]
      refine wpn_q hO 1 [] [(50, .bool c39)] (ar trivial) fun j => ?_
      obtain ⟨c46, h47, hF⟩ := bind_some hF
      refine wpn_mid 2 (fun e' σ' => ∃ (τ' : Hp), agr [(52, .bool c46)] e' ∧ Obs τ' σ' [] ∧ Hp.le τ τ') ?_ ?_
      · have hF := h47
        rcases ite_some hF with ⟨hb48, hF⟩ | ⟨hb48, hF⟩
        · refine wpn_gT (congrArg (fun x => isB (.bool x) true) hb48) ?_
          obtain ⟨c49, h50, hF⟩ := bind_some hF
          refine wpn_c0 hO (zcH h50) rfl fun _ σ _ _ hO h51 h52 => ?_
          have hL := hL.trans h51
          obtain ⟨rfl, rfl⟩ := h52
          have hO : Obs _ _ [] := hO
          refine wpn_pk (congrArg Value.bool hb48) ?_
          refine wpn_nil ?_
          injection hF with hF
          subst hF
          refine wpn_end ?_
          exact ⟨rfl, _, ar (trivial), hO, hL⟩
        · refine wpn_gF (congrArg (fun x => isB (.bool x) true) hb48) ?_
          refine wpn_pk (congrArg Value.bool hb48) ?_
          refine wpn_nil ?_
          injection hF with hF
          subst hF
          refine wpn_end ?_
          exact ⟨rfl, _, ar (trivial), hO, hL⟩
      · rintro e σ ⟨_, hA, hO, hL⟩
        rw [← sets_agr _ _ hA]
        refine wpn_qa hO [] [(4, .bool c46)] (ar trivial) fun j => ?_
        refine wpn_r1 ?_
        injection hF with hF
        subst hF
        exact hQ _ _ _ _ _ rfl hO hL ⟨rfl, rfl⟩
end Go.Proofs.Ytjcehfjmmbbblaa
