import Derived.Test.YtckcngkkofemjaaF
import Derived.Test.YtckcngkkofemjaaAc0
import Derived.Test.YtckcngkkofemjaaM00
import Derived.Test.YtckcngkkofemjaaM01
import Derived.Test.YtckcngkkofemjaaG0
namespace Go.Proofs.Ytckcngkkofemjaa
open Go.Ab Go.RowKit
set_option linter.unusedVariables false
set_option linter.unusedSimpArgs false
set_option maxRecDepth 10000
set_option maxHeartbeats 1000000
theorem zeD {τ : Hp} {v0 : Value} {p0 : (List zg)} (r0 : RdT zq τ v0 p0) {rr : (List zo) × Bool} (hF : zce p0 = some rr) :
    Ctr Try.prog 66 #[v0] τ [] (fun v τ' vs' => ∃ (v0 : Value) (o0 : Ob), v = .tuple #[v0, .bool rr.2] ∧ vs' = [o0] ∧ OwnO zdu 134 τ' v0 rr.1 o0) := by
  obtain ⟨A0, c0, rfl, -⟩ := r0.form
  refine ctr_of (args := [.slice A0 p0.length c0]) hm Try.func66 s66 rfl fun w0 σ hO Q hQ => ?_
  unfold zce at hF
  have hL := Hp.le.refl τ
  show wpn _ _ a66.body _ _ _
  unfold a66
  dsimp only
  refine wpn_qa hO [] [(0, .slice A0 p0.length c0)] (ar trivial) fun j => ?_
  refine wpn_qa hO [] [(0, .slice A0 p0.length c0), (4, .slice none 0 0)] (ar (ar trivial)) fun j => ?_
  refine wpn_qa hO [] [(0, .slice A0 p0.length c0), (4, .slice none 0 0), (5, .int .i64 0)] (ar (ar (ar trivial))) fun j => ?_
  refine wpn_assoc ?_
  refine wpn_qa hO [] [(0, .slice A0 p0.length c0), (4, .slice none 0 0), (5, .int .i64 0), (10, .slice A0 p0.length c0), (11, .int .i64 (p0.length : Int)), (12, .int .i64 0)] (ar (ar (ar (ar (ar (ar trivial)))))) fun j => ?_
  refine wpn_bl ?_
  have hO := hO.no
  have hO : Obs _ _ [_] := hO
  refine wpn_lp (fun (n : Nat) e' σ' => ∃ (A39 : Option Addr) (c40 : Nat) (o41 : Ob) (x42 : List zo) (x44 : Int) (x46 : Int) (τ' : Hp), agr [(0, .slice A0 p0.length c0), (4, .slice A39 x42.length c40), (5, .int .i64 x44), (10, .slice A0 p0.length c0), (11, .int .i64 (p0.length : Int)), (12, .int .i64 x46)] e' ∧ Obs τ' σ' [o41] ∧ Hp.le τ τ' ∧ RdT zq τ' (.slice A0 p0.length c0) p0 ∧ OwnO zdu 134 τ' (.slice A39 x42.length c40) x42 o41 ∧ RdT zq τ' (.slice A0 p0.length c0) p0 ∧ zbO p0 n x42 x44 x46 = some rr) big ⟨none, 0, none, [], 0, 0, _, ar (ar (ar (ar (ar (ar trivial))))), hO, hL, r0, OwnO.nil _ _ _, r0, hF⟩ ?_
  clear hF hO hL
  rintro n80 e σ ⟨A39, c40, o41, x42, x44, x46, _, hA, hO, hL, r38, w43, r45, hF⟩
  rw [← sets_agr _ _ hA]
  cases n80 with
  | zero => exact nomatch (show none = some rr from hF)
  | succ n80 =>
    replace hF : zcQ (zbO p0 n80) p0 x42 x44 x46 = some rr := hF
    unfold zcQ at hF
    refine wpn_qa hO [] [(0, .slice A0 p0.length c0), (4, .slice A39 x42.length c40), (5, .int .i64 x44), (10, .slice A0 p0.length c0), (11, .int .i64 (p0.length : Int)), (12, .int .i64 x46), (13, .bool (decide (x46 < (p0.length : Int))))] (ar (ar (ar (ar (ar (ar (ar trivial))))))) fun j => ?_
    rcases ite_some hF with ⟨hb81, hF⟩ | ⟨hb81, hF⟩
    · refine wpn_cT (congrArg Value.bool hb81) ?_
      refine wpn_sk ?_
      refine wpn_bl ?_
      obtain ⟨y82, g83, hF⟩ := bind_some hF
      refine wpn_idx (T := zq) r45 hO.base rfl rfl g83 (by decide) fun a84 _ k85 m86 => ?_
      obtain rfl : _ = ([.int .u8 y82.Kind.toNat, .int .i64 y82.N] : List Value) := k85
      refine wpn_ld rfl ((m86.le hO.base).all rfl) ?_
      refine wpn_al hO fun b87 σ hO => ?_
      have hO : Obs _ _ [_, _] := hO
      refine wpn_st hO (i := 1) rfl (off := 0) rfl rfl rfl rfl (Nat.le_of_ble_eq_true rfl) rfl fun σ hO => ?_
      have hO : Obs _ _ [_, _] := hO
      refine wpn_nil ?_
      refine wpn_q hO 1 [1] [(0, .slice A0 p0.length c0), (4, .slice A39 x42.length c40), (5, .int .i64 x44), (10, .slice A0 p0.length c0), (11, .int .i64 (p0.length : Int)), (12, .int .i64 x46), (17, .agg #[(.int .u8 (y82.Kind.toNat : Int)), (.int .i64 y82.N)])] (And.intro (And.intro rfl rfl) (ar (ar (ar (ar (ar (ar (ar trivial)))))))) fun j => ?_
      obtain ⟨c88, h89, hF⟩ := bind_some hF
      refine wpn_c0 hO (zex (p0 := (⟨y82.Kind, y82.N⟩ : zg)) h89) rfl fun _ σ _ _ hO h90 h91 => ?_
      have hL := hL.trans h90
      have r38 := r38.le h90
      have w43 := w43.le h90
      have r45 := r45.le h90
      obtain ⟨rfl, rfl⟩ := h91
      have hO : Obs _ _ [_, _] := hO
      refine wpn_qa hO [] [(0, .slice A0 p0.length c0), (4, .slice A39 x42.length c40), (5, .int .i64 x44), (8, zv c88.1), (9, .bool c88.2), (10, .slice A0 p0.length c0), (11, .int .i64 (p0.length : Int)), (12, .int .i64 x46)] (ar (ar (ar (ar (ar (ar (ar (ar trivial)))))))) fun j => ?_
      refine wpn_assoc ?_
      refine wpn_q hO 3 [] [(0, .slice A0 p0.length c0), (4, .slice A39 x42.length c40), (5, .int .i64 x44), (8, zv c88.1), (10, .slice A0 p0.length c0), (11, .int .i64 (p0.length : Int)), (12, .int .i64 x46), (23, .bool (!c88.2))] (ar (ar (ar (ar (ar (ar (ar (ar trivial)))))))) fun j => ?_
      have hO := hO.sel [0] (by decide)
      have hO : Obs _ _ [_] := hO
      obtain ⟨c92, h93, hF⟩ := bind_some hF
      refine wpn_mid 2 (fun e' σ' => ∃ (τ' : Hp), agr [(28, .bool c92), (0, .slice A0 p0.length c0), (4, .slice A39 x42.length c40), (5, .int .i64 x44), (8, zv c88.1), (10, .slice A0 p0.length c0), (11, .int .i64 (p0.length : Int)), (12, .int .i64 x46)] e' ∧ Obs τ' σ' [o41] ∧ Hp.le τ τ' ∧ RdT zq τ' (.slice A0 p0.length c0) p0 ∧ OwnO zdu 134 τ' (.slice A39 x42.length c40) x42 o41 ∧ RdT zq τ' (.slice A0 p0.length c0) p0) ?_ ?_
      · have hF := h93
        rcases ite_some hF with ⟨hb94, hF⟩ | ⟨hb94, hF⟩
        · refine wpn_gF (congrArg (fun x => isB (.bool x) false) hb94) ?_
          refine wpn_pk (congrArg Value.bool hb94) ?_
          refine wpn_nil ?_
          injection hF with hF
          subst hF
          refine wpn_end ?_
          exact ⟨rfl, _, ar (ar (ar (ar (ar (ar (ar (ar trivial))))))), hO, hL, r38, w43, r45⟩
        · refine wpn_gT (congrArg (fun x => isB (.bool x) false) hb94) ?_
          refine wpn_q hO 1 [] [(0, .slice A0 p0.length c0), (4, .slice A39 x42.length c40), (5, .int .i64 x44), (8, zv c88.1), (10, .slice A0 p0.length c0), (11, .int .i64 (p0.length : Int)), (12, .int .i64 x46), (23, .bool (!c88.2)), (24, zv c88.1)] (ar (ar (ar (ar (ar (ar (ar (ar (ar trivial))))))))) fun j => ?_
          obtain ⟨c95, h96, hF⟩ := bind_some hF
          refine wpn_iv0 rfl hO (zdV h96) rfl fun _ σ _ _ hO h97 h98 => ?_
          have hL := hL.trans h97
          have r38 := r38.le h97
          have w43 := w43.le h97
          have r45 := r45.le h97
          obtain ⟨rfl, rfl⟩ := h98
          have hO : Obs _ _ [_] := hO
          refine wpn_q hO 2 [] [(0, .slice A0 p0.length c0), (4, .slice A39 x42.length c40), (5, .int .i64 x44), (8, zv c88.1), (10, .slice A0 p0.length c0), (11, .int .i64 (p0.length : Int)), (12, .int .i64 x46), (23, .bool (!c88.2)), (27, .bool (decide (c95 > x44)))] (ar (ar (ar (ar (ar (ar (ar (ar (ar trivial))))))))) fun j => ?_
          refine wpn_pk (congrArg Value.bool hb94) ?_
          refine wpn_nil ?_
          injection hF with hF
          subst hF
          refine wpn_end ?_
          exact ⟨rfl, _, ar (ar (ar (ar (ar (ar (ar (ar trivial))))))), hO, hL, r38, w43, r45⟩
      · rintro e σ ⟨_, hA, hO, hL, r38, w43, r45⟩
        rw [← sets_agr _ _ hA]
        refine wpn_nil ?_
        rcases ite_some hF with ⟨hb99, hF⟩ | ⟨hb99, hF⟩
        · refine wpn_cT (congrArg Value.bool hb99) ?_
          refine wpn_assoc ?_
          refine wpn_qa hO [] [(2, .slice none 0 0), (3, .bool false)] (ar (ar trivial)) fun j => ?_
          refine wpn_rt ?_
          refine inb_r1 ?_
          refine thn_r1 ?_
          refine thn_r1 ?_
          refine inb_r1 ?_
          refine thn_r1 ?_
          have hO := hO.no
          have hO : Obs _ _ [_, _] := hO
          injection hF with hF
          subst hF
          have hO := hO.sel [1] (by decide)
          exact hQ _ _ _ _ _ rfl hO hL ⟨_, _, rfl, rfl, (OwnO.nil _ _ _)⟩
        · refine wpn_cF (congrArg Value.bool hb99) ?_
          refine wpn_sk ?_
          refine wpn_q hO 2 [] [(0, .slice A0 p0.length c0), (4, .slice A39 x42.length c40), (8, zv c88.1), (10, .slice A0 p0.length c0), (11, .int .i64 (p0.length : Int)), (12, .int .i64 x46), (29, .int .i64 x44), (30, zv c88.1)] (ar (ar (ar (ar (ar (ar (ar (ar trivial)))))))) fun j => ?_
          obtain ⟨c100, h101, hF⟩ := bind_some hF
          refine wpn_iv0 rfl hO (zdV h101) rfl fun _ σ _ _ hO h102 h103 => ?_
          have hL := hL.trans h102
          have r38 := r38.le h102
          have w43 := w43.le h102
          have r45 := r45.le h102
          obtain ⟨rfl, rfl⟩ := h103
          have hO : Obs _ _ [_] := hO
          refine wpn_qa hO [] [(0, .slice A0 p0.length c0), (4, .slice A39 x42.length c40), (5, .int .i64 (IntKind.i64.wrap (x44 + (IntKind.i64.wrap (1 - c100))))), (8, zv c88.1), (10, .slice A0 p0.length c0), (11, .int .i64 (p0.length : Int)), (12, .int .i64 x46)] (ar (ar (ar (ar (ar (ar (ar trivial))))))) fun j => ?_
          refine wpn_assoc ?_
          refine wpn_qa hO [] [(0, .slice A0 p0.length c0), (4, .slice A39 x42.length c40), (5, .int .i64 (IntKind.i64.wrap (x44 + (IntKind.i64.wrap (1 - c100))))), (8, zv c88.1), (10, .slice A0 p0.length c0), (11, .int .i64 (p0.length : Int)), (12, .int .i64 x46), (35, .bool (decide ((IntKind.i64.wrap (x44 + (IntKind.i64.wrap (1 - c100)))) > 8)))] (ar (ar (ar (ar (ar (ar (ar (ar trivial)))))))) fun j => ?_
          rcases ite_some hF with ⟨hb104, hF⟩ | ⟨hb104, hF⟩
          · refine wpn_cT (congrArg Value.bool hb104) ?_
            refine wpn_assoc ?_
            refine wpn_qa hO [] [(2, .slice none 0 0), (3, .bool false)] (ar (ar trivial)) fun j => ?_
            refine wpn_rt ?_
            refine inb_r1 ?_
            refine thn_r1 ?_
            refine thn_r1 ?_
            refine inb_r1 ?_
            refine thn_r1 ?_
            have hO := hO.no
            have hO : Obs _ _ [_, _] := hO
            injection hF with hF
            subst hF
            have hO := hO.sel [1] (by decide)
            exact hQ _ _ _ _ _ rfl hO hL ⟨_, _, rfl, rfl, (OwnO.nil _ _ _)⟩
          · refine wpn_cF (congrArg Value.bool hb104) ?_
            refine wpn_sk ?_
            refine wpn_rlast ?_
            refine wpn_q hO 2 [] [(0, .slice A0 p0.length c0), (5, .int .i64 (IntKind.i64.wrap (x44 + (IntKind.i64.wrap (1 - c100))))), (10, .slice A0 p0.length c0), (11, .int .i64 (p0.length : Int)), (12, .int .i64 x46), (36, .slice A39 x42.length c40), (37, zv c88.1)] (ar (ar (ar (ar (ar (ar (ar trivial))))))) fun j => ?_
            obtain ⟨_, hr109, hF⟩ := bind_some hF
            refine wpn_ap1 (T := zdu) (y := c88.1) hO w43 (i := 0) rfl rfl (fun _ => rfl) (show (zv c88.1).cells.toList = _ from zeB _) (show _ = _ from rfl) rfl hr109 (by decide) fun u _ σ o107 w108 hO => ?_
            obtain ⟨A105, c106, rfl, -⟩ := w108.form
            have hO : Obs _ _ [_] := hO
            refine wpn_qa hO [] [(0, .slice A0 p0.length c0), (4, .slice A105 (x42 ++ [c88.1]).length c106), (5, .int .i64 (IntKind.i64.wrap (x44 + (IntKind.i64.wrap (1 - c100))))), (10, .slice A0 p0.length c0), (11, .int .i64 (p0.length : Int)), (12, .int .i64 x46)] (ar (ar (ar (ar (ar (ar trivial)))))) fun j => ?_
            refine wpn_end ?_
            refine inb_i ?_
            refine thn_i ?_
            refine wpn_rlast ?_
            refine wpn_qa hO [] [(0, .slice A0 p0.length c0), (4, .slice A105 (x42 ++ [c88.1]).length c106), (5, .int .i64 (IntKind.i64.wrap (x44 + (IntKind.i64.wrap (1 - c100))))), (10, .slice A0 p0.length c0), (11, .int .i64 (p0.length : Int)), (12, .int .i64 (IntKind.i64.wrap (x46 + 1)))] (ar (ar (ar (ar (ar (ar trivial)))))) fun j => ?_
            refine wpn_end ?_
            refine thn_i ?_
            exact ⟨n80, Nat.lt_succ_self _, A105, c106, o107, (x42 ++ [c88.1]), (IntKind.i64.wrap (x44 + (IntKind.i64.wrap (1 - c100)))), (IntKind.i64.wrap (x46 + 1)), _, ar (ar (ar (ar (ar (ar trivial))))), hO, hL, r38, w108, r45, hF⟩
    · refine wpn_cF (congrArg Value.bool hb81) ?_
      refine wpn_ex ?_
      refine thn_x ?_
      refine inb_x ?_
      refine thn_i ?_
      refine wpn_q hO 5 [] [(0, .slice A0 p0.length c0), (5, .int .i64 x44), (41, .slice A39 x42.length c40), (45, .bool (decide ((p0.length : Int) ≤ 16)))] (ar (ar (ar (ar trivial)))) fun j => ?_
      obtain ⟨c110, h111, hF⟩ := bind_some hF
      refine wpn_midq 4 [(53, .bool c110), (41, .slice A39 x42.length c40)] (fun Q hQ => ?_) fun j => ?_
      · have hF := h111
        rcases ite_some hF with ⟨hb112, hF⟩ | ⟨hb112, hF⟩
        · refine wpn_gT (congrArg (fun x => isB (.bool x) true) hb112) ?_
          refine wpn_q hO 4 [] [(5, .int .i64 x44), (41, .slice A39 x42.length c40), (45, .bool (decide ((p0.length : Int) ≤ 16))), (49, .bool ((p0.length : Int) == 0))] (ar (ar (ar (ar trivial)))) fun j => ?_
          rcases ite_some hF with ⟨hb113, hF⟩ | ⟨hb113, hF⟩
          · refine wpn_gF (congrArg (fun x => isB (.bool x) false) hb113) ?_
            refine wpn_gT (congrArg (fun x => isB (.bool x) true) hb112) ?_
            refine wpn_pk (congrArg Value.bool hb113) ?_
            refine wpn_pk (congrArg Value.bool hb112) ?_
            refine wpn_nil ?_
            injection hF with hF
            subst hF
            refine wpn_end ?_
            exact hQ _ (ar (ar trivial))
          · refine wpn_gT (congrArg (fun x => isB (.bool x) false) hb113) ?_
            refine wpn_q hO 2 [] [(41, .slice A39 x42.length c40), (45, .bool (decide ((p0.length : Int) ≤ 16))), (49, .bool ((p0.length : Int) == 0)), (51, .bool (x44 == 1))] (ar (ar (ar (ar trivial)))) fun j => ?_
            refine wpn_gT (congrArg (fun x => isB (.bool x) true) hb112) ?_
            refine wpn_pk (congrArg Value.bool hb113) ?_
            refine wpn_pk (congrArg Value.bool hb112) ?_
            refine wpn_nil ?_
            injection hF with hF
            subst hF
            refine wpn_end ?_
            exact hQ _ (ar (ar trivial))
        · refine wpn_gF (congrArg (fun x => isB (.bool x) true) hb112) ?_
          refine wpn_gF rfl ?_
          refine wpn_gF (congrArg (fun x => isB (.bool x) true) hb112) ?_
          refine wpn_pk (congrArg Value.bool hb112) ?_
          refine wpn_nil ?_
          injection hF with hF
          subst hF
          refine wpn_end ?_
          exact hQ _ (ar (ar trivial))
      · refine wpn_qa hO [] [(2, .slice A39 x42.length c40), (3, .bool c110)] (ar (ar trivial)) fun j => ?_
        refine wpn_r1 ?_
        injection hF with hF
        subst hF
        exact hQ _ _ _ _ _ rfl hO hL ⟨_, _, rfl, rfl, w43⟩
theorem zdG {τ : Hp} {v0 : Value} {p0 : (List zg)} (r0 : RdT zq τ v0 p0) {rr : Bool} (hF : zW p0 = some rr) :
    Ctr Try.prog 58 #[v0] τ [] (fun v τ' vs' => v = .bool rr ∧ vs' = []) := by
  obtain ⟨A0, c0, rfl, -⟩ := r0.form
  refine ctr_of (args := [.slice A0 p0.length c0]) hm Try.func58 s58 rfl fun w0 σ hO Q hQ => ?_
  unfold zW at hF
  have hL := Hp.le.refl τ
  show wpn _ _ a58.body _ _ _
  unfold a58
  dsimp only
  refine wpn_qa hO [] [(0, .slice A0 p0.length c0)] (ar trivial) fun j => ?_
  refine wpn_q hO 1 [] [(6, .slice A0 p0.length c0)] (ar trivial) fun j => ?_
  obtain ⟨c2, h3, hF⟩ := bind_some hF
  refine wpn_c0 hO (zeD r0 h3) rfl fun _ σ _ _ hO h4 h5 => ?_
  have hL := hL.trans h4
  have r0 := r0.le h4
  obtain ⟨v6, o9, rfl, rfl, w10⟩ := h5
  obtain ⟨A7, c8, rfl, -⟩ := w10.form
  have hO : Obs _ _ [_] := hO
  refine wpn_qa hO [] [(4, .bool c2.2)] (ar trivial) fun j => ?_
  refine wpn_qa hO [] [(2, .bool c2.2)] (ar trivial) fun j => ?_
  refine wpn_r1 ?_
  injection hF with hF
  subst hF
  have hO := hO.sel [] (by decide)
  exact hQ _ _ _ _ _ rfl hO hL ⟨rfl, rfl⟩
theorem zdR {τ : Hp} {v0 : Value} {p0 : (List ze)} (r0 : RdT zk τ v0 p0) {rr : Bool} (hF : z7 p0 = some rr) :
    Ctr Try.prog 50 #[v0] τ [] (fun v τ' vs' => v = .bool rr ∧ vs' = []) := by
  obtain ⟨A0, c0, rfl, -⟩ := r0.form
  refine ctr_of (args := [.slice A0 p0.length c0]) hm Try.func50 s50 rfl fun w0 σ hO Q hQ => ?_
  unfold z7 at hF
  have hL := Hp.le.refl τ
  show wpn _ _ a50.body _ _ _
  unfold a50
  dsimp only
  refine wpn_qa hO [] [(0, .slice A0 p0.length c0)] (ar trivial) fun j => ?_
  refine wpn_qa hO [] [(0, .slice A0 p0.length c0), (3, .int .i64 0)] (ar (ar trivial)) fun j => ?_
  refine wpn_assoc ?_
  refine wpn_qa hO [] [(0, .slice A0 p0.length c0), (3, .int .i64 0), (6, .slice A0 p0.length c0), (7, .int .i64 (p0.length : Int)), (8, .int .i64 0)] (ar (ar (ar (ar (ar trivial))))) fun j => ?_
  refine wpn_bl ?_
  refine wpn_lp (fun (n : Nat) e' σ' => ∃ (x24 : Int) (x26 : Int) (τ' : Hp), agr [(0, .slice A0 p0.length c0), (3, .int .i64 x24), (6, .slice A0 p0.length c0), (7, .int .i64 (p0.length : Int)), (8, .int .i64 x26)] e' ∧ Obs τ' σ' [] ∧ Hp.le τ τ' ∧ RdT zk τ' (.slice A0 p0.length c0) p0 ∧ RdT zk τ' (.slice A0 p0.length c0) p0 ∧ zcR p0 n x24 x26 = some rr) big ⟨0, 0, _, ar (ar (ar (ar (ar trivial)))), hO, hL, r0, r0, hF⟩ ?_
  clear hF hO hL
  rintro n46 e σ ⟨x24, x26, _, hA, hO, hL, r23, r25, hF⟩
  rw [← sets_agr _ _ hA]
  cases n46 with
  | zero => exact nomatch (show none = some rr from hF)
  | succ n46 =>
    replace hF : zct (zcR p0 n46) p0 x24 x26 = some rr := hF
    unfold zct at hF
    refine wpn_qa hO [] [(0, .slice A0 p0.length c0), (3, .int .i64 x24), (6, .slice A0 p0.length c0), (7, .int .i64 (p0.length : Int)), (8, .int .i64 x26), (9, .bool (decide (x26 < (p0.length : Int))))] (ar (ar (ar (ar (ar (ar trivial)))))) fun j => ?_
    rcases ite_some hF with ⟨hb47, hF⟩ | ⟨hb47, hF⟩
    · refine wpn_cT (congrArg Value.bool hb47) ?_
      refine wpn_sk ?_
      refine wpn_bl ?_
      obtain ⟨y48, g49, hF⟩ := bind_some hF
      refine wpn_idx (T := zk) r25 hO.base rfl rfl g49 (by decide) fun a50 _ k51 m52 => ?_
      obtain ⟨v53, rfl, r54⟩ := k51
      obtain ⟨A55, c56, rfl, -⟩ := r54.form
      refine wpn_ld rfl ((m52.le hO.base).all rfl) ?_
      refine wpn_al hO fun b57 σ hO => ?_
      have hO : Obs _ _ [_] := hO
      refine wpn_st hO (i := 0) rfl (off := 0) rfl rfl rfl rfl (Nat.le_of_ble_eq_true rfl) rfl fun σ hO => ?_
      have hO : Obs _ _ [_] := hO
      refine wpn_nil ?_
      refine wpn_assoc ?_
      refine wpn_q hO 14 [0, 0, 0, 0, 0] [(0, .slice A0 p0.length c0), (5, .pointer (some ⟨b57, 0, none⟩)), (6, .slice A0 p0.length c0), (7, .int .i64 (p0.length : Int)), (8, .int .i64 x26), (34, .bool ((((decide (y48.From < x24)) || (decide (y48.To ≤ y48.From))) || (decide (y48.To > 16777216))) || ((y48.At.length : Int) == 0)))] (And.intro (And.intro rfl rfl) (And.intro (And.intro rfl rfl) (And.intro (And.intro rfl rfl) (And.intro (And.intro rfl rfl) (fun _ => And.intro (And.intro rfl rfl) (And.intro (And.intro rfl rfl) (fun _ => And.intro (And.intro rfl rfl) (And.intro (And.intro rfl rfl) (fun _ => ar (ar (ar (ar (ar (ar trivial)))))))))))))) fun j => ?_
      obtain ⟨c58, h59, hF⟩ := bind_some hF
      refine wpn_mid 2 (fun e' σ' => ∃ (τ' : Hp), agr [(39, .bool c58), (0, .slice A0 p0.length c0), (5, .pointer (some ⟨b57, 0, none⟩)), (6, .slice A0 p0.length c0), (7, .int .i64 (p0.length : Int)), (8, .int .i64 x26)] e' ∧ Obs τ' σ' [some (b57, ⟨[.int .i64 y48.From, .int .i64 y48.To, .slice A55 y48.At.length c56], 55, 3, true⟩)] ∧ Hp.le τ τ' ∧ RdT zk τ' (.slice A0 p0.length c0) p0 ∧ RdT zk τ' (.slice A0 p0.length c0) p0 ∧ RdT zq τ' (.slice A55 y48.At.length c56) y48.At) ?_ ?_
      · have hF := h59
        rcases ite_some hF with ⟨hb60, hF⟩ | ⟨hb60, hF⟩
        · refine wpn_gF (congrArg (fun x => isB (.bool x) false) hb60) ?_
          refine wpn_pk (congrArg Value.bool hb60) ?_
          refine wpn_nil ?_
          injection hF with hF
          subst hF
          refine wpn_end ?_
          exact ⟨rfl, _, ar (ar (ar (ar (ar (ar trivial))))), hO, hL, r23, r25, r54⟩
        · refine wpn_gT (congrArg (fun x => isB (.bool x) false) hb60) ?_
          refine wpn_q hO 2 [0] [(0, .slice A0 p0.length c0), (5, .pointer (some ⟨b57, 0, none⟩)), (6, .slice A0 p0.length c0), (7, .int .i64 (p0.length : Int)), (8, .int .i64 x26), (34, .bool ((((decide (y48.From < x24)) || (decide (y48.To ≤ y48.From))) || (decide (y48.To > 16777216))) || ((y48.At.length : Int) == 0))), (36, .slice A55 y48.At.length c56)] (And.intro (And.intro rfl rfl) (ar (ar (ar (ar (ar (ar (ar trivial)))))))) fun j => ?_
          obtain ⟨c61, h62, hF⟩ := bind_some hF
          refine wpn_c0 hO (zdG r54 h62) rfl fun _ σ _ _ hO h63 h64 => ?_
          have hL := hL.trans h63
          have r23 := r23.le h63
          have r25 := r25.le h63
          have r54 := r54.le h63
          obtain ⟨rfl, rfl⟩ := h64
          have hO : Obs _ _ [_] := hO
          refine wpn_q hO 1 [] [(0, .slice A0 p0.length c0), (5, .pointer (some ⟨b57, 0, none⟩)), (6, .slice A0 p0.length c0), (7, .int .i64 (p0.length : Int)), (8, .int .i64 x26), (34, .bool ((((decide (y48.From < x24)) || (decide (y48.To ≤ y48.From))) || (decide (y48.To > 16777216))) || ((y48.At.length : Int) == 0))), (38, .bool (!c61))] (ar (ar (ar (ar (ar (ar (ar trivial))))))) fun j => ?_
          refine wpn_pk (congrArg Value.bool hb60) ?_
          refine wpn_nil ?_
          injection hF with hF
          subst hF
          refine wpn_end ?_
          exact ⟨rfl, _, ar (ar (ar (ar (ar (ar trivial))))), hO, hL, r23, r25, r54⟩
      · rintro e σ ⟨_, hA, hO, hL, r23, r25, r54⟩
        rw [← sets_agr _ _ hA]
        refine wpn_nil ?_
        rcases ite_some hF with ⟨hb65, hF⟩ | ⟨hb65, hF⟩
        · refine wpn_cT (congrArg Value.bool hb65) ?_
          refine wpn_assoc ?_
          refine wpn_qa hO [] [(2, .bool false)] (ar trivial) fun j => ?_
          refine wpn_rt ?_
          refine inb_r1 ?_
          refine thn_r1 ?_
          refine thn_r1 ?_
          refine inb_r1 ?_
          refine thn_r1 ?_
          injection hF with hF
          subst hF
          have hO := hO.sel [] (by decide)
          exact hQ _ _ _ _ _ rfl hO hL ⟨rfl, rfl⟩
        · refine wpn_cF (congrArg Value.bool hb65) ?_
          refine wpn_sk ?_
          refine wpn_rlast ?_
          refine wpn_qa hO [0] [(0, .slice A0 p0.length c0), (3, .int .i64 y48.To), (6, .slice A0 p0.length c0), (7, .int .i64 (p0.length : Int)), (8, .int .i64 x26)] (And.intro (And.intro rfl rfl) (ar (ar (ar (ar (ar trivial)))))) fun j => ?_
          refine wpn_end ?_
          refine inb_i ?_
          refine thn_i ?_
          refine wpn_rlast ?_
          refine wpn_qa hO [] [(0, .slice A0 p0.length c0), (3, .int .i64 y48.To), (6, .slice A0 p0.length c0), (7, .int .i64 (p0.length : Int)), (8, .int .i64 (IntKind.i64.wrap (x26 + 1)))] (ar (ar (ar (ar (ar trivial))))) fun j => ?_
          refine wpn_end ?_
          refine thn_i ?_
          have hO := hO.sel [] (by decide)
          exact ⟨n46, Nat.lt_succ_self _, y48.To, (IntKind.i64.wrap (x26 + 1)), _, ar (ar (ar (ar (ar trivial)))), hO, hL, r23, r25, hF⟩
    · refine wpn_cF (congrArg Value.bool hb47) ?_
      refine wpn_ex ?_
      refine thn_x ?_
      refine inb_x ?_
      refine thn_i ?_
      refine wpn_qa hO [] [(2, .bool (decide ((p0.length : Int) ≤ 4000)))] (ar trivial) fun j => ?_
      refine wpn_r1 ?_
      injection hF with hF
      subst hF
      exact hQ _ _ _ _ _ rfl hO hL ⟨rfl, rfl⟩
theorem zer {τ : Hp} {p0 : zc} {v0_3 : Value} {v0_4 : Value} {p1 : Int} (r0_3 : RdT zn τ v0_3 p0.Vars) (r0_4 : RdT (Ty.slice zk) τ v0_4 p0.Spans) {rr : Bool} (hF : zba p0 p1 = some rr) :
    Ctr Try.prog 29 #[.agg #[.string p0.Name, .int .i64 p0.From, .int .i64 p0.To, v0_3, v0_4], .int .i64 p1] τ [] (fun v τ' vs' => v = .bool rr ∧ vs' = []) := by
  obtain ⟨A0_3, c0_3, rfl, -⟩ := r0_3.form
  obtain ⟨A0_4, c0_4, rfl, -⟩ := r0_4.form
  refine ctr_of (args := [.agg #[.string p0.Name, .int .i64 p0.From, .int .i64 p0.To, (.slice A0_3 p0.Vars.length c0_3), (.slice A0_4 p0.Spans.length c0_4)], .int .i64 p1]) hm Try.func29 s29 rfl fun w0 σ hO Q hQ => ?_
  unfold zba at hF
  have hL := Hp.le.refl τ
  show wpn _ _ a29.body _ _ _
  unfold a29
  dsimp only
  refine wpn_bx (n := 5) hO rfl rfl fun b3 σ hO => ?_
  have hO : Obs _ _ [_] := hO
  refine wpn_qa hO [] [(1, .int .i64 p1), (2, .pointer (some ⟨b3, 0, none⟩))] (ar (ar trivial)) fun j => ?_
  refine wpn_assoc ?_
  refine wpn_q hO 2 [0] [(1, .int .i64 p1), (2, .pointer (some ⟨b3, 0, none⟩)), (10, .string p0.Name)] (And.intro (And.intro rfl rfl) (ar (ar (ar trivial)))) fun j => ?_
  obtain ⟨c4, h5, hF⟩ := bind_some hF
  refine wpn_c0 hO (zdm h5) rfl fun _ σ _ _ hO h6 h7 => ?_
  have hL := hL.trans h6
  have r0_3 := r0_3.le h6
  have r0_4 := r0_4.le h6
  obtain ⟨rfl, rfl⟩ := h7
  have hO : Obs _ _ [_] := hO
  refine wpn_qa hO [0, 0, 0, 0, 0, 0, 0] [(2, .pointer (some ⟨b3, 0, none⟩)), (45, .bool ((((((!c4) || (decide (p0.From < p1))) || (decide (p0.To ≤ p0.From))) || (decide (p0.To > 16777216))) || (decide ((p0.Vars.length : Int) > 64))) || ((p0.Spans.length : Int) != (p0.Vars.length : Int))))] (And.intro (And.intro rfl rfl) (And.intro (And.intro rfl rfl) (fun _ => And.intro (And.intro rfl rfl) (And.intro (And.intro rfl rfl) (And.intro (And.intro rfl rfl) (fun _ => And.intro (And.intro rfl rfl) (And.intro (And.intro rfl rfl) (fun _ => And.intro (And.intro rfl rfl) (And.intro (And.intro rfl rfl) (fun _ => And.intro (And.intro rfl rfl) (And.intro (And.intro rfl rfl) (And.intro (And.intro rfl rfl) (fun _ => ar (ar trivial)))))))))))))) fun j => ?_
  rcases ite_some hF with ⟨hb8, hF⟩ | ⟨hb8, hF⟩
  · refine wpn_cT (congrArg Value.bool hb8) ?_
    refine wpn_assoc ?_
    refine wpn_qa hO [] [(4, .bool false)] (ar trivial) fun j => ?_
    refine wpn_rt ?_
    injection hF with hF
    subst hF
    have hO := hO.sel [] (by decide)
    exact hQ _ _ _ _ _ rfl hO hL ⟨rfl, rfl⟩
  · refine wpn_cF (congrArg Value.bool hb8) ?_
    refine wpn_sk ?_
    refine wpn_assoc ?_
    refine wpn_qa hO [0] [(2, .pointer (some ⟨b3, 0, none⟩)), (47, .slice A0_3 p0.Vars.length c0_3), (48, .int .i64 (p0.Vars.length : Int)), (49, .int .i64 0)] (And.intro (And.intro rfl rfl) (ar (ar (ar (ar trivial))))) fun j => ?_
    refine wpn_bl ?_
    refine wpn_lp (fun (n : Nat) e' σ' => ∃ (x70 : Int) (τ' : Hp), agr [(2, .pointer (some ⟨b3, 0, none⟩)), (47, .slice A0_3 p0.Vars.length c0_3), (48, .int .i64 (p0.Vars.length : Int)), (49, .int .i64 x70)] e' ∧ Obs τ' σ' [some (b3, ⟨[.string p0.Name, .int .i64 p0.From, .int .i64 p0.To, .slice A0_3 p0.Vars.length c0_3, .slice A0_4 p0.Spans.length c0_4], 50, 5, true⟩)] ∧ Hp.le τ τ' ∧ RdT zn τ' (.slice A0_3 p0.Vars.length c0_3) p0.Vars ∧ RdT (Ty.slice zk) τ' (.slice A0_4 p0.Spans.length c0_4) p0.Spans ∧ RdT zn τ' (.slice A0_3 p0.Vars.length c0_3) p0.Vars ∧ zbW p0 n x70 = some rr) big ⟨0, _, ar (ar (ar (ar trivial))), hO, hL, r0_3, r0_4, r0_3, hF⟩ ?_
    clear hF hO hL
    rintro n126 e σ ⟨x70, _, hA, hO, hL, r67, r68, r69, hF⟩
    rw [← sets_agr _ _ hA]
    cases n126 with
    | zero => exact nomatch (show none = some rr from hF)
    | succ n126 =>
      replace hF : zcP (zbW p0 n126) p0 x70 = some rr := hF
      unfold zcP at hF
      refine wpn_qa hO [] [(2, .pointer (some ⟨b3, 0, none⟩)), (47, .slice A0_3 p0.Vars.length c0_3), (48, .int .i64 (p0.Vars.length : Int)), (49, .int .i64 x70), (50, .bool (decide (x70 < (p0.Vars.length : Int))))] (ar (ar (ar (ar (ar trivial))))) fun j => ?_
      rcases ite_some hF with ⟨hb127, hF⟩ | ⟨hb127, hF⟩
      · refine wpn_cT (congrArg Value.bool hb127) ?_
        refine wpn_sk ?_
        refine wpn_bl ?_
        refine wpn_q hO 1 [] [(2, .pointer (some ⟨b3, 0, none⟩)), (47, .slice A0_3 p0.Vars.length c0_3), (48, .int .i64 (p0.Vars.length : Int)), (49, .int .i64 x70), (51, .int .i64 x70)] (ar (ar (ar (ar (ar trivial))))) fun j => ?_
        obtain ⟨y128, g129, hF⟩ := bind_some hF
        refine wpn_idx (T := zn) r69 hO.base rfl rfl g129 (by decide) fun a130 _ k131 m132 => ?_
        obtain ⟨v133, rfl, r134⟩ := k131
        obtain ⟨A135, c136, rfl, -⟩ := r134.form
        refine wpn_ld rfl ((m132.le hO.base).all rfl) ?_
        refine wpn_al hO fun b137 σ hO => ?_
        have hO : Obs _ _ [_, _] := hO
        refine wpn_q hO 1 [] [(2, .pointer (some ⟨b3, 0, none⟩)), (5, .int .i64 x70), (6, .pointer (some ⟨b137, 0, none⟩)), (47, .slice A0_3 p0.Vars.length c0_3), (48, .int .i64 (p0.Vars.length : Int)), (49, .int .i64 x70), (53, .agg #[(.string y128.Name), (.int .u8 (y128.Type_.Kind.toNat : Int)), (.int .i64 y128.Type_.N), (.string y128.Type_.Name), (.int .i64 y128.Words), (.slice A135 y128.Fields.length c136)])] (ar (ar (ar (ar (ar (ar (ar trivial))))))) fun j => ?_
        refine wpn_st hO (i := 1) rfl (off := 0) rfl rfl rfl rfl (Nat.le_of_ble_eq_true rfl) rfl fun σ hO => ?_
        have hO : Obs _ _ [_, _] := hO
        refine wpn_nil ?_
        refine wpn_q hO 3 [0] [(2, .pointer (some ⟨b3, 0, none⟩)), (6, .pointer (some ⟨b137, 0, none⟩)), (47, .slice A0_3 p0.Vars.length c0_3), (48, .int .i64 (p0.Vars.length : Int)), (49, .int .i64 x70), (55, .slice A0_4 p0.Spans.length c0_4), (56, .int .i64 x70)] (And.intro (And.intro rfl rfl) (ar (ar (ar (ar (ar (ar (ar trivial)))))))) fun j => ?_
        obtain ⟨y138, g139, hF⟩ := bind_some hF
        refine wpn_idx (T := (Ty.slice zk)) r68 hO.base rfl rfl g139 (by decide) fun a140 _ k141 m142 => ?_
        obtain ⟨v143, rfl, r144⟩ := k141
        obtain ⟨A145, c146, rfl, -⟩ := r144.form
        refine wpn_ld rfl (m142.le hO.base).fst ?_
        refine wpn_qa hO [] [(2, .pointer (some ⟨b3, 0, none⟩)), (6, .pointer (some ⟨b137, 0, none⟩)), (7, .slice A145 y138.length c146), (47, .slice A0_3 p0.Vars.length c0_3), (48, .int .i64 (p0.Vars.length : Int)), (49, .int .i64 x70)] (ar (ar (ar (ar (ar (ar trivial)))))) fun j => ?_
        refine wpn_assoc ?_
        refine wpn_q hO 1 [1] [(2, .pointer (some ⟨b3, 0, none⟩)), (7, .slice A145 y138.length c146), (47, .slice A0_3 p0.Vars.length c0_3), (48, .int .i64 (p0.Vars.length : Int)), (49, .int .i64 x70), (59, .agg #[(.string y128.Name), (.int .u8 (y128.Type_.Kind.toNat : Int)), (.int .i64 y128.Type_.N), (.string y128.Type_.Name), (.int .i64 y128.Words), (.slice A135 y128.Fields.length c136)])] (And.intro (And.intro rfl rfl) (ar (ar (ar (ar (ar (ar trivial))))))) fun j => ?_
        obtain ⟨c147, h148, hF⟩ := bind_some hF
        refine wpn_c0 hO (zeW (p0 := (⟨y128.Name, (⟨y128.Type_.Kind, y128.Type_.N, y128.Type_.Name⟩ : zp), y128.Words, y128.Fields⟩ : zh)) r134 h148) rfl fun _ σ _ _ hO h149 h150 => ?_
        have hL := hL.trans h149
        have r144 := r144.le h149
        have r69 := r69.le h149
        have r134 := r134.le h149
        have r67 := r67.le h149
        have r68 := r68.le h149
        obtain ⟨rfl, rfl⟩ := h150
        have hO : Obs _ _ [_, _] := hO
        refine wpn_q hO 2 [] [(2, .pointer (some ⟨b3, 0, none⟩)), (7, .slice A145 y138.length c146), (47, .slice A0_3 p0.Vars.length c0_3), (48, .int .i64 (p0.Vars.length : Int)), (49, .int .i64 x70), (62, .bool (!c147))] (ar (ar (ar (ar (ar (ar trivial)))))) fun j => ?_
        have hO := hO.sel [0] (by decide)
        have hO : Obs _ _ [_] := hO
        obtain ⟨c151, h152, hF⟩ := bind_some hF
        refine wpn_mid 2 (fun e' σ' => ∃ (τ' : Hp), agr [(66, .bool c151), (2, .pointer (some ⟨b3, 0, none⟩)), (7, .slice A145 y138.length c146), (47, .slice A0_3 p0.Vars.length c0_3), (48, .int .i64 (p0.Vars.length : Int)), (49, .int .i64 x70)] e' ∧ Obs τ' σ' [some (b3, ⟨[.string p0.Name, .int .i64 p0.From, .int .i64 p0.To, .slice A0_3 p0.Vars.length c0_3, .slice A0_4 p0.Spans.length c0_4], 50, 5, true⟩)] ∧ Hp.le τ τ' ∧ RdT zk τ' (.slice A145 y138.length c146) y138 ∧ RdT zn τ' (.slice A0_3 p0.Vars.length c0_3) p0.Vars ∧ RdT zn τ' (.slice A0_3 p0.Vars.length c0_3) p0.Vars ∧ RdT (Ty.slice zk) τ' (.slice A0_4 p0.Spans.length c0_4) p0.Spans) ?_ ?_
        · have hF := h152
          rcases ite_some hF with ⟨hb153, hF⟩ | ⟨hb153, hF⟩
          · refine wpn_gF (congrArg (fun x => isB (.bool x) false) hb153) ?_
            refine wpn_pk (congrArg Value.bool hb153) ?_
            refine wpn_nil ?_
            injection hF with hF
            subst hF
            refine wpn_end ?_
            exact ⟨rfl, _, ar (ar (ar (ar (ar (ar trivial))))), hO, hL, r144, r69, r67, r68⟩
          · refine wpn_gT (congrArg (fun x => isB (.bool x) false) hb153) ?_
            refine wpn_q hO 1 [] [(2, .pointer (some ⟨b3, 0, none⟩)), (7, .slice A145 y138.length c146), (47, .slice A0_3 p0.Vars.length c0_3), (48, .int .i64 (p0.Vars.length : Int)), (49, .int .i64 x70), (62, .bool (!c147)), (63, .slice A145 y138.length c146)] (ar (ar (ar (ar (ar (ar (ar trivial))))))) fun j => ?_
            obtain ⟨c154, h155, hF⟩ := bind_some hF
            refine wpn_c0 hO (zdR r144 h155) rfl fun _ σ _ _ hO h156 h157 => ?_
            have hL := hL.trans h156
            have r144 := r144.le h156
            have r69 := r69.le h156
            have r67 := r67.le h156
            have r68 := r68.le h156
            obtain ⟨rfl, rfl⟩ := h157
            have hO : Obs _ _ [_] := hO
            refine wpn_q hO 1 [] [(2, .pointer (some ⟨b3, 0, none⟩)), (7, .slice A145 y138.length c146), (47, .slice A0_3 p0.Vars.length c0_3), (48, .int .i64 (p0.Vars.length : Int)), (49, .int .i64 x70), (62, .bool (!c147)), (65, .bool (!c154))] (ar (ar (ar (ar (ar (ar (ar trivial))))))) fun j => ?_
            refine wpn_pk (congrArg Value.bool hb153) ?_
            refine wpn_nil ?_
            injection hF with hF
            subst hF
            refine wpn_end ?_
            exact ⟨rfl, _, ar (ar (ar (ar (ar (ar trivial))))), hO, hL, r144, r69, r67, r68⟩
        · rintro e σ ⟨_, hA, hO, hL, r144, r69, r67, r68⟩
          rw [← sets_agr _ _ hA]
          refine wpn_nil ?_
          rcases ite_some hF with ⟨hb158, hF⟩ | ⟨hb158, hF⟩
          · refine wpn_cT (congrArg Value.bool hb158) ?_
            refine wpn_assoc ?_
            refine wpn_qa hO [] [(4, .bool false)] (ar trivial) fun j => ?_
            refine wpn_rt ?_
            refine inb_r1 ?_
            refine thn_r1 ?_
            refine thn_r1 ?_
            refine inb_r1 ?_
            refine thn_r1 ?_
            injection hF with hF
            subst hF
            have hO := hO.sel [] (by decide)
            exact hQ _ _ _ _ _ rfl hO hL ⟨rfl, rfl⟩
          · refine wpn_cF (congrArg Value.bool hb158) ?_
            refine wpn_sk ?_
            refine wpn_qa hO [] [(2, .pointer (some ⟨b3, 0, none⟩)), (7, .slice A145 y138.length c146), (8, .int .i64 (y138.length : Int)), (47, .slice A0_3 p0.Vars.length c0_3), (48, .int .i64 (p0.Vars.length : Int)), (49, .int .i64 x70)] (ar (ar (ar (ar (ar (ar trivial)))))) fun j => ?_
            refine wpn_p2r ?_
            refine wpn_q hO 3 [] [(2, .pointer (some ⟨b3, 0, none⟩)), (7, .slice A145 y138.length c146), (8, .int .i64 (y138.length : Int)), (47, .slice A0_3 p0.Vars.length c0_3), (48, .int .i64 (p0.Vars.length : Int)), (49, .int .i64 x70), (71, .bool (decide ((y138.length : Int) > 0)))] (ar (ar (ar (ar (ar (ar (ar trivial))))))) fun j => ?_
            obtain ⟨c159, h160, hF⟩ := bind_some hF
            refine wpn_midq 4 [(90, .bool c159), (2, .pointer (some ⟨b3, 0, none⟩)), (47, .slice A0_3 p0.Vars.length c0_3), (48, .int .i64 (p0.Vars.length : Int)), (49, .int .i64 x70)] (fun Q hQ => ?_) fun j => ?_
            · have hF := h160
              rcases ite_some hF with ⟨hb161, hF⟩ | ⟨hb161, hF⟩
              · refine wpn_gT (congrArg (fun x => isB (.bool x) true) hb161) ?_
                refine wpn_q hO 1 [] [(2, .pointer (some ⟨b3, 0, none⟩)), (7, .slice A145 y138.length c146), (8, .int .i64 (y138.length : Int)), (47, .slice A0_3 p0.Vars.length c0_3), (48, .int .i64 (p0.Vars.length : Int)), (49, .int .i64 x70), (71, .bool (decide ((y138.length : Int) > 0))), (72, .slice A145 y138.length c146)] (ar (ar (ar (ar (ar (ar (ar (ar trivial)))))))) fun j => ?_
                obtain ⟨y162, g163, hF⟩ := bind_some hF
                refine wpn_idx (T := zk) r144 hO.base rfl rfl g163 (by decide) fun a164 _ k165 m166 => ?_
                obtain ⟨v167, rfl, r168⟩ := k165
                obtain ⟨A169, c170, rfl, -⟩ := r168.form
                refine wpn_q hO 1 [] [(2, .pointer (some ⟨b3, 0, none⟩)), (7, .slice A145 y138.length c146), (8, .int .i64 (y138.length : Int)), (47, .slice A0_3 p0.Vars.length c0_3), (48, .int .i64 (p0.Vars.length : Int)), (49, .int .i64 x70), (71, .bool (decide ((y138.length : Int) > 0))), (74, .pointer (some a164))] (ar (ar (ar (ar (ar (ar (ar (ar trivial)))))))) fun j => ?_
                refine wpn_ld rfl (m166.le hO.base).fst ?_
                refine wpn_q hO 4 [0] [(2, .pointer (some ⟨b3, 0, none⟩)), (7, .slice A145 y138.length c146), (8, .int .i64 (y138.length : Int)), (47, .slice A0_3 p0.Vars.length c0_3), (48, .int .i64 (p0.Vars.length : Int)), (49, .int .i64 x70), (71, .bool (decide ((y138.length : Int) > 0))), (79, .bool (decide (y162.From < p0.From)))] (And.intro (And.intro rfl rfl) (ar (ar (ar (ar (ar (ar (ar (ar trivial))))))))) fun j => ?_
                rcases ite_some hF with ⟨hb171, hF⟩ | ⟨hb171, hF⟩
                · refine wpn_gF (congrArg (fun x => isB (.bool x) false) hb171) ?_
                  refine wpn_gT (congrArg (fun x => isB (.bool x) true) hb161) ?_
                  refine wpn_pk (congrArg Value.bool hb171) ?_
                  refine wpn_pk (congrArg Value.bool hb161) ?_
                  refine wpn_nil ?_
                  injection hF with hF
                  subst hF
                  refine wpn_end ?_
                  exact hQ _ (ar (ar (ar (ar (ar trivial)))))
                · refine wpn_gT (congrArg (fun x => isB (.bool x) false) hb171) ?_
                  refine wpn_q hO 3 [] [(2, .pointer (some ⟨b3, 0, none⟩)), (47, .slice A0_3 p0.Vars.length c0_3), (48, .int .i64 (p0.Vars.length : Int)), (49, .int .i64 x70), (71, .bool (decide ((y138.length : Int) > 0))), (79, .bool (decide (y162.From < p0.From))), (80, .slice A145 y138.length c146), (82, .int .i64 (IntKind.i64.wrap ((y138.length : Int) - 1)))] (ar (ar (ar (ar (ar (ar (ar (ar trivial)))))))) fun j => ?_
                  obtain ⟨y172, g173, hF⟩ := bind_some hF
                  refine wpn_idx (T := zk) r144 hO.base rfl rfl g173 (by decide) fun a174 _ k175 m176 => ?_
                  obtain ⟨v177, rfl, r178⟩ := k175
                  obtain ⟨A179, c180, rfl, -⟩ := r178.form
                  refine wpn_q hO 1 [] [(2, .pointer (some ⟨b3, 0, none⟩)), (47, .slice A0_3 p0.Vars.length c0_3), (48, .int .i64 (p0.Vars.length : Int)), (49, .int .i64 x70), (71, .bool (decide ((y138.length : Int) > 0))), (79, .bool (decide (y162.From < p0.From))), (84, .pointer (some (a174.add 1)))] (ar (ar (ar (ar (ar (ar (ar trivial))))))) fun j => ?_
                  refine wpn_ld rfl ((m176.le hO.base).one 1 rfl) ?_
                  refine wpn_q hO 3 [0] [(2, .pointer (some ⟨b3, 0, none⟩)), (47, .slice A0_3 p0.Vars.length c0_3), (48, .int .i64 (p0.Vars.length : Int)), (49, .int .i64 x70), (71, .bool (decide ((y138.length : Int) > 0))), (79, .bool (decide (y162.From < p0.From))), (88, .bool (decide (y172.To > p0.To)))] (And.intro (And.intro rfl rfl) (ar (ar (ar (ar (ar (ar (ar trivial)))))))) fun j => ?_
                  refine wpn_gT (congrArg (fun x => isB (.bool x) true) hb161) ?_
                  refine wpn_pk (congrArg Value.bool hb171) ?_
                  refine wpn_pk (congrArg Value.bool hb161) ?_
                  refine wpn_nil ?_
                  injection hF with hF
                  subst hF
                  refine wpn_end ?_
                  exact hQ _ (ar (ar (ar (ar (ar trivial)))))
              · refine wpn_gF (congrArg (fun x => isB (.bool x) true) hb161) ?_
                refine wpn_gF rfl ?_
                refine wpn_gF (congrArg (fun x => isB (.bool x) true) hb161) ?_
                refine wpn_pk (congrArg Value.bool hb161) ?_
                refine wpn_nil ?_
                injection hF with hF
                subst hF
                refine wpn_end ?_
                exact hQ _ (ar (ar (ar (ar (ar trivial)))))
            · refine wpn_nil ?_
              refine wpn_clast ?_
              rcases ite_some hF with ⟨hb181, hF⟩ | ⟨hb181, hF⟩
              · refine wpn_cT (congrArg Value.bool hb181) ?_
                refine wpn_assoc ?_
                refine wpn_qa hO [] [(4, .bool false)] (ar trivial) fun j => ?_
                refine wpn_rt ?_
                refine inb_r1 ?_
                refine thn_r1 ?_
                refine thn_r1 ?_
                refine inb_r1 ?_
                refine thn_r1 ?_
                injection hF with hF
                subst hF
                have hO := hO.sel [] (by decide)
                exact hQ _ _ _ _ _ rfl hO hL ⟨rfl, rfl⟩
              · refine wpn_cF (congrArg Value.bool hb181) ?_
                refine wpn_sk ?_
                refine wpn_end ?_
                refine inb_i ?_
                refine thn_i ?_
                refine wpn_rlast ?_
                refine wpn_qa hO [] [(2, .pointer (some ⟨b3, 0, none⟩)), (47, .slice A0_3 p0.Vars.length c0_3), (48, .int .i64 (p0.Vars.length : Int)), (49, .int .i64 (IntKind.i64.wrap (x70 + 1)))] (ar (ar (ar (ar trivial)))) fun j => ?_
                refine wpn_end ?_
                refine thn_i ?_
                exact ⟨n126, Nat.lt_succ_self _, (IntKind.i64.wrap (x70 + 1)), _, ar (ar (ar (ar trivial))), hO, hL, r67, r68, r69, hF⟩
      · refine wpn_cF (congrArg Value.bool hb127) ?_
        refine wpn_ex ?_
        refine thn_x ?_
        refine inb_x ?_
        refine thn_i ?_
        refine wpn_qa hO [] [(4, .bool true)] (ar trivial) fun j => ?_
        refine wpn_r1 ?_
        injection hF with hF
        subst hF
        have hO := hO.sel [] (by decide)
        exact hQ _ _ _ _ _ rfl hO hL ⟨rfl, rfl⟩
theorem zek {τ : Hp} {p0 : zi} {v0_2 : Value} {v1 : Value} {p1 : (List zc)} (r0_2 : RdT (Ty.int .i64) τ v0_2 p0.Scope) (r1 : RdT zj τ v1 p1) {rr : Bool} (hF : z8 p0 p1 = some rr) :
    Ctr Try.prog 30 #[.agg #[.int .i64 p0.Func, .int .i64 p0.Line, v0_2], v1] τ [] (fun v τ' vs' => v = .bool rr ∧ vs' = []) := by
  obtain ⟨A0_2, c0_2, rfl, -⟩ := r0_2.form
  obtain ⟨A1, c1, rfl, -⟩ := r1.form
  refine ctr_of (args := [.agg #[.int .i64 p0.Func, .int .i64 p0.Line, (.slice A0_2 p0.Scope.length c0_2)], .slice A1 p1.length c1]) hm Try.func30 s30 rfl fun w0 σ hO Q hQ => ?_
  unfold z8 at hF
  have hL := Hp.le.refl τ
  show wpn _ _ a30.body _ _ _
  unfold a30
  dsimp only
  refine wpn_bx (n := 3) hO rfl rfl fun b3 σ hO => ?_
  have hO : Obs _ _ [_] := hO
  refine wpn_qa hO [] [(1, .slice A1 p1.length c1), (2, .pointer (some ⟨b3, 0, none⟩))] (ar (ar trivial)) fun j => ?_
  refine wpn_assoc ?_
  refine wpn_qa hO [0, 0, 0, 0] [(1, .slice A1 p1.length c1), (2, .pointer (some ⟨b3, 0, none⟩)), (27, .bool ((((decide (p0.Func < 0)) || (decide (p0.Func ≥ (p1.length : Int)))) || (decide (p0.Line < 1))) || (decide (p0.Line > 1048576))))] (And.intro (And.intro rfl rfl) (And.intro (And.intro rfl rfl) (And.intro (And.intro rfl rfl) (fun _ => And.intro (And.intro rfl rfl) (And.intro (And.intro rfl rfl) (fun _ => And.intro (And.intro rfl rfl) (And.intro (And.intro rfl rfl) (fun _ => ar (ar (ar trivial)))))))))) fun j => ?_
  rcases ite_some hF with ⟨hb4, hF⟩ | ⟨hb4, hF⟩
  · refine wpn_cT (congrArg Value.bool hb4) ?_
    refine wpn_assoc ?_
    refine wpn_qa hO [] [(4, .bool false)] (ar trivial) fun j => ?_
    refine wpn_rt ?_
    injection hF with hF
    subst hF
    have hO := hO.sel [] (by decide)
    exact hQ _ _ _ _ _ rfl hO hL ⟨rfl, rfl⟩
  · refine wpn_cF (congrArg Value.bool hb4) ?_
    refine wpn_sk ?_
    refine wpn_qa hO [] [(1, .slice A1 p1.length c1), (2, .pointer (some ⟨b3, 0, none⟩)), (5, .int .i64 (-1))] (ar (ar (ar trivial))) fun j => ?_
    refine wpn_assoc ?_
    refine wpn_qa hO [0] [(1, .slice A1 p1.length c1), (2, .pointer (some ⟨b3, 0, none⟩)), (5, .int .i64 (-1)), (29, .slice A0_2 p0.Scope.length c0_2), (30, .int .i64 (p0.Scope.length : Int)), (31, .int .i64 0)] (And.intro (And.intro rfl rfl) (ar (ar (ar (ar (ar (ar trivial))))))) fun j => ?_
    refine wpn_bl ?_
    refine wpn_lp (fun (n : Nat) e' σ' => ∃ (x33 : Int) (x35 : Int) (τ' : Hp), agr [(1, .slice A1 p1.length c1), (2, .pointer (some ⟨b3, 0, none⟩)), (5, .int .i64 x33), (29, .slice A0_2 p0.Scope.length c0_2), (30, .int .i64 (p0.Scope.length : Int)), (31, .int .i64 x35)] e' ∧ Obs τ' σ' [some (b3, ⟨[.int .i64 p0.Func, .int .i64 p0.Line, .slice A0_2 p0.Scope.length c0_2], 59, 3, true⟩)] ∧ Hp.le τ τ' ∧ RdT zj τ' (.slice A1 p1.length c1) p1 ∧ RdT (Ty.int .i64) τ' (.slice A0_2 p0.Scope.length c0_2) p0.Scope ∧ RdT (Ty.int .i64) τ' (.slice A0_2 p0.Scope.length c0_2) p0.Scope ∧ zcp p0 p1 n x33 x35 = some rr) big ⟨(-1), 0, _, ar (ar (ar (ar (ar (ar trivial))))), hO, hL, r1, r0_2, r0_2, hF⟩ ?_
    clear hF hO hL
    rintro n59 e σ ⟨x33, x35, _, hA, hO, hL, r31, r32, r34, hF⟩
    rw [← sets_agr _ _ hA]
    cases n59 with
    | zero => exact nomatch (show none = some rr from hF)
    | succ n59 =>
      replace hF : zbZ (zcp p0 p1 n59) p0 p1 x33 x35 = some rr := hF
      unfold zbZ at hF
      refine wpn_qa hO [] [(1, .slice A1 p1.length c1), (2, .pointer (some ⟨b3, 0, none⟩)), (5, .int .i64 x33), (29, .slice A0_2 p0.Scope.length c0_2), (30, .int .i64 (p0.Scope.length : Int)), (31, .int .i64 x35), (32, .bool (decide (x35 < (p0.Scope.length : Int))))] (ar (ar (ar (ar (ar (ar (ar trivial))))))) fun j => ?_
      rcases ite_some hF with ⟨hb60, hF⟩ | ⟨hb60, hF⟩
      · refine wpn_cT (congrArg Value.bool hb60) ?_
        refine wpn_sk ?_
        refine wpn_bl ?_
        obtain ⟨y61, g62, hF⟩ := bind_some hF
        refine wpn_idx (T := (Ty.int .i64)) r34 hO.base rfl rfl g62 (by decide) fun a63 _ k64 m65 => ?_
        obtain rfl : _ = ([.int .i64 y61] : List Value) := k64
        refine wpn_ld rfl (m65.le hO.base).fst ?_
        refine wpn_qa hO [] [(1, .slice A1 p1.length c1), (2, .pointer (some ⟨b3, 0, none⟩)), (5, .int .i64 x33), (7, .int .i64 y61), (29, .slice A0_2 p0.Scope.length c0_2), (30, .int .i64 (p0.Scope.length : Int)), (31, .int .i64 x35)] (ar (ar (ar (ar (ar (ar (ar trivial))))))) fun j => ?_
        refine wpn_assoc ?_
        refine wpn_q hO 4 [] [(1, .slice A1 p1.length c1), (2, .pointer (some ⟨b3, 0, none⟩)), (7, .int .i64 y61), (29, .slice A0_2 p0.Scope.length c0_2), (30, .int .i64 (p0.Scope.length : Int)), (31, .int .i64 x35), (38, .bool (decide (y61 ≤ x33)))] (ar (ar (ar (ar (ar (ar (ar trivial))))))) fun j => ?_
        obtain ⟨c66, h67, hF⟩ := bind_some hF
        refine wpn_midq 2 [(48, .bool c66), (1, .slice A1 p1.length c1), (2, .pointer (some ⟨b3, 0, none⟩)), (7, .int .i64 y61), (29, .slice A0_2 p0.Scope.length c0_2), (30, .int .i64 (p0.Scope.length : Int)), (31, .int .i64 x35)] (fun Q hQ => ?_) fun j => ?_
        · have hF := h67
          rcases ite_some hF with ⟨hb68, hF⟩ | ⟨hb68, hF⟩
          · refine wpn_gF (congrArg (fun x => isB (.bool x) false) hb68) ?_
            refine wpn_pk (congrArg Value.bool hb68) ?_
            refine wpn_nil ?_
            injection hF with hF
            subst hF
            refine wpn_end ?_
            exact hQ _ (ar (ar (ar (ar (ar (ar (ar trivial)))))))
          · refine wpn_gT (congrArg (fun x => isB (.bool x) false) hb68) ?_
            refine wpn_q hO 4 [0] [(1, .slice A1 p1.length c1), (2, .pointer (some ⟨b3, 0, none⟩)), (7, .int .i64 y61), (29, .slice A0_2 p0.Scope.length c0_2), (30, .int .i64 (p0.Scope.length : Int)), (31, .int .i64 x35), (38, .bool (decide (y61 ≤ x33))), (39, .int .i64 y61), (40, .slice A1 p1.length c1), (42, .int .i64 p0.Func)] (And.intro (And.intro rfl rfl) (ar (ar (ar (ar (ar (ar (ar (ar (ar (ar trivial))))))))))) fun j => ?_
            obtain ⟨y69, g70, hF⟩ := bind_some hF
            refine wpn_idx (T := zj) r31 hO.base rfl rfl g70 (by decide) fun a71 _ k72 m73 => ?_
            obtain ⟨v74, v78, rfl, r75, r79⟩ := k72
            obtain ⟨A76, c77, rfl, -⟩ := r75.form
            obtain ⟨A80, c81, rfl, -⟩ := r79.form
            refine wpn_q hO 1 [] [(1, .slice A1 p1.length c1), (2, .pointer (some ⟨b3, 0, none⟩)), (7, .int .i64 y61), (29, .slice A0_2 p0.Scope.length c0_2), (30, .int .i64 (p0.Scope.length : Int)), (31, .int .i64 x35), (38, .bool (decide (y61 ≤ x33))), (39, .int .i64 y61), (44, .pointer (some (a71.add 3)))] (ar (ar (ar (ar (ar (ar (ar (ar (ar trivial))))))))) fun j => ?_
            refine wpn_ld rfl ((m73.le hO.base).one 3 rfl) ?_
            refine wpn_q hO 2 [] [(1, .slice A1 p1.length c1), (2, .pointer (some ⟨b3, 0, none⟩)), (7, .int .i64 y61), (29, .slice A0_2 p0.Scope.length c0_2), (30, .int .i64 (p0.Scope.length : Int)), (31, .int .i64 x35), (38, .bool (decide (y61 ≤ x33))), (47, .bool (decide (y61 ≥ (y69.Vars.length : Int))))] (ar (ar (ar (ar (ar (ar (ar (ar trivial)))))))) fun j => ?_
            refine wpn_pk (congrArg Value.bool hb68) ?_
            refine wpn_nil ?_
            injection hF with hF
            subst hF
            refine wpn_end ?_
            exact hQ _ (ar (ar (ar (ar (ar (ar (ar trivial)))))))
        · refine wpn_nil ?_
          rcases ite_some hF with ⟨hb82, hF⟩ | ⟨hb82, hF⟩
          · refine wpn_cT (congrArg Value.bool hb82) ?_
            refine wpn_assoc ?_
            refine wpn_qa hO [] [(4, .bool false)] (ar trivial) fun j => ?_
            refine wpn_rt ?_
            refine inb_r1 ?_
            refine thn_r1 ?_
            refine thn_r1 ?_
            refine inb_r1 ?_
            refine thn_r1 ?_
            injection hF with hF
            subst hF
            have hO := hO.sel [] (by decide)
            exact hQ _ _ _ _ _ rfl hO hL ⟨rfl, rfl⟩
          · refine wpn_cF (congrArg Value.bool hb82) ?_
            refine wpn_sk ?_
            refine wpn_rlast ?_
            refine wpn_qa hO [] [(1, .slice A1 p1.length c1), (2, .pointer (some ⟨b3, 0, none⟩)), (5, .int .i64 y61), (29, .slice A0_2 p0.Scope.length c0_2), (30, .int .i64 (p0.Scope.length : Int)), (31, .int .i64 x35)] (ar (ar (ar (ar (ar (ar trivial)))))) fun j => ?_
            refine wpn_end ?_
            refine inb_i ?_
            refine thn_i ?_
            refine wpn_rlast ?_
            refine wpn_qa hO [] [(1, .slice A1 p1.length c1), (2, .pointer (some ⟨b3, 0, none⟩)), (5, .int .i64 y61), (29, .slice A0_2 p0.Scope.length c0_2), (30, .int .i64 (p0.Scope.length : Int)), (31, .int .i64 (IntKind.i64.wrap (x35 + 1)))] (ar (ar (ar (ar (ar (ar trivial)))))) fun j => ?_
            refine wpn_end ?_
            refine thn_i ?_
            exact ⟨n59, Nat.lt_succ_self _, y61, (IntKind.i64.wrap (x35 + 1)), _, ar (ar (ar (ar (ar (ar trivial))))), hO, hL, r31, r32, r34, hF⟩
      · refine wpn_cF (congrArg Value.bool hb60) ?_
        refine wpn_ex ?_
        refine thn_x ?_
        refine inb_x ?_
        refine thn_i ?_
        refine wpn_qa hO [] [(4, .bool true)] (ar trivial) fun j => ?_
        refine wpn_r1 ?_
        injection hF with hF
        subst hF
        have hO := hO.sel [] (by decide)
        exact hQ _ _ _ _ _ rfl hO hL ⟨rfl, rfl⟩
theorem zdv {τ : Hp} {v0 : Value} {p0 : (List zc)} {v1 : Value} {p1 : (List zi)} (r0 : RdT zj τ v0 p0) (r1 : RdT zl τ v1 p1) {rr : Bool} (hF : zR p0 p1 = some rr) :
    Ctr Try.prog 17 #[v0, v1] τ [] (fun v τ' vs' => v = .bool rr ∧ vs' = []) := by
  obtain ⟨A0, c0, rfl, -⟩ := r0.form
  obtain ⟨A1, c1, rfl, -⟩ := r1.form
  refine ctr_of (args := [.slice A0 p0.length c0, .slice A1 p1.length c1]) hm Try.func17 s17 rfl fun w0 σ hO Q hQ => ?_
  unfold zR at hF
  have hL := Hp.le.refl τ
  show wpn _ _ a17.body _ _ _
  unfold a17
  dsimp only
  refine wpn_qa hO [] [(0, .slice A0 p0.length c0), (1, .slice A1 p1.length c1)] (ar (ar trivial)) fun j => ?_
  refine wpn_qa hO [] [(0, .slice A0 p0.length c0), (1, .slice A1 p1.length c1), (5, .int .i64 0)] (ar (ar (ar trivial))) fun j => ?_
  refine wpn_assoc ?_
  refine wpn_qa hO [] [(0, .slice A0 p0.length c0), (1, .slice A1 p1.length c1), (5, .int .i64 0), (10, .slice A0 p0.length c0), (11, .int .i64 (p0.length : Int)), (12, .int .i64 0)] (ar (ar (ar (ar (ar (ar trivial)))))) fun j => ?_
  refine wpn_bl ?_
  refine wpn_lp (fun (n : Nat) e' σ' => ∃ (x84 : Int) (x86 : Int) (τ' : Hp), agr [(0, .slice A0 p0.length c0), (1, .slice A1 p1.length c1), (5, .int .i64 x84), (10, .slice A0 p0.length c0), (11, .int .i64 (p0.length : Int)), (12, .int .i64 x86)] e' ∧ Obs τ' σ' [] ∧ Hp.le τ τ' ∧ RdT zj τ' (.slice A0 p0.length c0) p0 ∧ RdT zl τ' (.slice A1 p1.length c1) p1 ∧ RdT zj τ' (.slice A0 p0.length c0) p0 ∧ zbq p0 p1 n x84 x86 = some rr) big ⟨0, 0, _, ar (ar (ar (ar (ar (ar trivial))))), hO, hL, r0, r1, r0, hF⟩ ?_
  clear hF hO hL
  rintro n163 e σ ⟨x84, x86, _, hA, hO, hL, r82, r83, r85, hF⟩
  rw [← sets_agr _ _ hA]
  cases n163 with
  | zero => exact nomatch (show none = some rr from hF)
  | succ n163 =>
    replace hF : zcI (zbq p0 p1 n163) p0 p1 x84 x86 = some rr := hF
    unfold zcI at hF
    refine wpn_qa hO [] [(0, .slice A0 p0.length c0), (1, .slice A1 p1.length c1), (5, .int .i64 x84), (10, .slice A0 p0.length c0), (11, .int .i64 (p0.length : Int)), (12, .int .i64 x86), (13, .bool (decide (x86 < (p0.length : Int))))] (ar (ar (ar (ar (ar (ar (ar trivial))))))) fun j => ?_
    rcases ite_some hF with ⟨hb164, hF⟩ | ⟨hb164, hF⟩
    · refine wpn_cT (congrArg Value.bool hb164) ?_
      refine wpn_sk ?_
      refine wpn_bl ?_
      obtain ⟨y165, g166, hF⟩ := bind_some hF
      refine wpn_idx (T := zj) r85 hO.base rfl rfl g166 (by decide) fun a167 _ k168 m169 => ?_
      obtain ⟨v170, v174, rfl, r171, r175⟩ := k168
      obtain ⟨A172, c173, rfl, -⟩ := r171.form
      obtain ⟨A176, c177, rfl, -⟩ := r175.form
      refine wpn_ld rfl ((m169.le hO.base).all rfl) ?_
      refine wpn_al hO fun b178 σ hO => ?_
      have hO : Obs _ _ [_] := hO
      refine wpn_st hO (i := 0) rfl (off := 0) rfl rfl rfl rfl (Nat.le_of_ble_eq_true rfl) rfl fun σ hO => ?_
      have hO : Obs _ _ [_] := hO
      refine wpn_nil ?_
      refine wpn_assoc ?_
      refine wpn_q hO 2 [0] [(0, .slice A0 p0.length c0), (1, .slice A1 p1.length c1), (7, .pointer (some ⟨b178, 0, none⟩)), (10, .slice A0 p0.length c0), (11, .int .i64 (p0.length : Int)), (12, .int .i64 x86), (16, .agg #[(.string y165.Name), (.int .i64 y165.From), (.int .i64 y165.To), (.slice A172 y165.Vars.length c173), (.slice A176 y165.Spans.length c177)]), (17, .int .i64 x84)] (And.intro (And.intro rfl rfl) (ar (ar (ar (ar (ar (ar (ar (ar trivial))))))))) fun j => ?_
      obtain ⟨c179, h180, hF⟩ := bind_some hF
      refine wpn_c0 hO (zer (p0 := (⟨y165.Name, y165.From, y165.To, y165.Vars, y165.Spans⟩ : zc)) r171 r175 h180) rfl fun _ σ _ _ hO h181 h182 => ?_
      have hL := hL.trans h181
      have r82 := r82.le h181
      have r83 := r83.le h181
      have r85 := r85.le h181
      have r171 := r171.le h181
      have r175 := r175.le h181
      obtain ⟨rfl, rfl⟩ := h182
      have hO : Obs _ _ [_] := hO
      refine wpn_qa hO [] [(0, .slice A0 p0.length c0), (1, .slice A1 p1.length c1), (7, .pointer (some ⟨b178, 0, none⟩)), (10, .slice A0 p0.length c0), (11, .int .i64 (p0.length : Int)), (12, .int .i64 x86), (19, .bool (!c179))] (ar (ar (ar (ar (ar (ar (ar trivial))))))) fun j => ?_
      rcases ite_some hF with ⟨hb183, hF⟩ | ⟨hb183, hF⟩
      · refine wpn_cT (congrArg Value.bool hb183) ?_
        refine wpn_assoc ?_
        refine wpn_qa hO [] [(4, .bool false)] (ar trivial) fun j => ?_
        refine wpn_rt ?_
        refine inb_r1 ?_
        refine thn_r1 ?_
        refine thn_r1 ?_
        refine inb_r1 ?_
        refine thn_r1 ?_
        injection hF with hF
        subst hF
        have hO := hO.sel [] (by decide)
        exact hQ _ _ _ _ _ rfl hO hL ⟨rfl, rfl⟩
      · refine wpn_cF (congrArg Value.bool hb183) ?_
        refine wpn_sk ?_
        refine wpn_rlast ?_
        refine wpn_qa hO [0] [(0, .slice A0 p0.length c0), (1, .slice A1 p1.length c1), (5, .int .i64 y165.To), (10, .slice A0 p0.length c0), (11, .int .i64 (p0.length : Int)), (12, .int .i64 x86)] (And.intro (And.intro rfl rfl) (ar (ar (ar (ar (ar (ar trivial))))))) fun j => ?_
        refine wpn_end ?_
        refine inb_i ?_
        refine thn_i ?_
        refine wpn_rlast ?_
        refine wpn_qa hO [] [(0, .slice A0 p0.length c0), (1, .slice A1 p1.length c1), (5, .int .i64 y165.To), (10, .slice A0 p0.length c0), (11, .int .i64 (p0.length : Int)), (12, .int .i64 (IntKind.i64.wrap (x86 + 1)))] (ar (ar (ar (ar (ar (ar trivial)))))) fun j => ?_
        refine wpn_end ?_
        refine thn_i ?_
        have hO := hO.sel [] (by decide)
        exact ⟨n163, Nat.lt_succ_self _, y165.To, (IntKind.i64.wrap (x86 + 1)), _, ar (ar (ar (ar (ar (ar trivial))))), hO, hL, r82, r83, r85, hF⟩
    · refine wpn_cF (congrArg Value.bool hb164) ?_
      refine wpn_ex ?_
      refine thn_x ?_
      refine inb_x ?_
      refine thn_i ?_
      refine wpn_assoc ?_
      refine wpn_qa hO [] [(0, .slice A0 p0.length c0), (1, .slice A1 p1.length c1), (23, .slice A1 p1.length c1), (24, .int .i64 (p1.length : Int)), (25, .int .i64 0)] (ar (ar (ar (ar (ar trivial))))) fun j => ?_
      refine wpn_bl ?_
      refine wpn_lp (fun (n : Nat) e' σ' => ∃ (x206 : Int) (τ' : Hp), agr [(0, .slice A0 p0.length c0), (1, .slice A1 p1.length c1), (23, .slice A1 p1.length c1), (24, .int .i64 (p1.length : Int)), (25, .int .i64 x206)] e' ∧ Obs τ' σ' [] ∧ Hp.le τ τ' ∧ RdT zj τ' (.slice A0 p0.length c0) p0 ∧ RdT zl τ' (.slice A1 p1.length c1) p1 ∧ RdT zl τ' (.slice A1 p1.length c1) p1 ∧ zcS p0 p1 n x206 = some rr) big ⟨0, _, ar (ar (ar (ar (ar trivial)))), hO, hL, r82, r83, r83, hF⟩ ?_
      clear hF hO hL
      rintro n223 e σ ⟨x206, _, hA, hO, hL, r203, r204, r205, hF⟩
      rw [← sets_agr _ _ hA]
      cases n223 with
      | zero => exact nomatch (show none = some rr from hF)
      | succ n223 =>
        replace hF : zbw (zcS p0 p1 n223) p0 p1 x206 = some rr := hF
        unfold zbw at hF
        refine wpn_qa hO [] [(0, .slice A0 p0.length c0), (1, .slice A1 p1.length c1), (23, .slice A1 p1.length c1), (24, .int .i64 (p1.length : Int)), (25, .int .i64 x206), (26, .bool (decide (x206 < (p1.length : Int))))] (ar (ar (ar (ar (ar (ar trivial)))))) fun j => ?_
        rcases ite_some hF with ⟨hb224, hF⟩ | ⟨hb224, hF⟩
        · refine wpn_cT (congrArg Value.bool hb224) ?_
          refine wpn_sk ?_
          refine wpn_bl ?_
          obtain ⟨y225, g226, hF⟩ := bind_some hF
          refine wpn_idx (T := zl) r205 hO.base rfl rfl g226 (by decide) fun a227 _ k228 m229 => ?_
          obtain ⟨v230, rfl, r231⟩ := k228
          obtain ⟨A232, c233, rfl, -⟩ := r231.form
          refine wpn_ld rfl ((m229.le hO.base).all rfl) ?_
          refine wpn_al hO fun b234 σ hO => ?_
          have hO : Obs _ _ [_] := hO
          refine wpn_st hO (i := 0) rfl (off := 0) rfl rfl rfl rfl (Nat.le_of_ble_eq_true rfl) rfl fun σ hO => ?_
          have hO : Obs _ _ [_] := hO
          refine wpn_nil ?_
          refine wpn_q hO 2 [0] [(0, .slice A0 p0.length c0), (1, .slice A1 p1.length c1), (23, .slice A1 p1.length c1), (24, .int .i64 (p1.length : Int)), (25, .int .i64 x206), (29, .agg #[(.int .i64 y225.Func), (.int .i64 y225.Line), (.slice A232 y225.Scope.length c233)]), (30, .slice A0 p0.length c0)] (And.intro (And.intro rfl rfl) (ar (ar (ar (ar (ar (ar (ar trivial)))))))) fun j => ?_
          obtain ⟨c235, h236, hF⟩ := bind_some hF
          refine wpn_c0 hO (zek (p0 := (⟨y225.Func, y225.Line, y225.Scope⟩ : zi)) r231 r203 h236) rfl fun _ σ _ _ hO h237 h238 => ?_
          have hL := hL.trans h237
          have r203 := r203.le h237
          have r204 := r204.le h237
          have r205 := r205.le h237
          have r231 := r231.le h237
          obtain ⟨rfl, rfl⟩ := h238
          have hO : Obs _ _ [_] := hO
          refine wpn_qa hO [] [(0, .slice A0 p0.length c0), (1, .slice A1 p1.length c1), (23, .slice A1 p1.length c1), (24, .int .i64 (p1.length : Int)), (25, .int .i64 x206), (32, .bool (!c235))] (ar (ar (ar (ar (ar (ar trivial)))))) fun j => ?_
          refine wpn_clast ?_
          rcases ite_some hF with ⟨hb239, hF⟩ | ⟨hb239, hF⟩
          · refine wpn_cT (congrArg Value.bool hb239) ?_
            refine wpn_assoc ?_
            refine wpn_qa hO [] [(4, .bool false)] (ar trivial) fun j => ?_
            refine wpn_rt ?_
            refine inb_r1 ?_
            refine thn_r1 ?_
            refine thn_r1 ?_
            refine inb_r1 ?_
            refine thn_r1 ?_
            injection hF with hF
            subst hF
            have hO := hO.sel [] (by decide)
            exact hQ _ _ _ _ _ rfl hO hL ⟨rfl, rfl⟩
          · refine wpn_cF (congrArg Value.bool hb239) ?_
            refine wpn_sk ?_
            refine wpn_end ?_
            refine inb_i ?_
            refine thn_i ?_
            refine wpn_rlast ?_
            refine wpn_qa hO [] [(0, .slice A0 p0.length c0), (1, .slice A1 p1.length c1), (23, .slice A1 p1.length c1), (24, .int .i64 (p1.length : Int)), (25, .int .i64 (IntKind.i64.wrap (x206 + 1)))] (ar (ar (ar (ar (ar trivial))))) fun j => ?_
            refine wpn_end ?_
            refine thn_i ?_
            have hO := hO.sel [] (by decide)
            exact ⟨n223, Nat.lt_succ_self _, (IntKind.i64.wrap (x206 + 1)), _, ar (ar (ar (ar (ar trivial)))), hO, hL, r203, r204, r205, hF⟩
        · refine wpn_cF (congrArg Value.bool hb224) ?_
          refine wpn_ex ?_
          refine thn_x ?_
          refine inb_x ?_
          refine thn_i ?_
          refine wpn_qa hO [] [(4, .bool ((decide ((p0.length : Int) ≤ 64)) && (decide ((p1.length : Int) ≤ 1000))))] (And.intro (And.intro rfl rfl) (fun _ => ar trivial)) fun j => ?_
          refine wpn_r1 ?_
          injection hF with hF
          subst hF
          exact hQ _ _ _ _ _ rfl hO hL ⟨rfl, rfl⟩
theorem zd4 {τ : Hp} {v0 : Value} {p0 : (List UInt8)} (r0 : RdT Ty.u8 τ v0 p0) {rr : (List UInt8)} (hF : zbf p0 = some rr) :
    Ctr Try.prog 45 #[v0] τ [] (fun v τ' vs' => ∃ (v0 : Value) (o0 : Ob), v = v0 ∧ vs' = [o0] ∧ OwnO Ty.u8 5 τ' v0 rr o0) := by
  obtain ⟨A0, c0, rfl, -⟩ := r0.form
  refine ctr_of (args := [.slice A0 p0.length c0]) hm Try.func45 s45 rfl fun w0 σ hO Q hQ => ?_
  unfold zbf at hF
  obtain ⟨_, hr, hF⟩ := bind_some hF
  injection hF with hF
  subst hF
  have hL := Hp.le.refl τ
  show wpn _ _ a45.body _ _ _
  unfold a45
  dsimp only
  refine wpn_qa hO [] [(0, .slice A0 p0.length c0)] (ar trivial) fun j => ?_
  refine wpn_assoc ?_
  refine wpn_qa hO [] [(0, .slice A0 p0.length c0), (4, .bool A0.isNone)] (ar (ar trivial)) fun j => ?_
  rcases (Bool.eq_false_or_eq_true A0.isNone).symm with hA | hA
  · refine wpn_cF (congrArg Value.bool hA) ?_
    refine wpn_sk ?_
    refine wpn_lit (T := Ty.u8) (l := []) (cs := []) hO rfl rfl rfl (by decide) fun _ σ o1 w1 hO => ?_
    obtain ⟨A1, c1, rfl, -⟩ := w1.form
    refine wpn_q hO 1 [] [(5, .slice A1 0 c1), (6, .slice A0 p0.length c0)] (ar (ar trivial)) fun j => ?_
    refine wpn_apl (T := Ty.u8) hO w1 (i := 0) rfl rfl rfl r0 (by simpa using hr) (by decide) fun _ σ o2 w2 hO => ?_
    refine wpn_qa hO [] [(2, _)] (ar trivial) fun j => ?_
    refine wpn_r1 ?_
    exact hQ _ _ _ _ _ rfl hO hL ⟨_, _, rfl, rfl, w2⟩
  · refine wpn_cT (congrArg Value.bool hA) ?_
    have := r0.empty (by decide) hA
    subst this
    refine wpn_assoc ?_
    refine wpn_qa hO [] [(2, .slice none 0 0)] (ar trivial) fun j => ?_
    refine wpn_rt ?_
    have hO := hO.no
    exact hQ _ _ _ _ _ rfl hO hL ⟨_, _, rfl, rfl, OwnO.nil _ _ _⟩
theorem zY {τ : Hp} {v0 : Value} {p0 : (List UInt8)} {p1 : Int} (r0 : RdT Ty.u8 τ v0 p0) {rr : (List UInt8)} (hF : zC p0 p1 = some rr) :
    Ctr Try.prog 26 #[v0, .int .u64 p1] τ [] (fun v τ' vs' => ∃ (v0 : Value) (o0 : Ob), v = v0 ∧ vs' = [o0] ∧ OwnO Ty.u8 5 τ' v0 rr o0) := by
  obtain ⟨A0, c0, rfl, -⟩ := r0.form
  refine ctr_of (args := [.slice A0 p0.length c0, .int .u64 p1]) hm Try.func26 s26 rfl fun w0 σ hO Q hQ => ?_
  unfold zC at hF
  have hL := Hp.le.refl τ
  show wpn _ _ a26.body _ _ _
  unfold a26
  dsimp only
  refine wpn_qa hO [] [(0, .slice A0 p0.length c0), (1, .int .u64 p1)] (ar (ar trivial)) fun j => ?_
  refine wpn_q hO 1 [] [(1, .int .u64 p1), (6, .slice A0 p0.length c0)] (ar (ar trivial)) fun j => ?_
  obtain ⟨c3, h4, hF⟩ := bind_some hF
  refine wpn_c0 hO (zd4 r0 h4) rfl fun _ σ _ _ hO h5 h6 => ?_
  have hL := hL.trans h5
  have r0 := r0.le h5
  obtain ⟨v7, o10, rfl, rfl, w11⟩ := h6
  obtain ⟨A8, c9, rfl, -⟩ := w11.form
  have hO : Obs _ _ [_] := hO
  refine wpn_qa hO [] [(1, .int .u64 p1), (5, .slice A8 c3.length c9)] (ar (ar trivial)) fun j => ?_
  refine wpn_bl ?_
  refine wpn_lp (fun (n : Nat) e' σ' => ∃ (x30 : Int) (A31 : Option Addr) (c32 : Nat) (o33 : Ob) (x34 : List UInt8) (τ' : Hp), agr [(1, .int .u64 x30), (5, .slice A31 x34.length c32)] e' ∧ Obs τ' σ' [o33] ∧ Hp.le τ τ' ∧ OwnO Ty.u8 5 τ' (.slice A31 x34.length c32) x34 o33 ∧ zbC  n x30 x34 = some rr) big ⟨p1, A8, c9, o10, c3, _, ar (ar trivial), hO, hL, w11, hF⟩ ?_
  clear hF hO hL
  rintro n49 e σ ⟨x30, A31, c32, o33, x34, _, hA, hO, hL, w35, hF⟩
  rw [← sets_agr _ _ hA]
  cases n49 with
  | zero => exact nomatch (show none = some rr from hF)
  | succ n49 =>
    replace hF : zc6 (zbC  n49) x30 x34 = some rr := hF
    unfold zc6 at hF
    refine wpn_assoc ?_
    refine wpn_qa hO [] [(1, .int .u64 x30), (5, .slice A31 x34.length c32), (9, .bool (decide (x30 > 127)))] (ar (ar (ar trivial))) fun j => ?_
    rcases ite_some hF with ⟨hb50, hF⟩ | ⟨hb50, hF⟩
    · refine wpn_cT (congrArg Value.bool hb50) ?_
      refine wpn_sk ?_
      refine wpn_blast ?_
      refine wpn_bl ?_
      refine wpn_q hO 4 [] [(1, .int .u64 x30), (10, .slice A31 x34.length c32), (13, .int .u8 (orI .u8 (IntKind.u8.wrap x30) 128))] (ar (ar (ar trivial))) fun j => ?_
      obtain ⟨z51, hz51, hF⟩ := bind_some hF
      obtain ⟨_, hr56, hF⟩ := bind_some hF
      refine wpn_ap1 (T := Ty.u8) (y := z51) hO w35 (i := 0) rfl rfl (fun _ => rfl) rfl (u8R hz51) rfl hr56 (by decide) fun u _ σ o54 w55 hO => ?_
      obtain ⟨A52, c53, rfl, -⟩ := w55.form
      have hO : Obs _ _ [_] := hO
      refine wpn_qa hO [] [(1, .int .u64 x30), (5, .slice A52 (x34 ++ [z51]).length c53)] (ar (ar trivial)) fun j => ?_
      refine wpn_rlast ?_
      refine wpn_qa hO [] [(1, .int .u64 (shrI .u64 x30 7)), (5, .slice A52 (x34 ++ [z51]).length c53)] (ar (ar trivial)) fun j => ?_
      refine wpn_end ?_
      refine inb_i ?_
      refine thn_i ?_
      refine wpn_end ?_
      refine thn_i ?_
      exact ⟨n49, Nat.lt_succ_self _, (shrI .u64 x30 7), A52, c53, o54, (x34 ++ [z51]), _, ar (ar trivial), hO, hL, w55, hF⟩
    · refine wpn_cF (congrArg Value.bool hb50) ?_
      refine wpn_ex ?_
      refine thn_x ?_
      refine inb_x ?_
      refine thn_i ?_
      refine wpn_q hO 3 [] [(18, .slice A31 x34.length c32), (20, .int .u8 (IntKind.u8.wrap x30))] (ar (ar trivial)) fun j => ?_
      obtain ⟨z57, hz57, hF⟩ := bind_some hF
      obtain ⟨_, hr62, hF⟩ := bind_some hF
      refine wpn_ap1 (T := Ty.u8) (y := z57) hO w35 (i := 0) rfl rfl (fun _ => rfl) rfl (u8R hz57) rfl hr62 (by decide) fun u _ σ o60 w61 hO => ?_
      obtain ⟨A58, c59, rfl, -⟩ := w61.form
      have hO : Obs _ _ [_] := hO
      refine wpn_qa hO [] [(4, .slice A58 (x34 ++ [z57]).length c59)] (ar trivial) fun j => ?_
      refine wpn_r1 ?_
      injection hF with hF
      subst hF
      exact hQ _ _ _ _ _ rfl hO hL ⟨_, _, rfl, rfl, w61⟩
theorem zft {τ : Hp} {p1 : Int} (r0 : RdT Ty.u8 τ (.slice none 0 0) []) {rr : (List UInt8)} (hF : zcA [] p1 = some rr) :
    Ctr Try.prog 70 #[.slice none 0 0, .int .i64 p1] τ [] (fun v τ' vs' => ∃ (v0 : Value) (o0 : Ob), v = v0 ∧ vs' = [o0] ∧ OwnO Ty.u8 5 τ' v0 rr o0) := by
  refine ctr_of (args := [.slice none 0 0, .int .i64 p1]) hm Try.func70 s70 rfl fun w0 σ hO Q hQ => ?_
  unfold zcA at hF
  have hL := Hp.le.refl τ
  show wpn _ _ a70.body _ _ _
  unfold a70
  dsimp only
  refine wpn_qa hO [] [(0, .slice none 0 0), (1, .int .i64 p1)] (ar (ar trivial)) fun j => ?_
  refine wpn_assoc ?_
  refine wpn_qa hO [] [(0, .slice none 0 0), (1, .int .i64 p1), (6, .bool (decide (p1 < 0)))] (ar (ar (ar trivial))) fun j => ?_
  refine wpn_cut (fun e' σ' => ∃ (τ' : Hp), agr [(0, .slice none 0 0), (1, .int .i64 p1)] e' ∧ Obs τ' σ' [] ∧ Hp.le τ τ' ∧ zdq p1 = some rr) ?_ ?_
  · refine wpn_clast ?_
    rcases ite_some hF with ⟨hb15, hF⟩ | ⟨hb15, hF⟩
    · refine wpn_cT (congrArg Value.bool hb15) ?_
      refine wpn_q hO 1 [] [(0, .slice none 0 0), (1, .int .i64 p1), (7, .iface 9 (.string (⟨#[99, 97, 110, 110, 111, 116, 32, 98, 101, 32, 110, 101, 103, 97, 116, 105, 118, 101]⟩ : ByteArray)))] (ar (ar (ar trivial))) fun j => ?_
      exact nomatch (show none = some _ from hF)
    · refine wpn_cF (congrArg Value.bool hb15) ?_
      refine wpn_sk ?_
      refine wpn_end ?_
      refine thn_i ?_
      exact ⟨_, ar (ar trivial), hO, hL, hF⟩
  · rintro e σ ⟨_, hA, hO, hL, hF⟩
    rw [← sets_agr _ _ hA]
    unfold zdq at hF
    refine wpn_assoc ?_
    refine wpn_qa hO [] [(0, .slice none 0 0), (1, .int .i64 (IntKind.i64.wrap (p1 - (IntKind.i64.wrap (0 - 0)))))] (ar (ar trivial)) fun j => ?_
    refine wpn_assoc ?_
    refine wpn_qa hO [] [(0, .slice none 0 0), (1, .int .i64 (IntKind.i64.wrap (p1 - (IntKind.i64.wrap (0 - 0))))), (16, .bool (decide ((IntKind.i64.wrap (p1 - (IntKind.i64.wrap (0 - 0)))) > 0)))] (ar (ar (ar trivial))) fun j => ?_
    rcases ite_some hF with ⟨hb4, hF⟩ | ⟨hb4, hF⟩
    · refine wpn_cT (congrArg Value.bool hb4) ?_
      refine wpn_q hO 3 [] [(0, .slice none 0 0), (1, .int .i64 (IntKind.i64.wrap (p1 - (IntKind.i64.wrap (0 - 0))))), (17, .slice none 0 0), (19, .int .i64 0)] (ar (ar (ar (ar trivial)))) fun j => ?_
      refine wpn_n0 rfl rfl rfl ?_
      refine wpn_q hO 1 [] [(0, .slice none 0 0), (20, .slice none 0 0), (21, .int .i64 (IntKind.i64.wrap (p1 - (IntKind.i64.wrap (0 - 0)))))] (ar (ar (ar trivial))) fun j => ?_
      have hO := hO.no
      have hO : Obs _ _ [_] := hO
      have w5 := OwnO.nil0 (T := Ty.u8) (ty := 5) hO
      obtain ⟨_, g10, hF⟩ := bind_some hF
      obtain ⟨_, hr11, hF⟩ := bind_some hF
      refine wpn_apz (T := Ty.u8) (z := (0 : UInt8)) hO w5 (i := 0) rfl rfl rfl (nneg_le g10) (show _ = _ from rfl) hr11 (by decide) fun _ σ o8 w9 hO => ?_
      obtain ⟨A6, c7, rfl, -⟩ := w9.form
      have hO : Obs _ _ [_] := hO
      refine wpn_q hO 2 [] [(22, .slice A6 (([] : List UInt8) ++ List.replicate (Int.toNat (IntKind.i64.wrap (p1 - (IntKind.i64.wrap (0 - 0))))) (0 : UInt8)).length c7), (24, .int .i64 0)] (ar (ar trivial)) fun j => ?_
      obtain ⟨y12, g13, hF⟩ := bind_some hF
      refine wpn_tr (T := Ty.u8) w9 rfl rfl g13 fun w14 => ?_
      refine wpn_qa hO [] [(0, .slice A6 y12.length c7)] (ar trivial) fun j => ?_
      refine wpn_qa hO [] [(4, .slice A6 y12.length c7)] (ar trivial) fun j => ?_
      refine wpn_r1 ?_
      injection hF with hF
      subst hF
      exact hQ _ _ _ _ _ rfl hO hL ⟨_, _, rfl, rfl, w14⟩
    · refine wpn_cF (congrArg Value.bool hb4) ?_
      refine wpn_sk ?_
      refine wpn_qa hO [] [(4, .slice none 0 0)] (ar trivial) fun j => ?_
      refine wpn_r1 ?_
      have hO := hO.no
      have hO : Obs _ _ [_] := hO
      injection hF with hF
      subst hF
      exact hQ _ _ _ _ _ rfl hO hL ⟨_, _, rfl, rfl, (OwnO.nil _ _ _)⟩
theorem zen {τ : Hp} {v0 : Value} {p0 : (List (List UInt8))} (r0 : RdT (Ty.slice Ty.u8) τ v0 p0) {rr : (List UInt8)} (hF : zdd p0 = some rr) :
    Ctr Try.prog 64 #[v0] τ [] (fun v τ' vs' => ∃ (v0 : Value) (o0 : Ob), v = v0 ∧ vs' = [o0] ∧ OwnO Ty.u8 5 τ' v0 rr o0) := by
  obtain ⟨A0, c0, rfl, -⟩ := r0.form
  refine ctr_of (args := [.slice A0 p0.length c0]) hm Try.func64 s64 rfl fun w0 σ hO Q hQ => ?_
  unfold zdd at hF
  have hL := Hp.le.refl τ
  show wpn _ _ a64.body _ _ _
  unfold a64
  dsimp only
  refine wpn_qa hO [] [(0, .slice A0 p0.length c0)] (ar trivial) fun j => ?_
  refine wpn_qa hO [] [(0, .slice A0 p0.length c0), (3, .int .i64 0)] (ar (ar trivial)) fun j => ?_
  refine wpn_assoc ?_
  refine wpn_qa hO [] [(0, .slice A0 p0.length c0), (3, .int .i64 0), (9, .slice A0 p0.length c0), (10, .int .i64 (p0.length : Int)), (11, .int .i64 0)] (ar (ar (ar (ar (ar trivial))))) fun j => ?_
  refine wpn_bl ?_
  refine wpn_lp (fun (n : Nat) e' σ' => ∃ (x84 : Int) (x86 : Int) (τ' : Hp), agr [(0, .slice A0 p0.length c0), (3, .int .i64 x84), (9, .slice A0 p0.length c0), (10, .int .i64 (p0.length : Int)), (11, .int .i64 x86)] e' ∧ Obs τ' σ' [] ∧ Hp.le τ τ' ∧ RdT (Ty.slice Ty.u8) τ' (.slice A0 p0.length c0) p0 ∧ RdT (Ty.slice Ty.u8) τ' (.slice A0 p0.length c0) p0 ∧ zbs p0 n x84 x86 = some rr) big ⟨0, 0, _, ar (ar (ar (ar (ar trivial)))), hO, hL, r0, r0, hF⟩ ?_
  clear hF hO hL
  rintro n166 e σ ⟨x84, x86, _, hA, hO, hL, r83, r85, hF⟩
  rw [← sets_agr _ _ hA]
  cases n166 with
  | zero => exact nomatch (show none = some rr from hF)
  | succ n166 =>
    replace hF : zcO (zbs p0 n166) p0 x84 x86 = some rr := hF
    unfold zcO at hF
    refine wpn_qa hO [] [(0, .slice A0 p0.length c0), (3, .int .i64 x84), (9, .slice A0 p0.length c0), (10, .int .i64 (p0.length : Int)), (11, .int .i64 x86), (12, .bool (decide (x86 < (p0.length : Int))))] (ar (ar (ar (ar (ar (ar trivial)))))) fun j => ?_
    rcases ite_some hF with ⟨hb167, hF⟩ | ⟨hb167, hF⟩
    · refine wpn_cT (congrArg Value.bool hb167) ?_
      refine wpn_sk ?_
      refine wpn_bl ?_
      obtain ⟨y168, g169, hF⟩ := bind_some hF
      refine wpn_idx (T := (Ty.slice Ty.u8)) r85 hO.base rfl rfl g169 (by decide) fun a170 _ k171 m172 => ?_
      obtain ⟨v173, rfl, r174⟩ := k171
      obtain ⟨A175, c176, rfl, -⟩ := r174.form
      refine wpn_ld rfl (m172.le hO.base).fst ?_
      refine wpn_qa hO [] [(0, .slice A0 p0.length c0), (3, .int .i64 x84), (5, .slice A175 y168.length c176), (9, .slice A0 p0.length c0), (10, .int .i64 (p0.length : Int)), (11, .int .i64 x86)] (ar (ar (ar (ar (ar (ar trivial)))))) fun j => ?_
      refine wpn_qa hO [] [(0, .slice A0 p0.length c0), (3, .int .i64 (IntKind.i64.wrap (x84 + (y168.length : Int)))), (9, .slice A0 p0.length c0), (10, .int .i64 (p0.length : Int)), (11, .int .i64 x86)] (ar (ar (ar (ar (ar trivial))))) fun j => ?_
      refine wpn_qa hO [] [(0, .slice A0 p0.length c0), (3, .int .i64 (IntKind.i64.wrap (x84 + (y168.length : Int)))), (9, .slice A0 p0.length c0), (10, .int .i64 (p0.length : Int)), (11, .int .i64 x86), (20, .bool (decide ((IntKind.i64.wrap (x84 + (y168.length : Int))) < 0)))] (ar (ar (ar (ar (ar (ar trivial)))))) fun j => ?_
      refine wpn_clast ?_
      rcases ite_some hF with ⟨hb177, hF⟩ | ⟨hb177, hF⟩
      · refine wpn_cT (congrArg Value.bool hb177) ?_
        refine wpn_q hO 1 [] [(0, .slice A0 p0.length c0), (3, .int .i64 (IntKind.i64.wrap (x84 + (y168.length : Int)))), (9, .slice A0 p0.length c0), (10, .int .i64 (p0.length : Int)), (11, .int .i64 x86), (21, .iface 9 (.string (⟨#[108, 101, 110, 32, 111, 117, 116, 32, 111, 102, 32, 114, 97, 110, 103, 101]⟩ : ByteArray)))] (ar (ar (ar (ar (ar (ar trivial)))))) fun j => ?_
        exact nomatch (show none = some _ from hF)
      · refine wpn_cF (congrArg Value.bool hb177) ?_
        refine wpn_sk ?_
        refine wpn_end ?_
        refine inb_i ?_
        refine thn_i ?_
        refine wpn_rlast ?_
        refine wpn_qa hO [] [(0, .slice A0 p0.length c0), (3, .int .i64 (IntKind.i64.wrap (x84 + (y168.length : Int)))), (9, .slice A0 p0.length c0), (10, .int .i64 (p0.length : Int)), (11, .int .i64 (IntKind.i64.wrap (x86 + 1)))] (ar (ar (ar (ar (ar trivial))))) fun j => ?_
        refine wpn_end ?_
        refine thn_i ?_
        exact ⟨n166, Nat.lt_succ_self _, (IntKind.i64.wrap (x84 + (y168.length : Int))), (IntKind.i64.wrap (x86 + 1)), _, ar (ar (ar (ar (ar trivial)))), hO, hL, r83, r85, hF⟩
    · refine wpn_cF (congrArg Value.bool hb167) ?_
      refine wpn_ex ?_
      refine thn_x ?_
      refine inb_x ?_
      refine thn_i ?_
      refine wpn_q hO 1 [] [(0, .slice A0 p0.length c0), (23, .int .i64 x84)] (ar (ar trivial)) fun j => ?_
      obtain ⟨c178, h179, hF⟩ := bind_some hF
      refine wpn_c0 hO (zft (RdT.nil Ty.u8 _) h179) rfl fun _ σ _ _ hO h180 h181 => ?_
      have hL := hL.trans h180
      have r83 := r83.le h180
      obtain ⟨v182, o185, rfl, rfl, w186⟩ := h181
      obtain ⟨A183, c184, rfl, -⟩ := w186.form
      have hO : Obs _ _ [_] := hO
      refine wpn_qa hO [] [(0, .slice A0 p0.length c0), (6, .slice A183 c178.length c184)] (ar (ar trivial)) fun j => ?_
      refine wpn_assoc ?_
      refine wpn_qa hO [] [(6, .slice A183 c178.length c184), (25, .slice A0 p0.length c0), (26, .int .i64 (p0.length : Int)), (27, .int .i64 0)] (ar (ar (ar (ar trivial)))) fun j => ?_
      refine wpn_bl ?_
      refine wpn_lp (fun (n : Nat) e' σ' => ∃ (A208 : Option Addr) (c209 : Nat) (o210 : Ob) (x211 : List UInt8) (x214 : Int) (τ' : Hp), agr [(6, .slice A208 x211.length c209), (25, .slice A0 p0.length c0), (26, .int .i64 (p0.length : Int)), (27, .int .i64 x214)] e' ∧ Obs τ' σ' [o210] ∧ Hp.le τ τ' ∧ OwnO Ty.u8 5 τ' (.slice A208 x211.length c209) x211 o210 ∧ RdT (Ty.slice Ty.u8) τ' (.slice A0 p0.length c0) p0 ∧ zbE p0 n x211 x214 = some rr) big ⟨A183, c184, o185, c178, 0, _, ar (ar (ar (ar trivial))), hO, hL, w186, r83, hF⟩ ?_
      clear hF hO hL
      rintro n230 e σ ⟨A208, c209, o210, x211, x214, _, hA, hO, hL, w212, r213, hF⟩
      rw [← sets_agr _ _ hA]
      cases n230 with
      | zero => exact nomatch (show none = some rr from hF)
      | succ n230 =>
        replace hF : zcW (zbE p0 n230) p0 x211 x214 = some rr := hF
        unfold zcW at hF
        refine wpn_qa hO [] [(6, .slice A208 x211.length c209), (25, .slice A0 p0.length c0), (26, .int .i64 (p0.length : Int)), (27, .int .i64 x214), (28, .bool (decide (x214 < (p0.length : Int))))] (ar (ar (ar (ar (ar trivial))))) fun j => ?_
        rcases ite_some hF with ⟨hb231, hF⟩ | ⟨hb231, hF⟩
        · refine wpn_cT (congrArg Value.bool hb231) ?_
          refine wpn_sk ?_
          refine wpn_bl ?_
          obtain ⟨y232, g233, hF⟩ := bind_some hF
          refine wpn_idx (T := (Ty.slice Ty.u8)) r213 hO.base rfl rfl g233 (by decide) fun a234 _ k235 m236 => ?_
          obtain ⟨v237, rfl, r238⟩ := k235
          obtain ⟨A239, c240, rfl, -⟩ := r238.form
          refine wpn_ld rfl (m236.le hO.base).fst ?_
          refine wpn_qa hO [] [(6, .slice A208 x211.length c209), (8, .slice A239 y232.length c240), (25, .slice A0 p0.length c0), (26, .int .i64 (p0.length : Int)), (27, .int .i64 x214)] (ar (ar (ar (ar (ar trivial))))) fun j => ?_
          refine wpn_rlast ?_
          refine wpn_q hO 2 [] [(25, .slice A0 p0.length c0), (26, .int .i64 (p0.length : Int)), (27, .int .i64 x214), (31, .slice A208 x211.length c209), (32, .slice A239 y232.length c240)] (ar (ar (ar (ar (ar trivial))))) fun j => ?_
          obtain ⟨_, hr245, hF⟩ := bind_some hF
          refine wpn_apl (T := Ty.u8) hO w212 (i := 0) rfl rfl rfl r238 hr245 (by decide) fun _ σ o243 w244 hO => ?_
          obtain ⟨A241, c242, rfl, -⟩ := w244.form
          have hO : Obs _ _ [_] := hO
          refine wpn_qa hO [] [(6, .slice A241 (x211 ++ y232).length c242), (25, .slice A0 p0.length c0), (26, .int .i64 (p0.length : Int)), (27, .int .i64 x214)] (ar (ar (ar (ar trivial)))) fun j => ?_
          refine wpn_end ?_
          refine inb_i ?_
          refine thn_i ?_
          refine wpn_rlast ?_
          refine wpn_qa hO [] [(6, .slice A241 (x211 ++ y232).length c242), (25, .slice A0 p0.length c0), (26, .int .i64 (p0.length : Int)), (27, .int .i64 (IntKind.i64.wrap (x214 + 1)))] (ar (ar (ar (ar trivial)))) fun j => ?_
          refine wpn_end ?_
          refine thn_i ?_
          exact ⟨n230, Nat.lt_succ_self _, A241, c242, o243, (x211 ++ y232), (IntKind.i64.wrap (x214 + 1)), _, ar (ar (ar (ar trivial))), hO, hL, w244, r213, hF⟩
        · refine wpn_cF (congrArg Value.bool hb231) ?_
          refine wpn_ex ?_
          refine thn_x ?_
          refine inb_x ?_
          refine thn_i ?_
          refine wpn_qa hO [] [(2, .slice A208 x211.length c209)] (ar trivial) fun j => ?_
          refine wpn_r1 ?_
          injection hF with hF
          subst hF
          exact hQ _ _ _ _ _ rfl hO hL ⟨_, _, rfl, rfl, w212⟩
theorem zeG {τ : Hp} {v0 : Value} {p0 : (List UInt8)} {p1 : ByteArray} (r0 : RdT Ty.u8 τ v0 p0) {rr : (List UInt8) × Int} (hF : zcj p0 p1 = some rr) :
    Ctr Try.prog 56 #[v0, .string p1] τ [] (fun v τ' vs' => ∃ (v0 : Value) (o0 : Ob), v = .tuple #[v0, .int .i64 rr.2] ∧ vs' = [o0] ∧ OwnO Ty.u8 5 τ' v0 rr.1 o0) := by
  obtain ⟨A0, c0, rfl, -⟩ := r0.form
  refine ctr_of (args := [.slice A0 p0.length c0, .string p1]) hm Try.func56 s56 rfl fun w0 σ hO Q hQ => ?_
  unfold zcj at hF
  have hL := Hp.le.refl τ
  show wpn _ _ a56.body _ _ _
  unfold a56
  dsimp only
  refine wpn_qa hO [] [(0, .slice A0 p0.length c0), (1, .string p1)] (ar (ar trivial)) fun j => ?_
  refine wpn_assoc ?_
  refine wpn_qa hO [] [(0, .slice A0 p0.length c0), (1, .string p1), (8, .bool (decide ((p1.size : Int) > 255)))] (ar (ar (ar trivial))) fun j => ?_
  rcases ite_some hF with ⟨hb3, hF⟩ | ⟨hb3, hF⟩
  · refine wpn_cT (congrArg Value.bool hb3) ?_
    refine wpn_assoc ?_
    refine wpn_qa hO [] [(4, .slice none 0 0), (5, .int .i64 1)] (ar (ar trivial)) fun j => ?_
    refine wpn_rt ?_
    have hO := hO.no
    have hO : Obs _ _ [_] := hO
    injection hF with hF
    subst hF
    exact hQ _ _ _ _ _ rfl hO hL ⟨_, _, rfl, rfl, (OwnO.nil _ _ _)⟩
  · refine wpn_cF (congrArg Value.bool hb3) ?_
    refine wpn_sk ?_
    refine wpn_q hO 4 [] [(1, .string p1), (9, .slice A0 p0.length c0), (12, .int .u8 (IntKind.u8.wrap (p1.size : Int)))] (ar (ar (ar trivial))) fun j => ?_
    obtain ⟨z4, hz4, hF⟩ := bind_some hF
    refine wpn_lit (T := Ty.u8) (l := ([z4] : List UInt8)) (cs := [.int .u8 (IntKind.u8.wrap (p1.size : Int))]) hO rfl ⟨[.int .u8 (IntKind.u8.wrap (p1.size : Int))], _, rfl, (u8R hz4), rfl⟩ rfl (by decide) fun _ σ o7 w8 hO => ?_
    obtain ⟨A5, c6, rfl, -⟩ := w8.form
    have hO : Obs _ _ [_] := hO
    refine wpn_q hO 1 [] [(9, .slice A0 p0.length c0), (13, .slice A5 ([z4] : List UInt8).length c6), (14, .string p1)] (ar (ar (ar trivial))) fun j => ?_
    refine wpn_tb hO rfl fun _ σ _ hO h12 r9 => ?_
    have hL := hL.trans h12
    have r0 := r0.le h12
    have w8 := w8.le h12
    obtain ⟨A10, c11, rfl, -⟩ := r9.form
    obtain ⟨_, h14, r13, hO⟩ := w8.share hO (i := 0) rfl
    have hL := hL.trans h14
    have r0 := r0.le h14
    have r9 := r9.le h14
    have hO : Obs _ _ [_] := hO
    refine wpn_lit (T := (Ty.slice Ty.u8)) (l := ([p0, ([z4] : List UInt8), (p1.data.toList)] : List (List UInt8))) (cs := [.slice A0 p0.length c0, .slice A5 ([z4] : List UInt8).length c6, .slice A10 (p1.data.toList).length c11]) hO rfl ⟨[.slice A0 p0.length c0], _, rfl, ⟨_, rfl, r0⟩, ⟨[.slice A5 ([z4] : List UInt8).length c6], _, rfl, ⟨_, rfl, r13⟩, ⟨[.slice A10 (p1.data.toList).length c11], _, rfl, ⟨_, rfl, r9⟩, rfl⟩⟩⟩ rfl (by decide) fun _ σ o17 w18 hO => ?_
    obtain ⟨A15, c16, rfl, -⟩ := w18.form
    have hO : Obs _ _ [_, _] := hO
    obtain ⟨_, h20, r19, hO⟩ := w18.share hO (i := 1) rfl
    have hL := hL.trans h20
    have r0 := r0.le h20
    have r13 := r13.le h20
    have r9 := r9.le h20
    have hO : Obs _ _ [_, _] := hO
    obtain ⟨c21, h22, hF⟩ := bind_some hF
    refine wpn_c0 hO (zen r19 h22) rfl fun _ σ _ _ hO h23 h24 => ?_
    have hL := hL.trans h23
    have r0 := r0.le h23
    have r13 := r13.le h23
    have r9 := r9.le h23
    have r19 := r19.le h23
    obtain ⟨v25, o28, rfl, rfl, w29⟩ := h24
    obtain ⟨A26, c27, rfl, -⟩ := w29.form
    have hO : Obs _ _ [_, _, _] := hO
    refine wpn_qa hO [] [(4, .slice A26 c21.length c27), (5, .int .i64 0)] (ar (ar trivial)) fun j => ?_
    refine wpn_r1 ?_
    injection hF with hF
    subst hF
    have hO := hO.sel [2] (by decide)
    exact hQ _ _ _ _ _ rfl hO hL ⟨_, _, rfl, rfl, w29⟩
theorem zd1 {τ : Hp} {p0 : Int}  {rr : Bool} (hF : zcX p0 = some rr) :
    Ctr Try.prog 71 #[.int .u8 p0] τ [] (fun v τ' vs' => v = .bool rr ∧ vs' = []) := by
  refine ctr_of (args := [.int .u8 p0]) hm Try.func71 s71 rfl fun w0 σ hO Q hQ => ?_
  unfold zcX at hF
  have hL := Hp.le.refl τ
  show wpn _ _ a71.body _ _ _
  unfold a71
  dsimp only
  refine wpn_qa hO [] [(0, .int .u8 p0)] (ar trivial) fun j => ?_
  refine wpn_qa hO [] [(2, .bool ((decide (p0 ≥ 1)) && (decide (p0 ≤ 3))))] (And.intro (And.intro rfl rfl) (fun _ => ar trivial)) fun j => ?_
  refine wpn_r1 ?_
  injection hF with hF
  subst hF
  exact hQ _ _ _ _ _ rfl hO hL ⟨rfl, rfl⟩
theorem zdW {τ : Hp} {v0 : Value} {p0 : (List UInt8)} {p1 : Int} (r0 : RdT Ty.u8 τ v0 p0) {rr : (List UInt8)} (hF : z6 p0 p1 = some rr) :
    Ctr Try.prog 72 #[v0, .int .i64 p1] τ [] (fun v τ' vs' => ∃ (v0 : Value) (o0 : Ob), v = v0 ∧ vs' = [o0] ∧ OwnO Ty.u8 5 τ' v0 rr o0) := by
  obtain ⟨A0, c0, rfl, -⟩ := r0.form
  refine ctr_of (args := [.slice A0 p0.length c0, .int .i64 p1]) hm Try.func72 s72 rfl fun w0 σ hO Q hQ => ?_
  unfold z6 at hF
  have hL := Hp.le.refl τ
  show wpn _ _ a72.body _ _ _
  unfold a72
  dsimp only
  refine wpn_qa hO [] [(0, .slice A0 p0.length c0), (1, .int .i64 p1)] (ar (ar trivial)) fun j => ?_
  refine wpn_q hO 1 [] [(1, .int .i64 p1), (6, .slice A0 p0.length c0)] (ar (ar trivial)) fun j => ?_
  obtain ⟨c3, h4, hF⟩ := bind_some hF
  refine wpn_c0 hO (zd4 r0 h4) rfl fun _ σ _ _ hO h5 h6 => ?_
  have hL := hL.trans h5
  have r0 := r0.le h5
  obtain ⟨v7, o10, rfl, rfl, w11⟩ := h6
  obtain ⟨A8, c9, rfl, -⟩ := w11.form
  have hO : Obs _ _ [_] := hO
  refine wpn_qa hO [] [(1, .int .i64 p1), (5, .slice A8 c3.length c9)] (ar (ar trivial)) fun j => ?_
  refine wpn_bl ?_
  refine wpn_lp (fun (n : Nat) e' σ' => ∃ (x30 : Int) (A31 : Option Addr) (c32 : Nat) (o33 : Ob) (x34 : List UInt8) (τ' : Hp), agr [(1, .int .i64 x30), (5, .slice A31 x34.length c32)] e' ∧ Obs τ' σ' [o33] ∧ Hp.le τ τ' ∧ OwnO Ty.u8 5 τ' (.slice A31 x34.length c32) x34 o33 ∧ zbM  n x30 x34 = some rr) big ⟨p1, A8, c9, o10, c3, _, ar (ar trivial), hO, hL, w11, hF⟩ ?_
  clear hF hO hL
  rintro n49 e σ ⟨x30, A31, c32, o33, x34, _, hA, hO, hL, w35, hF⟩
  rw [← sets_agr _ _ hA]
  cases n49 with
  | zero => exact nomatch (show none = some rr from hF)
  | succ n49 =>
    replace hF : zbr (zbM  n49) x30 x34 = some rr := hF
    unfold zbr at hF
    refine wpn_assoc ?_
    refine wpn_qa hO [] [(1, .int .i64 x30), (5, .slice A31 x34.length c32), (13, .bool ((decide (x30 > 63)) || (decide (x30 < (-64)))))] (And.intro (And.intro rfl rfl) (fun _ => ar (ar (ar trivial)))) fun j => ?_
    rcases ite_some hF with ⟨hb50, hF⟩ | ⟨hb50, hF⟩
    · refine wpn_cT (congrArg Value.bool hb50) ?_
      refine wpn_sk ?_
      refine wpn_blast ?_
      refine wpn_bl ?_
      refine wpn_q hO 4 [] [(1, .int .i64 x30), (14, .slice A31 x34.length c32), (17, .int .u8 (orI .u8 (IntKind.u8.wrap x30) 128))] (ar (ar (ar trivial))) fun j => ?_
      obtain ⟨z51, hz51, hF⟩ := bind_some hF
      obtain ⟨_, hr56, hF⟩ := bind_some hF
      refine wpn_ap1 (T := Ty.u8) (y := z51) hO w35 (i := 0) rfl rfl (fun _ => rfl) rfl (u8R hz51) rfl hr56 (by decide) fun u _ σ o54 w55 hO => ?_
      obtain ⟨A52, c53, rfl, -⟩ := w55.form
      have hO : Obs _ _ [_] := hO
      refine wpn_qa hO [] [(1, .int .i64 x30), (5, .slice A52 (x34 ++ [z51]).length c53)] (ar (ar trivial)) fun j => ?_
      refine wpn_rlast ?_
      refine wpn_qa hO [] [(1, .int .i64 (shrI .i64 x30 7)), (5, .slice A52 (x34 ++ [z51]).length c53)] (ar (ar trivial)) fun j => ?_
      refine wpn_end ?_
      refine inb_i ?_
      refine thn_i ?_
      refine wpn_end ?_
      refine thn_i ?_
      exact ⟨n49, Nat.lt_succ_self _, (shrI .i64 x30 7), A52, c53, o54, (x34 ++ [z51]), _, ar (ar trivial), hO, hL, w55, hF⟩
    · refine wpn_cF (congrArg Value.bool hb50) ?_
      refine wpn_ex ?_
      refine thn_x ?_
      refine inb_x ?_
      refine thn_i ?_
      refine wpn_q hO 4 [] [(22, .slice A31 x34.length c32), (25, .int .u8 (andI .u8 (IntKind.u8.wrap x30) 127))] (ar (ar trivial)) fun j => ?_
      obtain ⟨z57, hz57, hF⟩ := bind_some hF
      obtain ⟨_, hr62, hF⟩ := bind_some hF
      refine wpn_ap1 (T := Ty.u8) (y := z57) hO w35 (i := 0) rfl rfl (fun _ => rfl) rfl (u8R hz57) rfl hr62 (by decide) fun u _ σ o60 w61 hO => ?_
      obtain ⟨A58, c59, rfl, -⟩ := w61.form
      have hO : Obs _ _ [_] := hO
      refine wpn_qa hO [] [(4, .slice A58 (x34 ++ [z57]).length c59)] (ar trivial) fun j => ?_
      refine wpn_r1 ?_
      injection hF with hF
      subst hF
      exact hQ _ _ _ _ _ rfl hO hL ⟨_, _, rfl, rfl, w61⟩
theorem ze4 {τ : Hp} {v0 : Value} {p0 : (List UInt8)} {v1 : Value} {p1 : (List zg)} (r0 : RdT Ty.u8 τ v0 p0) (r1 : RdT zq τ v1 p1) {rr : (List UInt8) × Int} (hF : zcH p0 p1 = some rr) :
    Ctr Try.prog 65 #[v0, v1] τ [] (fun v τ' vs' => ∃ (v0 : Value) (o0 : Ob), v = .tuple #[v0, .int .i64 rr.2] ∧ vs' = [o0] ∧ OwnO Ty.u8 5 τ' v0 rr.1 o0) := by
  obtain ⟨A0, c0, rfl, -⟩ := r0.form
  obtain ⟨A1, c1, rfl, -⟩ := r1.form
  refine ctr_of (args := [.slice A0 p0.length c0, .slice A1 p1.length c1]) hm Try.func65 s65 rfl fun w0 σ hO Q hQ => ?_
  unfold zcH at hF
  have hL := Hp.le.refl τ
  show wpn _ _ a65.body _ _ _
  unfold a65
  dsimp only
  refine wpn_qa hO [] [(0, .slice A0 p0.length c0), (1, .slice A1 p1.length c1)] (ar (ar trivial)) fun j => ?_
  refine wpn_assoc ?_
  refine wpn_q hO 1 [] [(0, .slice A0 p0.length c0), (1, .slice A1 p1.length c1), (9, .slice A1 p1.length c1)] (ar (ar (ar trivial))) fun j => ?_
  obtain ⟨c3, h4, hF⟩ := bind_some hF
  refine wpn_c0 hO (zdG r1 h4) rfl fun _ σ _ _ hO h5 h6 => ?_
  have hL := hL.trans h5
  have r0 := r0.le h5
  have r1 := r1.le h5
  obtain ⟨rfl, rfl⟩ := h6
  have hO : Obs _ _ [] := hO
  refine wpn_qa hO [] [(0, .slice A0 p0.length c0), (1, .slice A1 p1.length c1), (11, .bool (!c3))] (ar (ar (ar trivial))) fun j => ?_
  rcases ite_some hF with ⟨hb7, hF⟩ | ⟨hb7, hF⟩
  · refine wpn_cT (congrArg Value.bool hb7) ?_
    refine wpn_assoc ?_
    refine wpn_qa hO [] [(4, .slice none 0 0), (5, .int .i64 1)] (ar (ar trivial)) fun j => ?_
    refine wpn_rt ?_
    have hO := hO.no
    have hO : Obs _ _ [_] := hO
    injection hF with hF
    subst hF
    exact hQ _ _ _ _ _ rfl hO hL ⟨_, _, rfl, rfl, (OwnO.nil _ _ _)⟩
  · refine wpn_cF (congrArg Value.bool hb7) ?_
    refine wpn_sk ?_
    refine wpn_q hO 4 [] [(1, .slice A1 p1.length c1), (12, .slice A0 p0.length c0), (15, .int .u64 (IntKind.u64.wrap (p1.length : Int)))] (ar (ar (ar trivial))) fun j => ?_
    obtain ⟨c8, h9, hF⟩ := bind_some hF
    refine wpn_c0 hO (zY r0 h9) rfl fun _ σ _ _ hO h10 h11 => ?_
    have hL := hL.trans h10
    have r1 := r1.le h10
    have r0 := r0.le h10
    obtain ⟨v12, o15, rfl, rfl, w16⟩ := h11
    obtain ⟨A13, c14, rfl, -⟩ := w16.form
    have hO : Obs _ _ [_] := hO
    refine wpn_qa hO [] [(1, .slice A1 p1.length c1), (6, .slice A13 c8.length c14)] (ar (ar trivial)) fun j => ?_
    refine wpn_assoc ?_
    refine wpn_qa hO [] [(6, .slice A13 c8.length c14), (17, .slice A1 p1.length c1), (18, .int .i64 (p1.length : Int)), (19, .int .i64 0)] (ar (ar (ar (ar trivial)))) fun j => ?_
    refine wpn_bl ?_
    refine wpn_lp (fun (n : Nat) e' σ' => ∃ (A51 : Option Addr) (c52 : Nat) (o53 : Ob) (x54 : List UInt8) (x57 : Int) (τ' : Hp), agr [(6, .slice A51 x54.length c52), (17, .slice A1 p1.length c1), (18, .int .i64 (p1.length : Int)), (19, .int .i64 x57)] e' ∧ Obs τ' σ' [o53] ∧ Hp.le τ τ' ∧ OwnO Ty.u8 5 τ' (.slice A51 x54.length c52) x54 o53 ∧ RdT zq τ' (.slice A1 p1.length c1) p1 ∧ zbH p1 n x54 x57 = some rr) big ⟨A13, c14, o15, c8, 0, _, ar (ar (ar (ar trivial))), hO, hL, w16, r1, hF⟩ ?_
    clear hF hO hL
    rintro n86 e σ ⟨A51, c52, o53, x54, x57, _, hA, hO, hL, w55, r56, hF⟩
    rw [← sets_agr _ _ hA]
    cases n86 with
    | zero => exact nomatch (show none = some rr from hF)
    | succ n86 =>
      replace hF : zcB (zbH p1 n86) p1 x54 x57 = some rr := hF
      unfold zcB at hF
      refine wpn_qa hO [] [(6, .slice A51 x54.length c52), (17, .slice A1 p1.length c1), (18, .int .i64 (p1.length : Int)), (19, .int .i64 x57), (20, .bool (decide (x57 < (p1.length : Int))))] (ar (ar (ar (ar (ar trivial))))) fun j => ?_
      rcases ite_some hF with ⟨hb87, hF⟩ | ⟨hb87, hF⟩
      · refine wpn_cT (congrArg Value.bool hb87) ?_
        refine wpn_sk ?_
        refine wpn_bl ?_
        obtain ⟨y88, g89, hF⟩ := bind_some hF
        refine wpn_idx (T := zq) r56 hO.base rfl rfl g89 (by decide) fun a90 _ k91 m92 => ?_
        obtain rfl : _ = ([.int .u8 y88.Kind.toNat, .int .i64 y88.N] : List Value) := k91
        refine wpn_ld rfl ((m92.le hO.base).all rfl) ?_
        refine wpn_al hO fun b93 σ hO => ?_
        have hO : Obs _ _ [_, _] := hO
        refine wpn_st hO (i := 1) rfl (off := 0) rfl rfl rfl rfl (Nat.le_of_ble_eq_true rfl) rfl fun σ hO => ?_
        have hO : Obs _ _ [_, _] := hO
        refine wpn_nil ?_
        refine wpn_q hO 3 [1] [(8, .pointer (some ⟨b93, 0, none⟩)), (17, .slice A1 p1.length c1), (18, .int .i64 (p1.length : Int)), (19, .int .i64 x57), (23, .slice A51 x54.length c52), (25, .int .u8 (y88.Kind.toNat : Int))] (And.intro (And.intro rfl rfl) (ar (ar (ar (ar (ar (ar trivial))))))) fun j => ?_
        obtain ⟨_, hr98, hF⟩ := bind_some hF
        refine wpn_ap1 (T := Ty.u8) (y := y88.Kind) hO w55 (i := 0) rfl rfl (fun _ => rfl) rfl rfl rfl hr98 (by decide) fun u _ σ o96 w97 hO => ?_
        obtain ⟨A94, c95, rfl, -⟩ := w97.form
        have hO : Obs _ _ [_, _] := hO
        refine wpn_qa hO [] [(6, .slice A94 (x54 ++ [y88.Kind]).length c95), (8, .pointer (some ⟨b93, 0, none⟩)), (17, .slice A1 p1.length c1), (18, .int .i64 (p1.length : Int)), (19, .int .i64 x57)] (ar (ar (ar (ar (ar trivial))))) fun j => ?_
        refine wpn_q hO 2 [1] [(6, .slice A94 (x54 ++ [y88.Kind]).length c95), (8, .pointer (some ⟨b93, 0, none⟩)), (17, .slice A1 p1.length c1), (18, .int .i64 (p1.length : Int)), (19, .int .i64 x57), (29, .int .u8 (y88.Kind.toNat : Int))] (And.intro (And.intro rfl rfl) (ar (ar (ar (ar (ar (ar trivial))))))) fun j => ?_
        obtain ⟨c99, h100, hF⟩ := bind_some hF
        refine wpn_c0 hO (zd1 h100) rfl fun _ σ _ _ hO h101 h102 => ?_
        have hL := hL.trans h101
        have w97 := w97.le h101
        have r56 := r56.le h101
        obtain ⟨rfl, rfl⟩ := h102
        have hO : Obs _ _ [_, _] := hO
        refine wpn_nil ?_
        refine wpn_clast ?_
        rcases ite_some hF with ⟨hb103, hF⟩ | ⟨hb103, hF⟩
        · refine wpn_cT (congrArg Value.bool hb103) ?_
          refine wpn_q hO 3 [1] [(17, .slice A1 p1.length c1), (18, .int .i64 (p1.length : Int)), (19, .int .i64 x57), (31, .slice A94 (x54 ++ [y88.Kind]).length c95), (33, .int .i64 y88.N)] (And.intro (And.intro rfl rfl) (ar (ar (ar (ar (ar trivial)))))) fun j => ?_
          obtain ⟨_, h105, r104, hO⟩ := w97.share hO (i := 0) rfl
          have hL := hL.trans h105
          have r56 := r56.le h105
          have hO : Obs _ _ [_, _] := hO
          obtain ⟨c106, h107, hF⟩ := bind_some hF
          refine wpn_c0 hO (zdW r104 h107) rfl fun _ σ _ _ hO h108 h109 => ?_
          have hL := hL.trans h108
          have r56 := r56.le h108
          have r104 := r104.le h108
          obtain ⟨v110, o113, rfl, rfl, w114⟩ := h109
          obtain ⟨A111, c112, rfl, -⟩ := w114.form
          have hO : Obs _ _ [_, _, _] := hO
          refine wpn_qa hO [] [(6, .slice A111 c106.length c112), (17, .slice A1 p1.length c1), (18, .int .i64 (p1.length : Int)), (19, .int .i64 x57)] (ar (ar (ar (ar trivial)))) fun j => ?_
          refine wpn_end ?_
          refine inb_i ?_
          refine thn_i ?_
          refine wpn_rlast ?_
          refine wpn_qa hO [] [(6, .slice A111 c106.length c112), (17, .slice A1 p1.length c1), (18, .int .i64 (p1.length : Int)), (19, .int .i64 (IntKind.i64.wrap (x57 + 1)))] (ar (ar (ar (ar trivial)))) fun j => ?_
          refine wpn_end ?_
          refine thn_i ?_
          have hO := hO.sel [2] (by decide)
          exact ⟨n86, Nat.lt_succ_self _, A111, c112, o113, c106, (IntKind.i64.wrap (x57 + 1)), _, ar (ar (ar (ar trivial))), hO, hL, w114, r56, hF⟩
        · refine wpn_cF (congrArg Value.bool hb103) ?_
          refine wpn_sk ?_
          refine wpn_end ?_
          refine inb_i ?_
          refine thn_i ?_
          refine wpn_rlast ?_
          refine wpn_qa hO [] [(6, .slice A94 (x54 ++ [y88.Kind]).length c95), (17, .slice A1 p1.length c1), (18, .int .i64 (p1.length : Int)), (19, .int .i64 (IntKind.i64.wrap (x57 + 1)))] (ar (ar (ar (ar trivial)))) fun j => ?_
          refine wpn_end ?_
          refine thn_i ?_
          have hO := hO.sel [0] (by decide)
          exact ⟨n86, Nat.lt_succ_self _, A94, c95, o96, (x54 ++ [y88.Kind]), (IntKind.i64.wrap (x57 + 1)), _, ar (ar (ar (ar trivial))), hO, hL, w97, r56, hF⟩
      · refine wpn_cF (congrArg Value.bool hb87) ?_
        refine wpn_ex ?_
        refine thn_x ?_
        refine inb_x ?_
        refine thn_i ?_
        refine wpn_qa hO [] [(4, .slice A51 x54.length c52), (5, .int .i64 0)] (ar (ar trivial)) fun j => ?_
        refine wpn_r1 ?_
        injection hF with hF
        subst hF
        exact hQ _ _ _ _ _ rfl hO hL ⟨_, _, rfl, rfl, w55⟩
theorem zeo {τ : Hp} {v0 : Value} {p0 : (List UInt8)} {v1 : Value} {p1 : (List ze)} (r0 : RdT Ty.u8 τ v0 p0) (r1 : RdT zk τ v1 p1) {rr : (List UInt8) × Int} (hF : zbR p0 p1 = some rr) :
    Ctr Try.prog 57 #[v0, v1] τ [] (fun v τ' vs' => ∃ (v0 : Value) (o0 : Ob), v = .tuple #[v0, .int .i64 rr.2] ∧ vs' = [o0] ∧ OwnO Ty.u8 5 τ' v0 rr.1 o0) := by
  obtain ⟨A0, c0, rfl, -⟩ := r0.form
  obtain ⟨A1, c1, rfl, -⟩ := r1.form
  refine ctr_of (args := [.slice A0 p0.length c0, .slice A1 p1.length c1]) hm Try.func57 s57 rfl fun w0 σ hO Q hQ => ?_
  unfold zbR at hF
  have hL := Hp.le.refl τ
  show wpn _ _ a57.body _ _ _
  unfold a57
  dsimp only
  refine wpn_qa hO [] [(0, .slice A0 p0.length c0), (1, .slice A1 p1.length c1)] (ar (ar trivial)) fun j => ?_
  refine wpn_assoc ?_
  refine wpn_q hO 1 [] [(0, .slice A0 p0.length c0), (1, .slice A1 p1.length c1), (10, .slice A1 p1.length c1)] (ar (ar (ar trivial))) fun j => ?_
  obtain ⟨c3, h4, hF⟩ := bind_some hF
  refine wpn_c0 hO (zdR r1 h4) rfl fun _ σ _ _ hO h5 h6 => ?_
  have hL := hL.trans h5
  have r0 := r0.le h5
  have r1 := r1.le h5
  obtain ⟨rfl, rfl⟩ := h6
  have hO : Obs _ _ [] := hO
  refine wpn_qa hO [] [(0, .slice A0 p0.length c0), (1, .slice A1 p1.length c1), (12, .bool (!c3))] (ar (ar (ar trivial))) fun j => ?_
  rcases ite_some hF with ⟨hb7, hF⟩ | ⟨hb7, hF⟩
  · refine wpn_cT (congrArg Value.bool hb7) ?_
    refine wpn_assoc ?_
    refine wpn_qa hO [] [(4, .slice none 0 0), (5, .int .i64 1)] (ar (ar trivial)) fun j => ?_
    refine wpn_rt ?_
    have hO := hO.no
    have hO : Obs _ _ [_] := hO
    injection hF with hF
    subst hF
    exact hQ _ _ _ _ _ rfl hO hL ⟨_, _, rfl, rfl, (OwnO.nil _ _ _)⟩
  · refine wpn_cF (congrArg Value.bool hb7) ?_
    refine wpn_sk ?_
    refine wpn_q hO 4 [] [(1, .slice A1 p1.length c1), (13, .slice A0 p0.length c0), (16, .int .u64 (IntKind.u64.wrap (p1.length : Int)))] (ar (ar (ar trivial))) fun j => ?_
    obtain ⟨c8, h9, hF⟩ := bind_some hF
    refine wpn_c0 hO (zY r0 h9) rfl fun _ σ _ _ hO h10 h11 => ?_
    have hL := hL.trans h10
    have r1 := r1.le h10
    have r0 := r0.le h10
    obtain ⟨v12, o15, rfl, rfl, w16⟩ := h11
    obtain ⟨A13, c14, rfl, -⟩ := w16.form
    have hO : Obs _ _ [_] := hO
    refine wpn_qa hO [] [(1, .slice A1 p1.length c1), (6, .slice A13 c8.length c14)] (ar (ar trivial)) fun j => ?_
    refine wpn_qa hO [] [(1, .slice A1 p1.length c1), (6, .slice A13 c8.length c14), (7, .int .i64 0)] (ar (ar (ar trivial))) fun j => ?_
    refine wpn_assoc ?_
    refine wpn_qa hO [] [(6, .slice A13 c8.length c14), (7, .int .i64 0), (18, .slice A1 p1.length c1), (19, .int .i64 (p1.length : Int)), (20, .int .i64 0)] (ar (ar (ar (ar (ar trivial))))) fun j => ?_
    refine wpn_bl ?_
    refine wpn_lp (fun (n : Nat) e' σ' => ∃ (A67 : Option Addr) (c68 : Nat) (o69 : Ob) (x70 : List UInt8) (x72 : Int) (x74 : Int) (τ' : Hp), agr [(6, .slice A67 x70.length c68), (7, .int .i64 x72), (18, .slice A1 p1.length c1), (19, .int .i64 (p1.length : Int)), (20, .int .i64 x74)] e' ∧ Obs τ' σ' [o69] ∧ Hp.le τ τ' ∧ OwnO Ty.u8 5 τ' (.slice A67 x70.length c68) x70 o69 ∧ RdT zk τ' (.slice A1 p1.length c1) p1 ∧ zcZ p1 n x70 x72 x74 = some rr) big ⟨A13, c14, o15, c8, 0, 0, _, ar (ar (ar (ar (ar trivial)))), hO, hL, w16, r1, hF⟩ ?_
    clear hF hO hL
    rintro n119 e σ ⟨A67, c68, o69, x70, x72, x74, _, hA, hO, hL, w71, r73, hF⟩
    rw [← sets_agr _ _ hA]
    cases n119 with
    | zero => exact nomatch (show none = some rr from hF)
    | succ n119 =>
      replace hF : zbU (zcZ p1 n119) p1 x70 x72 x74 = some rr := hF
      unfold zbU at hF
      refine wpn_qa hO [] [(6, .slice A67 x70.length c68), (7, .int .i64 x72), (18, .slice A1 p1.length c1), (19, .int .i64 (p1.length : Int)), (20, .int .i64 x74), (21, .bool (decide (x74 < (p1.length : Int))))] (ar (ar (ar (ar (ar (ar trivial)))))) fun j => ?_
      rcases ite_some hF with ⟨hb120, hF⟩ | ⟨hb120, hF⟩
      · refine wpn_cT (congrArg Value.bool hb120) ?_
        refine wpn_sk ?_
        refine wpn_bl ?_
        obtain ⟨y121, g122, hF⟩ := bind_some hF
        refine wpn_idx (T := zk) r73 hO.base rfl rfl g122 (by decide) fun a123 _ k124 m125 => ?_
        obtain ⟨v126, rfl, r127⟩ := k124
        obtain ⟨A128, c129, rfl, -⟩ := r127.form
        refine wpn_ld rfl ((m125.le hO.base).all rfl) ?_
        refine wpn_al hO fun b130 σ hO => ?_
        have hO : Obs _ _ [_, _] := hO
        refine wpn_st hO (i := 1) rfl (off := 0) rfl rfl rfl rfl (Nat.le_of_ble_eq_true rfl) rfl fun σ hO => ?_
        have hO : Obs _ _ [_, _] := hO
        refine wpn_nil ?_
        refine wpn_p2r ?_
        refine wpn_q hO 12 [1, 1, 1] [(9, .pointer (some ⟨b130, 0, none⟩)), (18, .slice A1 p1.length c1), (19, .int .i64 (p1.length : Int)), (20, .int .i64 x74), (24, .slice A67 x70.length c68), (29, .int .u64 (IntKind.u64.wrap (IntKind.i64.wrap (y121.From - x72)))), (31, .pointer (some ⟨b130, 1, none⟩)), (32, .int .i64 y121.To), (33, .pointer (some ⟨b130, 0, none⟩)), (34, .int .i64 y121.From), (36, .int .u64 (IntKind.u64.wrap (IntKind.i64.wrap (y121.To - y121.From))))] (And.intro (And.intro rfl rfl) (And.intro (And.intro rfl rfl) (And.intro (And.intro rfl rfl) (ar (ar (ar (ar (ar (ar (ar (ar (ar (ar (ar trivial)))))))))))))) fun j => ?_
        refine wpn_late ?_
        obtain ⟨_, h132, r131, hO⟩ := w71.share hO (i := 0) rfl
        have hL := hL.trans h132
        have r73 := r73.le h132
        have r127 := r127.le h132
        have hO : Obs _ _ [_, _] := hO
        obtain ⟨c133, h134, hF⟩ := bind_some hF
        refine wpn_c0 hO (zY r131 h134) rfl fun _ σ _ _ hO h135 h136 => ?_
        have hL := hL.trans h135
        have r73 := r73.le h135
        have r131 := r131.le h135
        have r127 := r127.le h135
        obtain ⟨v137, o140, rfl, rfl, w141⟩ := h136
        obtain ⟨A138, c139, rfl, -⟩ := w141.form
        have hO : Obs _ _ [_, _, _] := hO
        refine wpn_nil ?_
        refine wpn_ag ⟨(again_ld rfl (hO.val (i := 1) (off := 0) (agg := false) (n := 1) rfl rfl) rfl), (again_ld rfl (hO.val (i := 1) (off := 1) (agg := false) (n := 1) rfl rfl) rfl), trivial⟩ ?_
        obtain ⟨_, h143, r142, hO⟩ := w141.share hO (i := 2) rfl
        have hL := hL.trans h143
        have r73 := r73.le h143
        have r131 := r131.le h143
        have r127 := r127.le h143
        have hO : Obs _ _ [_, _, _] := hO
        obtain ⟨c144, h145, hF⟩ := bind_some hF
        refine wpn_c0 hO (zY r142 h145) rfl fun _ σ _ _ hO h146 h147 => ?_
        have hL := hL.trans h146
        have r73 := r73.le h146
        have r131 := r131.le h146
        have r142 := r142.le h146
        have r127 := r127.le h146
        obtain ⟨v148, o151, rfl, rfl, w152⟩ := h147
        obtain ⟨A149, c150, rfl, -⟩ := w152.form
        have hO : Obs _ _ [_, _, _, _] := hO
        refine wpn_qa hO [] [(6, .slice A149 c144.length c150), (9, .pointer (some ⟨b130, 0, none⟩)), (18, .slice A1 p1.length c1), (19, .int .i64 (p1.length : Int)), (20, .int .i64 x74)] (ar (ar (ar (ar (ar trivial))))) fun j => ?_
        refine wpn_q hO 3 [1] [(9, .pointer (some ⟨b130, 0, none⟩)), (18, .slice A1 p1.length c1), (19, .int .i64 (p1.length : Int)), (20, .int .i64 x74), (39, .slice A149 c144.length c150), (41, .slice A128 y121.At.length c129)] (And.intro (And.intro rfl rfl) (ar (ar (ar (ar (ar (ar trivial))))))) fun j => ?_
        obtain ⟨_, h154, r153, hO⟩ := w152.share hO (i := 3) rfl
        have hL := hL.trans h154
        have r73 := r73.le h154
        have r127 := r127.le h154
        have hO : Obs _ _ [_, _, _, _] := hO
        obtain ⟨c155, h156, hF⟩ := bind_some hF
        refine wpn_c0 hO (ze4 r153 r127 h156) rfl fun _ σ _ _ hO h157 h158 => ?_
        have hL := hL.trans h157
        have r73 := r73.le h157
        have r153 := r153.le h157
        have r127 := r127.le h157
        obtain ⟨v159, o162, rfl, rfl, w163⟩ := h158
        obtain ⟨A160, c161, rfl, -⟩ := w163.form
        have hO : Obs _ _ [_, _, _, _, _] := hO
        refine wpn_qa hO [] [(6, .slice A160 c155.1.length c161), (9, .pointer (some ⟨b130, 0, none⟩)), (18, .slice A1 p1.length c1), (19, .int .i64 (p1.length : Int)), (20, .int .i64 x74)] (ar (ar (ar (ar (ar trivial))))) fun j => ?_
        refine wpn_rlast ?_
        refine wpn_qa hO [1] [(6, .slice A160 c155.1.length c161), (7, .int .i64 y121.To), (18, .slice A1 p1.length c1), (19, .int .i64 (p1.length : Int)), (20, .int .i64 x74)] (And.intro (And.intro rfl rfl) (ar (ar (ar (ar (ar trivial)))))) fun j => ?_
        refine wpn_end ?_
        refine inb_i ?_
        refine thn_i ?_
        refine wpn_rlast ?_
        refine wpn_qa hO [] [(6, .slice A160 c155.1.length c161), (7, .int .i64 y121.To), (18, .slice A1 p1.length c1), (19, .int .i64 (p1.length : Int)), (20, .int .i64 (IntKind.i64.wrap (x74 + 1)))] (ar (ar (ar (ar (ar trivial))))) fun j => ?_
        refine wpn_end ?_
        refine thn_i ?_
        have hO := hO.sel [4] (by decide)
        exact ⟨n119, Nat.lt_succ_self _, A160, c161, o162, c155.1, y121.To, (IntKind.i64.wrap (x74 + 1)), _, ar (ar (ar (ar (ar trivial)))), hO, hL, w163, r73, hF⟩
      · refine wpn_cF (congrArg Value.bool hb120) ?_
        refine wpn_ex ?_
        refine thn_x ?_
        refine inb_x ?_
        refine thn_i ?_
        refine wpn_qa hO [] [(4, .slice A67 x70.length c68), (5, .int .i64 0)] (ar (ar trivial)) fun j => ?_
        refine wpn_r1 ?_
        injection hF with hF
        subst hF
        exact hQ _ _ _ _ _ rfl hO hL ⟨_, _, rfl, rfl, w71⟩
theorem zdB {τ : Hp} {q0 : zm} {bm0 : Nat} {vm0_0 : Value} {om0_0 : Ob} {p1 : ByteArray} (wm0_0 : OwnO Ty.u8 5 τ vm0_0 q0.b om0_0) {rr : zm} (hF : zM q0 p1 = some rr) :
    Ctr Try.prog 46 #[.pointer (some ⟨bm0, 0, none⟩), .string p1] τ [some (bm0, ⟨[vm0_0], 75, 1, true⟩), om0_0] (fun v τ' vs' => ∃ (u0_0 : Value) (y0_0 : Ob), v = .tuple #[] ∧ vs' = [some (bm0, ⟨[u0_0], 75, 1, true⟩), y0_0] ∧ OwnO Ty.u8 5 τ' u0_0 rr.b y0_0) := by
  obtain ⟨Am0_0, cm0_0, rfl, -⟩ := wm0_0.form
  refine ctr_ofn (args := [.pointer (some ⟨bm0, 0, none⟩), .string p1]) hm Try.func46 s46 rfl fun w0 σ hO Q hQ => ?_
  unfold zM at hF
  have hL := Hp.le.refl τ
  show wpn _ _ a46.body _ _ _
  unfold a46
  dsimp only
  refine wpn_rlast ?_
  refine wpn_q hO 6 [0] [(0, .pointer (some ⟨bm0, 0, none⟩)), (5, .pointer (some ⟨bm0, 0, none⟩)), (9, .slice Am0_0 q0.b.length cm0_0), (10, .string p1)] (And.intro (And.intro rfl rfl) (ar (ar (ar (ar trivial))))) fun j => ?_
  obtain ⟨_, h4, r3, hO⟩ := wm0_0.share hO (i := 1) rfl
  have hL := hL.trans h4
  have hO : Obs _ _ [_, _] := hO
  obtain ⟨c5, h6, hF⟩ := bind_some hF
  refine wpn_c0 hO (zeG r3 h6) rfl fun _ σ _ _ hO h7 h8 => ?_
  have hL := hL.trans h7
  have r3 := r3.le h7
  obtain ⟨v9, o12, rfl, rfl, w13⟩ := h8
  obtain ⟨A10, c11, rfl, -⟩ := w13.form
  have hO : Obs _ _ [_, _, _] := hO
  refine wpn_q hO 5 [] [(0, .pointer (some ⟨bm0, 0, none⟩)), (12, .slice A10 c5.1.length c11), (15, .pointer (some ⟨bm0, 0, none⟩))] (ar (ar (ar trivial))) fun j => ?_
  refine wpn_st hO (i := 0) rfl (off := 0) rfl rfl rfl rfl (Nat.le_of_ble_eq_true rfl) rfl fun σ hO => ?_
  have hO : Obs _ _ [_, _, _] := hO
  refine wpn_nil ?_
  refine wpn_end ?_
  injection hF with hF
  subst hF
  have hO := hO.sel [0, 2] (by decide)
  exact (hQ _ _ _ _ _ rfl hO hL ⟨_, _, rfl, rfl, w13⟩).2
theorem zE {τ : Hp} {q0 : zm} {bm0 : Nat} {vm0_0 : Value} {om0_0 : Ob} {p1 : Int} (wm0_0 : OwnO Ty.u8 5 τ vm0_0 q0.b om0_0) {rr : zm} (hF : zy q0 p1 = some rr) :
    Ctr Try.prog 28 #[.pointer (some ⟨bm0, 0, none⟩), .int .i64 p1] τ [some (bm0, ⟨[vm0_0], 75, 1, true⟩), om0_0] (fun v τ' vs' => ∃ (u0_0 : Value) (y0_0 : Ob), v = .tuple #[] ∧ vs' = [some (bm0, ⟨[u0_0], 75, 1, true⟩), y0_0] ∧ OwnO Ty.u8 5 τ' u0_0 rr.b y0_0) := by
  obtain ⟨Am0_0, cm0_0, rfl, -⟩ := wm0_0.form
  refine ctr_ofn (args := [.pointer (some ⟨bm0, 0, none⟩), .int .i64 p1]) hm Try.func28 s28 rfl fun w0 σ hO Q hQ => ?_
  unfold zy at hF
  have hL := Hp.le.refl τ
  show wpn _ _ a28.body _ _ _
  unfold a28
  dsimp only
  refine wpn_rlast ?_
  refine wpn_q hO 7 [0] [(0, .pointer (some ⟨bm0, 0, none⟩)), (4, .pointer (some ⟨bm0, 0, none⟩)), (8, .slice Am0_0 q0.b.length cm0_0), (10, .int .u64 (IntKind.u64.wrap p1))] (And.intro (And.intro rfl rfl) (ar (ar (ar (ar trivial))))) fun j => ?_
  obtain ⟨_, h4, r3, hO⟩ := wm0_0.share hO (i := 1) rfl
  have hL := hL.trans h4
  have hO : Obs _ _ [_, _] := hO
  obtain ⟨c5, h6, hF⟩ := bind_some hF
  refine wpn_c0 hO (zY r3 h6) rfl fun _ σ _ _ hO h7 h8 => ?_
  have hL := hL.trans h7
  have r3 := r3.le h7
  obtain ⟨v9, o12, rfl, rfl, w13⟩ := h8
  obtain ⟨A10, c11, rfl, -⟩ := w13.form
  have hO : Obs _ _ [_, _, _] := hO
  refine wpn_q hO 2 [] [(0, .pointer (some ⟨bm0, 0, none⟩)), (11, .slice A10 c5.length c11), (13, .pointer (some ⟨bm0, 0, none⟩))] (ar (ar (ar trivial))) fun j => ?_
  refine wpn_st hO (i := 0) rfl (off := 0) rfl rfl rfl rfl (Nat.le_of_ble_eq_true rfl) rfl fun σ hO => ?_
  have hO : Obs _ _ [_, _, _] := hO
  refine wpn_nil ?_
  refine wpn_end ?_
  injection hF with hF
  subst hF
  have hO := hO.sel [0, 2] (by decide)
  exact (hQ _ _ _ _ _ rfl hO hL ⟨_, _, rfl, rfl, w13⟩).2
theorem ze6 {τ : Hp} {q0 : zm} {bm0 : Nat} {vm0_0 : Value} {om0_0 : Ob} {p1 : zh} {v1_5 : Value} {v2 : Value} {p2 : (List ze)} (wm0_0 : OwnO Ty.u8 5 τ vm0_0 q0.b om0_0) (r1_5 : RdT Ty.str τ v1_5 p1.Fields) (r2 : RdT zk τ v2 p2) {rr : zm} (hF : zbg q0 p1 p2 = some rr) :
    Ctr Try.prog 47 #[.pointer (some ⟨bm0, 0, none⟩), .agg #[.string p1.Name, .int .u8 p1.Type_.Kind.toNat, .int .i64 p1.Type_.N, .string p1.Type_.Name, .int .i64 p1.Words, v1_5], v2] τ [some (bm0, ⟨[vm0_0], 75, 1, true⟩), om0_0] (fun v τ' vs' => ∃ (u0_0 : Value) (y0_0 : Ob), v = .tuple #[] ∧ vs' = [some (bm0, ⟨[u0_0], 75, 1, true⟩), y0_0] ∧ OwnO Ty.u8 5 τ' u0_0 rr.b y0_0) := by
  obtain ⟨Am0_0, cm0_0, rfl, -⟩ := wm0_0.form
  obtain ⟨A1_5, c1_5, rfl, -⟩ := r1_5.form
  obtain ⟨A2, c2, rfl, -⟩ := r2.form
  refine ctr_ofn (args := [.pointer (some ⟨bm0, 0, none⟩), .agg #[.string p1.Name, .int .u8 p1.Type_.Kind.toNat, .int .i64 p1.Type_.N, .string p1.Type_.Name, .int .i64 p1.Words, (.slice A1_5 p1.Fields.length c1_5)], .slice A2 p2.length c2]) hm Try.func47 s47 rfl fun w0 σ hO Q hQ => ?_
  unfold zbg at hF
  have hL := Hp.le.refl τ
  show wpn _ _ a47.body _ _ _
  unfold a47
  dsimp only
  refine wpn_bx (n := 6) hO rfl rfl fun b4 σ hO => ?_
  have hO : Obs _ _ [_, _, _] := hO
  refine wpn_nil ?_
  refine wpn_q hO 3 [2] [(0, .pointer (some ⟨bm0, 0, none⟩)), (2, .slice A2 p2.length c2), (4, .pointer (some ⟨b4, 0, none⟩)), (8, .pointer (some ⟨bm0, 0, none⟩)), (10, .string p1.Name)] (And.intro (And.intro rfl rfl) (ar (ar (ar (ar (ar trivial)))))) fun j => ?_
  obtain ⟨c5, h6, hF⟩ := bind_some hF
  have hO := hO.sel [2, 0, 1] (by decide)
  refine wpn_c (hs := [_]) (vs := [_, _]) hO (zdB (q0 := (⟨q0.b⟩ : zm)) wm0_0 h6) rfl fun _ σ _ _ hO h7 h8 => ?_
  have hL := hL.trans h7
  have r2 := r2.le h7
  have r1_5 := r1_5.le h7
  obtain ⟨v9, o12, rfl, rfl, w13⟩ := h8
  obtain ⟨A10, c11, rfl, -⟩ := w13.form
  have hO : Obs _ _ [_, _, _] := hO
  refine wpn_nil ?_
  refine wpn_p2r ?_
  refine wpn_q hO 8 [1, 0] [(0, .pointer (some ⟨bm0, 0, none⟩)), (2, .slice A2 p2.length c2), (4, .pointer (some ⟨b4, 0, none⟩)), (12, .pointer (some ⟨bm0, 0, none⟩)), (15, .pointer (some ⟨bm0, 0, none⟩)), (16, .slice A10 c5.b.length c11), (19, .int .u8 (p1.Type_.Kind.toNat : Int))] (And.intro (And.intro rfl rfl) (And.intro (And.intro rfl rfl) (ar (ar (ar (ar (ar (ar (ar trivial))))))))) fun j => ?_
  refine wpn_late ?_
  refine wpn_lit (T := Ty.u8) (l := ([p1.Type_.Kind] : List UInt8)) (cs := [.int .u8 (p1.Type_.Kind.toNat : Int)]) hO rfl ⟨[.int .u8 (p1.Type_.Kind.toNat : Int)], _, rfl, rfl, rfl⟩ rfl (by decide) fun _ σ o16 w17 hO => ?_
  obtain ⟨A14, c15, rfl, -⟩ := w17.form
  have hO : Obs _ _ [_, _, _, _] := hO
  refine wpn_nil ?_
  refine wpn_ag ⟨(again_ld rfl (hO.val (i := 1) (off := 0) (agg := false) (n := 1) rfl rfl) rfl), trivial⟩ ?_
  obtain ⟨_, hr22, hF⟩ := bind_some hF
  refine wpn_apf (T := Ty.u8) u8_flat hO w13 (i := 2) rfl rfl rfl (w17.rd hO (i := 3) rfl) hr22 (by decide) fun _ σ o20 w21 hO => ?_
  obtain ⟨A18, c19, rfl, -⟩ := w21.form
  have hO : Obs _ _ [_, _, _, _] := hO
  refine wpn_q hO 2 [] [(0, .pointer (some ⟨bm0, 0, none⟩)), (2, .slice A2 p2.length c2), (4, .pointer (some ⟨b4, 0, none⟩)), (21, .slice A18 (c5.b ++ ([p1.Type_.Kind] : List UInt8)).length c19), (23, .pointer (some ⟨bm0, 0, none⟩))] (ar (ar (ar (ar (ar trivial))))) fun j => ?_
  refine wpn_st hO (i := 1) rfl (off := 0) rfl rfl rfl rfl (Nat.le_of_ble_eq_true rfl) rfl fun σ hO => ?_
  have hO : Obs _ _ [_, _, _, _] := hO
  refine wpn_nil ?_
  refine wpn_assoc ?_
  refine wpn_qa hO [0] [(0, .pointer (some ⟨bm0, 0, none⟩)), (2, .slice A2 p2.length c2), (4, .pointer (some ⟨b4, 0, none⟩)), (26, .int .u8 (p1.Type_.Kind.toNat : Int))] (And.intro (And.intro rfl rfl) (ar (ar (ar (ar trivial))))) fun j => ?_
  refine wpn_cutb (fun e' σ' => ∃ (A113 : Option Addr) (c114 : Nat) (o115 : Ob) (x116 : List UInt8) (τ' : Hp), agr [(0, .pointer (some ⟨bm0, 0, none⟩)), (2, .slice A2 p2.length c2)] e' ∧ Obs τ' σ' [some (bm0, ⟨[.slice A113 x116.length c114], 75, 1, true⟩), o115] ∧ Hp.le τ τ' ∧ OwnO Ty.u8 5 τ' (.slice A113 x116.length c114) x116 o115 ∧ RdT zk τ' (.slice A2 p2.length c2) p2 ∧ zV p2 x116 = some rr) ?_ ?_
  · refine wpn_qa hO [] [(0, .pointer (some ⟨bm0, 0, none⟩)), (2, .slice A2 p2.length c2), (4, .pointer (some ⟨b4, 0, none⟩)), (26, .int .u8 (p1.Type_.Kind.toNat : Int)), (27, .bool ((p1.Type_.Kind.toNat : Int) == 3))] (ar (ar (ar (ar (ar trivial))))) fun j => ?_
    refine wpn_clast ?_
    rcases ite_some hF with ⟨hb130, hF⟩ | ⟨hb130, hF⟩
    · refine wpn_cT (congrArg Value.bool hb130) ?_
      refine wpn_q hO 4 [0] [(0, .pointer (some ⟨bm0, 0, none⟩)), (2, .slice A2 p2.length c2), (29, .pointer (some ⟨bm0, 0, none⟩)), (32, .int .i64 p1.Type_.N)] (And.intro (And.intro rfl rfl) (ar (ar (ar (ar trivial))))) fun j => ?_
      obtain ⟨c131, h132, hF⟩ := bind_some hF
      have hO := hO.sel [0, 3, 1, 2] (by decide)
      refine wpn_c (hs := [_, _]) (vs := [_, _]) hO (zE (q0 := (⟨(c5.b ++ ([p1.Type_.Kind] : List UInt8))⟩ : zm)) w21 h132) rfl fun _ σ _ _ hO h133 h134 => ?_
      have hL := hL.trans h133
      have r2 := r2.le h133
      have r1_5 := r1_5.le h133
      obtain ⟨v135, o138, rfl, rfl, w139⟩ := h134
      obtain ⟨A136, c137, rfl, -⟩ := w139.form
      have hO : Obs _ _ [_, _, _, _] := hO
      refine wpn_nil ?_
      refine wpn_end ?_
      refine inb_i ?_
      refine thn_i ?_
      have hO := hO.sel [2, 3] (by decide)
      exact ⟨A136, c137, o138, c131.b, _, ar (ar trivial), hO, hL, w139, r2, hF⟩
    · refine wpn_cF (congrArg Value.bool hb130) ?_
      refine wpn_assoc ?_
      refine wpn_qa hO [] [(0, .pointer (some ⟨bm0, 0, none⟩)), (2, .slice A2 p2.length c2), (4, .pointer (some ⟨b4, 0, none⟩)), (34, .bool ((p1.Type_.Kind.toNat : Int) == 4))] (ar (ar (ar (ar trivial)))) fun j => ?_
      rcases ite_some hF with ⟨hb140, hF⟩ | ⟨hb140, hF⟩
      · refine wpn_cT (congrArg Value.bool hb140) ?_
        refine wpn_assoc ?_
        refine wpn_q hO 4 [0] [(0, .pointer (some ⟨bm0, 0, none⟩)), (2, .slice A2 p2.length c2), (4, .pointer (some ⟨b4, 0, none⟩)), (36, .pointer (some ⟨bm0, 0, none⟩)), (39, .string p1.Type_.Name)] (And.intro (And.intro rfl rfl) (ar (ar (ar (ar (ar trivial)))))) fun j => ?_
        obtain ⟨c141, h142, hF⟩ := bind_some hF
        have hO := hO.sel [0, 3, 1, 2] (by decide)
        refine wpn_c (hs := [_, _]) (vs := [_, _]) hO (zdB (q0 := (⟨(c5.b ++ ([p1.Type_.Kind] : List UInt8))⟩ : zm)) w21 h142) rfl fun _ σ _ _ hO h143 h144 => ?_
        have hL := hL.trans h143
        have r2 := r2.le h143
        have r1_5 := r1_5.le h143
        obtain ⟨v145, o148, rfl, rfl, w149⟩ := h144
        obtain ⟨A146, c147, rfl, -⟩ := w149.form
        have hO : Obs _ _ [_, _, _, _] := hO
        refine wpn_nil ?_
        refine wpn_assoc ?_
        refine wpn_q hO 4 [0] [(0, .pointer (some ⟨bm0, 0, none⟩)), (2, .slice A2 p2.length c2), (4, .pointer (some ⟨b4, 0, none⟩)), (41, .pointer (some ⟨bm0, 0, none⟩)), (44, .int .i64 (p1.Fields.length : Int))] (And.intro (And.intro rfl rfl) (ar (ar (ar (ar (ar trivial)))))) fun j => ?_
        obtain ⟨c150, h151, hF⟩ := bind_some hF
        refine wpn_c (hs := [_, _]) (vs := [_, _]) hO (zE (q0 := (⟨c141.b⟩ : zm)) w149 h151) rfl fun _ σ _ _ hO h152 h153 => ?_
        have hL := hL.trans h152
        have r2 := r2.le h152
        have r1_5 := r1_5.le h152
        obtain ⟨v154, o157, rfl, rfl, w158⟩ := h153
        obtain ⟨A155, c156, rfl, -⟩ := w158.form
        have hO : Obs _ _ [_, _, _, _] := hO
        refine wpn_nil ?_
        refine wpn_assoc ?_
        refine wpn_qa hO [0] [(0, .pointer (some ⟨bm0, 0, none⟩)), (2, .slice A2 p2.length c2), (47, .slice A1_5 p1.Fields.length c1_5), (48, .int .i64 (p1.Fields.length : Int)), (49, .int .i64 0)] (And.intro (And.intro rfl rfl) (ar (ar (ar (ar (ar trivial)))))) fun j => ?_
        refine wpn_bl ?_
        have hO := hO.sel [2, 3] (by decide)
        refine wpn_lp (fun (n : Nat) e' σ' => ∃ (A181 : Option Addr) (c182 : Nat) (o183 : Ob) (x184 : List UInt8) (x188 : Int) (τ' : Hp), agr [(0, .pointer (some ⟨bm0, 0, none⟩)), (2, .slice A2 p2.length c2), (47, .slice A1_5 p1.Fields.length c1_5), (48, .int .i64 (p1.Fields.length : Int)), (49, .int .i64 x188)] e' ∧ Obs τ' σ' [some (bm0, ⟨[.slice A181 x184.length c182], 75, 1, true⟩), o183] ∧ Hp.le τ τ' ∧ OwnO Ty.u8 5 τ' (.slice A181 x184.length c182) x184 o183 ∧ RdT zk τ' (.slice A2 p2.length c2) p2 ∧ RdT Ty.str τ' (.slice A1_5 p1.Fields.length c1_5) p1.Fields ∧ zca p1 p2 n x184 x188 = some rr) big ⟨A155, c156, o157, c150.b, 0, _, ar (ar (ar (ar (ar trivial)))), hO, hL, w158, r2, r1_5, hF⟩ ?_
        clear hF hO hL
        rintro n204 e σ ⟨A181, c182, o183, x184, x188, _, hA, hO, hL, w185, r186, r187, hF⟩
        rw [← sets_agr _ _ hA]
        cases n204 with
        | zero => exact nomatch (show none = some rr from hF)
        | succ n204 =>
          replace hF : zcd (zca p1 p2 n204) p1 p2 x184 x188 = some rr := hF
          unfold zcd at hF
          refine wpn_qa hO [] [(0, .pointer (some ⟨bm0, 0, none⟩)), (2, .slice A2 p2.length c2), (47, .slice A1_5 p1.Fields.length c1_5), (48, .int .i64 (p1.Fields.length : Int)), (49, .int .i64 x188), (50, .bool (decide (x188 < (p1.Fields.length : Int))))] (ar (ar (ar (ar (ar (ar trivial)))))) fun j => ?_
          rcases ite_some hF with ⟨hb205, hF⟩ | ⟨hb205, hF⟩
          · refine wpn_cT (congrArg Value.bool hb205) ?_
            refine wpn_sk ?_
            refine wpn_bl ?_
            obtain ⟨y206, g207, hF⟩ := bind_some hF
            refine wpn_idx (T := Ty.str) r187 hO.base rfl rfl g207 (by decide) fun a208 _ k209 m210 => ?_
            obtain rfl : _ = ([.string y206] : List Value) := k209
            refine wpn_ld rfl (m210.le hO.base).fst ?_
            refine wpn_qa hO [] [(0, .pointer (some ⟨bm0, 0, none⟩)), (2, .slice A2 p2.length c2), (7, .string y206), (47, .slice A1_5 p1.Fields.length c1_5), (48, .int .i64 (p1.Fields.length : Int)), (49, .int .i64 x188)] (ar (ar (ar (ar (ar (ar trivial)))))) fun j => ?_
            refine wpn_rlast ?_
            refine wpn_q hO 2 [] [(0, .pointer (some ⟨bm0, 0, none⟩)), (2, .slice A2 p2.length c2), (47, .slice A1_5 p1.Fields.length c1_5), (48, .int .i64 (p1.Fields.length : Int)), (49, .int .i64 x188), (53, .pointer (some ⟨bm0, 0, none⟩)), (54, .string y206)] (ar (ar (ar (ar (ar (ar (ar trivial))))))) fun j => ?_
            obtain ⟨c211, h212, hF⟩ := bind_some hF
            refine wpn_c (hs := []) (vs := [_, _]) hO (zdB (q0 := (⟨x184⟩ : zm)) w185 h212) rfl fun _ σ _ _ hO h213 h214 => ?_
            have hL := hL.trans h213
            have r186 := r186.le h213
            have r187 := r187.le h213
            obtain ⟨v215, o218, rfl, rfl, w219⟩ := h214
            obtain ⟨A216, c217, rfl, -⟩ := w219.form
            have hO : Obs _ _ [_, _] := hO
            refine wpn_nil ?_
            refine wpn_end ?_
            refine inb_i ?_
            refine thn_i ?_
            refine wpn_rlast ?_
            refine wpn_qa hO [] [(0, .pointer (some ⟨bm0, 0, none⟩)), (2, .slice A2 p2.length c2), (47, .slice A1_5 p1.Fields.length c1_5), (48, .int .i64 (p1.Fields.length : Int)), (49, .int .i64 (IntKind.i64.wrap (x188 + 1)))] (ar (ar (ar (ar (ar trivial))))) fun j => ?_
            refine wpn_end ?_
            refine thn_i ?_
            exact ⟨n204, Nat.lt_succ_self _, A216, c217, o218, c211.b, (IntKind.i64.wrap (x188 + 1)), _, ar (ar (ar (ar (ar trivial)))), hO, hL, w219, r186, r187, hF⟩
          · refine wpn_cF (congrArg Value.bool hb205) ?_
            refine wpn_ex ?_
            refine thn_x ?_
            refine inb_x ?_
            refine thn_i ?_
            refine wpn_end ?_
            refine inb_i ?_
            refine thn_i ?_
            exact ⟨A181, c182, o183, x184, _, ar (ar trivial), hO, hL, w185, r186, hF⟩
      · refine wpn_cF (congrArg Value.bool hb140) ?_
        refine wpn_sk ?_
        refine wpn_end ?_
        refine inb_i ?_
        refine thn_i ?_
        have hO := hO.sel [1, 2] (by decide)
        exact ⟨A18, c19, o20, (c5.b ++ ([p1.Type_.Kind] : List UInt8)), _, ar (ar trivial), hO, hL, w21, r2, hF⟩
  · rintro e σ ⟨A113, c114, o115, x116, _, hA, hO, hL, w117, r118, hF⟩
    rw [← sets_agr _ _ hA]
    unfold zV at hF
    refine wpn_rlast ?_
    refine wpn_q hO 6 [0] [(0, .pointer (some ⟨bm0, 0, none⟩)), (58, .pointer (some ⟨bm0, 0, none⟩)), (62, .slice A113 x116.length c114), (63, .slice A2 p2.length c2)] (And.intro (And.intro rfl rfl) (ar (ar (ar (ar trivial))))) fun j => ?_
    obtain ⟨_, h120, r119, hO⟩ := w117.share hO (i := 1) rfl
    have hL := hL.trans h120
    have r118 := r118.le h120
    have hO : Obs _ _ [_, _] := hO
    obtain ⟨c121, h122, hF⟩ := bind_some hF
    refine wpn_c0 hO (zeo r119 r118 h122) rfl fun _ σ _ _ hO h123 h124 => ?_
    have hL := hL.trans h123
    have r119 := r119.le h123
    have r118 := r118.le h123
    obtain ⟨v125, o128, rfl, rfl, w129⟩ := h124
    obtain ⟨A126, c127, rfl, -⟩ := w129.form
    have hO : Obs _ _ [_, _, _] := hO
    refine wpn_q hO 5 [] [(0, .pointer (some ⟨bm0, 0, none⟩)), (65, .slice A126 c121.1.length c127), (68, .pointer (some ⟨bm0, 0, none⟩))] (ar (ar (ar trivial))) fun j => ?_
    refine wpn_st hO (i := 0) rfl (off := 0) rfl rfl rfl rfl (Nat.le_of_ble_eq_true rfl) rfl fun σ hO => ?_
    have hO : Obs _ _ [_, _, _] := hO
    refine wpn_nil ?_
    refine wpn_end ?_
    injection hF with hF
    subst hF
    have hO := hO.sel [0, 2] (by decide)
    exact (hQ _ _ _ _ _ rfl hO hL ⟨_, _, rfl, rfl, w129⟩).2
theorem zfo {τ : Hp} {q0 : zm} {bm0 : Nat} {vm0_0 : Value} {om0_0 : Ob} {p1 : zc} {v1_3 : Value} {v1_4 : Value} {p2 : Int} (wm0_0 : OwnO Ty.u8 5 τ vm0_0 q0.b om0_0) (r1_3 : RdT zn τ v1_3 p1.Vars) (r1_4 : RdT (Ty.slice zk) τ v1_4 p1.Spans) {rr : zm} (hF : zbj q0 p1 p2 = some rr) :
    Ctr Try.prog 27 #[.pointer (some ⟨bm0, 0, none⟩), .agg #[.string p1.Name, .int .i64 p1.From, .int .i64 p1.To, v1_3, v1_4], .int .i64 p2] τ [some (bm0, ⟨[vm0_0], 75, 1, true⟩), om0_0] (fun v τ' vs' => ∃ (u0_0 : Value) (y0_0 : Ob), v = .tuple #[] ∧ vs' = [some (bm0, ⟨[u0_0], 75, 1, true⟩), y0_0] ∧ OwnO Ty.u8 5 τ' u0_0 rr.b y0_0) := by
  obtain ⟨Am0_0, cm0_0, rfl, -⟩ := wm0_0.form
  obtain ⟨A1_3, c1_3, rfl, -⟩ := r1_3.form
  obtain ⟨A1_4, c1_4, rfl, -⟩ := r1_4.form
  refine ctr_ofn (args := [.pointer (some ⟨bm0, 0, none⟩), .agg #[.string p1.Name, .int .i64 p1.From, .int .i64 p1.To, (.slice A1_3 p1.Vars.length c1_3), (.slice A1_4 p1.Spans.length c1_4)], .int .i64 p2]) hm Try.func27 s27 rfl fun w0 σ hO Q hQ => ?_
  unfold zbj at hF
  have hL := Hp.le.refl τ
  show wpn _ _ a27.body _ _ _
  unfold a27
  dsimp only
  refine wpn_bx (n := 5) hO rfl rfl fun b4 σ hO => ?_
  have hO : Obs _ _ [_, _, _] := hO
  refine wpn_nil ?_
  refine wpn_q hO 3 [2] [(0, .pointer (some ⟨bm0, 0, none⟩)), (2, .int .i64 p2), (4, .pointer (some ⟨b4, 0, none⟩)), (8, .pointer (some ⟨bm0, 0, none⟩)), (10, .string p1.Name)] (And.intro (And.intro rfl rfl) (ar (ar (ar (ar (ar trivial)))))) fun j => ?_
  obtain ⟨c5, h6, hF⟩ := bind_some hF
  have hO := hO.sel [2, 0, 1] (by decide)
  refine wpn_c (hs := [_]) (vs := [_, _]) hO (zdB (q0 := (⟨q0.b⟩ : zm)) wm0_0 h6) rfl fun _ σ _ _ hO h7 h8 => ?_
  have hL := hL.trans h7
  have r1_3 := r1_3.le h7
  have r1_4 := r1_4.le h7
  obtain ⟨v9, o12, rfl, rfl, w13⟩ := h8
  obtain ⟨A10, c11, rfl, -⟩ := w13.form
  have hO : Obs _ _ [_, _, _] := hO
  refine wpn_nil ?_
  refine wpn_q hO 5 [0] [(0, .pointer (some ⟨bm0, 0, none⟩)), (4, .pointer (some ⟨b4, 0, none⟩)), (12, .pointer (some ⟨bm0, 0, none⟩)), (16, .int .i64 (IntKind.i64.wrap (p1.From - p2)))] (And.intro (And.intro rfl rfl) (ar (ar (ar (ar trivial))))) fun j => ?_
  obtain ⟨c14, h15, hF⟩ := bind_some hF
  refine wpn_c (hs := [_]) (vs := [_, _]) hO (zE (q0 := (⟨c5.b⟩ : zm)) w13 h15) rfl fun _ σ _ _ hO h16 h17 => ?_
  have hL := hL.trans h16
  have r1_3 := r1_3.le h16
  have r1_4 := r1_4.le h16
  obtain ⟨v18, o21, rfl, rfl, w22⟩ := h17
  obtain ⟨A19, c20, rfl, -⟩ := w22.form
  have hO : Obs _ _ [_, _, _] := hO
  refine wpn_nil ?_
  refine wpn_q hO 6 [0, 0] [(0, .pointer (some ⟨bm0, 0, none⟩)), (4, .pointer (some ⟨b4, 0, none⟩)), (18, .pointer (some ⟨bm0, 0, none⟩)), (23, .int .i64 (IntKind.i64.wrap (p1.To - p1.From)))] (And.intro (And.intro rfl rfl) (And.intro (And.intro rfl rfl) (ar (ar (ar (ar trivial)))))) fun j => ?_
  obtain ⟨c23, h24, hF⟩ := bind_some hF
  refine wpn_c (hs := [_]) (vs := [_, _]) hO (zE (q0 := (⟨c14.b⟩ : zm)) w22 h24) rfl fun _ σ _ _ hO h25 h26 => ?_
  have hL := hL.trans h25
  have r1_3 := r1_3.le h25
  have r1_4 := r1_4.le h25
  obtain ⟨v27, o30, rfl, rfl, w31⟩ := h26
  obtain ⟨A28, c29, rfl, -⟩ := w31.form
  have hO : Obs _ _ [_, _, _] := hO
  refine wpn_nil ?_
  refine wpn_q hO 4 [0] [(0, .pointer (some ⟨bm0, 0, none⟩)), (4, .pointer (some ⟨b4, 0, none⟩)), (25, .pointer (some ⟨bm0, 0, none⟩)), (28, .int .i64 (p1.Vars.length : Int))] (And.intro (And.intro rfl rfl) (ar (ar (ar (ar trivial))))) fun j => ?_
  obtain ⟨c32, h33, hF⟩ := bind_some hF
  refine wpn_c (hs := [_]) (vs := [_, _]) hO (zE (q0 := (⟨c23.b⟩ : zm)) w31 h33) rfl fun _ σ _ _ hO h34 h35 => ?_
  have hL := hL.trans h34
  have r1_3 := r1_3.le h34
  have r1_4 := r1_4.le h34
  obtain ⟨v36, o39, rfl, rfl, w40⟩ := h35
  obtain ⟨A37, c38, rfl, -⟩ := w40.form
  have hO : Obs _ _ [_, _, _] := hO
  refine wpn_nil ?_
  refine wpn_qa hO [0] [(0, .pointer (some ⟨bm0, 0, none⟩)), (4, .pointer (some ⟨b4, 0, none⟩)), (31, .slice A1_3 p1.Vars.length c1_3), (32, .int .i64 (p1.Vars.length : Int)), (33, .int .i64 0)] (And.intro (And.intro rfl rfl) (ar (ar (ar (ar (ar trivial)))))) fun j => ?_
  refine wpn_blast ?_
  refine wpn_bl ?_
  have hO := hO.sel [1, 2, 0] (by decide)
  refine wpn_lp (fun (n : Nat) e' σ' => ∃ (A78 : Option Addr) (c79 : Nat) (o80 : Ob) (x81 : List UInt8) (x86 : Int) (τ' : Hp), agr [(0, .pointer (some ⟨bm0, 0, none⟩)), (4, .pointer (some ⟨b4, 0, none⟩)), (31, .slice A1_3 p1.Vars.length c1_3), (32, .int .i64 (p1.Vars.length : Int)), (33, .int .i64 x86)] e' ∧ Obs τ' σ' [some (bm0, ⟨[.slice A78 x81.length c79], 75, 1, true⟩), o80, some (b4, ⟨[.string p1.Name, .int .i64 p1.From, .int .i64 p1.To, .slice A1_3 p1.Vars.length c1_3, .slice A1_4 p1.Spans.length c1_4], 50, 5, true⟩)] ∧ Hp.le τ τ' ∧ OwnO Ty.u8 5 τ' (.slice A78 x81.length c79) x81 o80 ∧ RdT zn τ' (.slice A1_3 p1.Vars.length c1_3) p1.Vars ∧ RdT (Ty.slice zk) τ' (.slice A1_4 p1.Spans.length c1_4) p1.Spans ∧ RdT zn τ' (.slice A1_3 p1.Vars.length c1_3) p1.Vars ∧ zcC p1 n x81 x86 = some rr) big ⟨A37, c38, o39, c32.b, 0, _, ar (ar (ar (ar (ar trivial)))), hO, hL, w40, r1_3, r1_4, r1_3, hF⟩ ?_
  clear hF hO hL
  rintro n116 e σ ⟨A78, c79, o80, x81, x86, _, hA, hO, hL, w82, r83, r84, r85, hF⟩
  rw [← sets_agr _ _ hA]
  cases n116 with
  | zero => exact nomatch (show none = some rr from hF)
  | succ n116 =>
    replace hF : zc7 (zcC p1 n116) p1 x81 x86 = some rr := hF
    unfold zc7 at hF
    refine wpn_qa hO [] [(0, .pointer (some ⟨bm0, 0, none⟩)), (4, .pointer (some ⟨b4, 0, none⟩)), (31, .slice A1_3 p1.Vars.length c1_3), (32, .int .i64 (p1.Vars.length : Int)), (33, .int .i64 x86), (34, .bool (decide (x86 < (p1.Vars.length : Int))))] (ar (ar (ar (ar (ar (ar trivial)))))) fun j => ?_
    rcases ite_some hF with ⟨hb117, hF⟩ | ⟨hb117, hF⟩
    · refine wpn_cT (congrArg Value.bool hb117) ?_
      refine wpn_sk ?_
      refine wpn_bl ?_
      refine wpn_q hO 1 [] [(0, .pointer (some ⟨bm0, 0, none⟩)), (4, .pointer (some ⟨b4, 0, none⟩)), (31, .slice A1_3 p1.Vars.length c1_3), (32, .int .i64 (p1.Vars.length : Int)), (33, .int .i64 x86), (35, .int .i64 x86)] (ar (ar (ar (ar (ar (ar trivial)))))) fun j => ?_
      obtain ⟨y118, g119, hF⟩ := bind_some hF
      refine wpn_idx (T := zn) r85 hO.base rfl rfl g119 (by decide) fun a120 _ k121 m122 => ?_
      obtain ⟨v123, rfl, r124⟩ := k121
      obtain ⟨A125, c126, rfl, -⟩ := r124.form
      refine wpn_ld rfl ((m122.le hO.base).all rfl) ?_
      refine wpn_al hO fun b127 σ hO => ?_
      have hO : Obs _ _ [_, _, _, _] := hO
      refine wpn_q hO 1 [] [(0, .pointer (some ⟨bm0, 0, none⟩)), (4, .pointer (some ⟨b4, 0, none⟩)), (6, .int .i64 x86), (7, .pointer (some ⟨b127, 0, none⟩)), (31, .slice A1_3 p1.Vars.length c1_3), (32, .int .i64 (p1.Vars.length : Int)), (33, .int .i64 x86), (37, .agg #[(.string y118.Name), (.int .u8 (y118.Type_.Kind.toNat : Int)), (.int .i64 y118.Type_.N), (.string y118.Type_.Name), (.int .i64 y118.Words), (.slice A125 y118.Fields.length c126)])] (ar (ar (ar (ar (ar (ar (ar (ar trivial)))))))) fun j => ?_
      refine wpn_st hO (i := 3) rfl (off := 0) rfl rfl rfl rfl (Nat.le_of_ble_eq_true rfl) rfl fun σ hO => ?_
      have hO : Obs _ _ [_, _, _, _] := hO
      refine wpn_nil ?_
      refine wpn_plast ?_
      refine wpn_q hO 5 [3, 2] [(0, .pointer (some ⟨bm0, 0, none⟩)), (4, .pointer (some ⟨b4, 0, none⟩)), (31, .slice A1_3 p1.Vars.length c1_3), (32, .int .i64 (p1.Vars.length : Int)), (33, .int .i64 x86), (38, .pointer (some ⟨bm0, 0, none⟩)), (39, .agg #[(.string y118.Name), (.int .u8 (y118.Type_.Kind.toNat : Int)), (.int .i64 y118.Type_.N), (.string y118.Type_.Name), (.int .i64 y118.Words), (.slice A125 y118.Fields.length c126)]), (41, .slice A1_4 p1.Spans.length c1_4), (42, .int .i64 x86)] (And.intro (And.intro rfl rfl) (And.intro (And.intro rfl rfl) (ar (ar (ar (ar (ar (ar (ar (ar (ar trivial))))))))))) fun j => ?_
      obtain ⟨y128, g129, hF⟩ := bind_some hF
      refine wpn_idx (T := (Ty.slice zk)) r84 hO.base rfl rfl g129 (by decide) fun a130 _ k131 m132 => ?_
      obtain ⟨v133, rfl, r134⟩ := k131
      obtain ⟨A135, c136, rfl, -⟩ := r134.form
      refine wpn_ld rfl (m132.le hO.base).fst ?_
      obtain ⟨c137, h138, hF⟩ := bind_some hF
      have hO := hO.sel [2, 3, 0, 1] (by decide)
      refine wpn_c (hs := [_, _]) (vs := [_, _]) hO (ze6 (q0 := (⟨x81⟩ : zm)) (p1 := (⟨y118.Name, (⟨y118.Type_.Kind, y118.Type_.N, y118.Type_.Name⟩ : zp), y118.Words, y118.Fields⟩ : zh)) w82 r124 r134 h138) rfl fun _ σ _ _ hO h139 h140 => ?_
      have hL := hL.trans h139
      have r85 := r85.le h139
      have r124 := r124.le h139
      have r84 := r84.le h139
      have m132 := m132.le h139
      have r134 := r134.le h139
      have r83 := r83.le h139
      obtain ⟨v141, o144, rfl, rfl, w145⟩ := h140
      obtain ⟨A142, c143, rfl, -⟩ := w145.form
      have hO : Obs _ _ [_, _, _, _] := hO
      refine wpn_nil ?_
      refine wpn_end ?_
      refine inb_i ?_
      refine thn_i ?_
      refine wpn_rlast ?_
      refine wpn_qa hO [] [(0, .pointer (some ⟨bm0, 0, none⟩)), (4, .pointer (some ⟨b4, 0, none⟩)), (31, .slice A1_3 p1.Vars.length c1_3), (32, .int .i64 (p1.Vars.length : Int)), (33, .int .i64 (IntKind.i64.wrap (x86 + 1)))] (ar (ar (ar (ar (ar trivial))))) fun j => ?_
      refine wpn_end ?_
      refine thn_i ?_
      have hO := hO.sel [2, 3, 0] (by decide)
      exact ⟨n116, Nat.lt_succ_self _, A142, c143, o144, c137.b, (IntKind.i64.wrap (x86 + 1)), _, ar (ar (ar (ar (ar trivial)))), hO, hL, w145, r83, r84, r85, hF⟩
    · refine wpn_cF (congrArg Value.bool hb117) ?_
      refine wpn_ex ?_
      refine thn_x ?_
      refine inb_x ?_
      refine thn_i ?_
      refine wpn_end ?_
      injection hF with hF
      subst hF
      have hO := hO.sel [0, 1] (by decide)
      exact (hQ _ _ _ _ _ rfl hO hL ⟨_, _, rfl, rfl, w82⟩).2
theorem zdK {τ : Hp} {v0 : Value} {p0 : (List UInt8)} {v1 : Value} {p1 : (List zc)} {v2 : Value} {p2 : (List zi)} (r0 : RdT Ty.u8 τ v0 p0) (r1 : RdT zj τ v1 p1) (r2 : RdT zl τ v2 p2) {rr : (List UInt8) × Int} (hF : zT p0 p1 p2 = some rr) :
    Ctr Try.prog 16 #[v0, v1, v2] τ [] (fun v τ' vs' => ∃ (v0 : Value) (o0 : Ob), v = .tuple #[v0, .int .i64 rr.2] ∧ vs' = [o0] ∧ OwnO Ty.u8 5 τ' v0 rr.1 o0) := by
  obtain ⟨A0, c0, rfl, -⟩ := r0.form
  obtain ⟨A1, c1, rfl, -⟩ := r1.form
  obtain ⟨A2, c2, rfl, -⟩ := r2.form
  refine ctr_of (args := [.slice A0 p0.length c0, .slice A1 p1.length c1, .slice A2 p2.length c2]) hm Try.func16 s16 rfl fun w0 σ hO Q hQ => ?_
  unfold zT at hF
  have hL := Hp.le.refl τ
  show wpn _ _ a16.body _ _ _
  unfold a16
  dsimp only
  refine wpn_qa hO [] [(0, .slice A0 p0.length c0), (1, .slice A1 p1.length c1), (2, .slice A2 p2.length c2)] (ar (ar (ar trivial))) fun j => ?_
  refine wpn_assoc ?_
  refine wpn_q hO 2 [] [(0, .slice A0 p0.length c0), (1, .slice A1 p1.length c1), (2, .slice A2 p2.length c2), (16, .slice A1 p1.length c1), (17, .slice A2 p2.length c2)] (ar (ar (ar (ar (ar trivial))))) fun j => ?_
  obtain ⟨c4, h5, hF⟩ := bind_some hF
  refine wpn_c0 hO (zdv r1 r2 h5) rfl fun _ σ _ _ hO h6 h7 => ?_
  have hL := hL.trans h6
  have r0 := r0.le h6
  have r1 := r1.le h6
  have r2 := r2.le h6
  obtain ⟨rfl, rfl⟩ := h7
  have hO : Obs _ _ [] := hO
  refine wpn_qa hO [] [(0, .slice A0 p0.length c0), (1, .slice A1 p1.length c1), (2, .slice A2 p2.length c2), (19, .bool (!c4))] (ar (ar (ar (ar trivial)))) fun j => ?_
  rcases ite_some hF with ⟨hb8, hF⟩ | ⟨hb8, hF⟩
  · refine wpn_cT (congrArg Value.bool hb8) ?_
    refine wpn_assoc ?_
    refine wpn_qa hO [] [(6, .slice none 0 0), (7, .int .i64 1)] (ar (ar trivial)) fun j => ?_
    refine wpn_rt ?_
    have hO := hO.no
    have hO : Obs _ _ [_] := hO
    injection hF with hF
    subst hF
    exact hQ _ _ _ _ _ rfl hO hL ⟨_, _, rfl, rfl, (OwnO.nil _ _ _)⟩
  · refine wpn_cF (congrArg Value.bool hb8) ?_
    refine wpn_sk ?_
    refine wpn_q hO 4 [] [(1, .slice A1 p1.length c1), (2, .slice A2 p2.length c2), (20, .slice A0 p0.length c0), (23, .int .u64 (IntKind.u64.wrap (p1.length : Int)))] (ar (ar (ar (ar trivial)))) fun j => ?_
    obtain ⟨c9, h10, hF⟩ := bind_some hF
    refine wpn_c0 hO (zY r0 h10) rfl fun _ σ _ _ hO h11 h12 => ?_
    have hL := hL.trans h11
    have r1 := r1.le h11
    have r2 := r2.le h11
    have r0 := r0.le h11
    obtain ⟨v13, o16, rfl, rfl, w17⟩ := h12
    obtain ⟨A14, c15, rfl, -⟩ := w17.form
    have hO : Obs _ _ [_] := hO
    refine wpn_q hO 1 [] [(1, .slice A1 p1.length c1), (2, .slice A2 p2.length c2), (25, .agg #[(.slice A14 c9.length c15)])] (ar (ar (ar trivial))) fun j => ?_
    refine wpn_bx (n := 1) hO rfl rfl fun b18 σ hO => ?_
    have hO : Obs _ _ [_, _] := hO
    refine wpn_qa hO [] [(1, .slice A1 p1.length c1), (2, .slice A2 p2.length c2), (8, .pointer (some ⟨b18, 0, none⟩))] (ar (ar (ar trivial))) fun j => ?_
    refine wpn_qa hO [] [(1, .slice A1 p1.length c1), (2, .slice A2 p2.length c2), (8, .pointer (some ⟨b18, 0, none⟩)), (9, .int .i64 0)] (ar (ar (ar (ar trivial)))) fun j => ?_
    refine wpn_assoc ?_
    refine wpn_qa hO [] [(2, .slice A2 p2.length c2), (8, .pointer (some ⟨b18, 0, none⟩)), (9, .int .i64 0), (27, .slice A1 p1.length c1), (28, .int .i64 (p1.length : Int)), (29, .int .i64 0)] (ar (ar (ar (ar (ar (ar trivial)))))) fun j => ?_
    refine wpn_bl ?_
    have hO := hO.sel [1, 0] (by decide)
    refine wpn_lp (fun (n : Nat) e' σ' => ∃ (A371 : Option Addr) (c372 : Nat) (o373 : Ob) (x374 : List UInt8) (x376 : Int) (x378 : Int) (τ' : Hp), agr [(2, .slice A2 p2.length c2), (8, .pointer (some ⟨b18, 0, none⟩)), (9, .int .i64 x376), (27, .slice A1 p1.length c1), (28, .int .i64 (p1.length : Int)), (29, .int .i64 x378)] e' ∧ Obs τ' σ' [some (b18, ⟨[.slice A371 x374.length c372], 75, 1, true⟩), o373] ∧ Hp.le τ τ' ∧ RdT zl τ' (.slice A2 p2.length c2) p2 ∧ OwnO Ty.u8 5 τ' (.slice A371 x374.length c372) x374 o373 ∧ RdT zj τ' (.slice A1 p1.length c1) p1 ∧ zcb p1 p2 n x374 x376 x378 = some rr) big ⟨A14, c15, o16, c9, 0, 0, _, ar (ar (ar (ar (ar (ar trivial))))), hO, hL, r2, w17, r1, hF⟩ ?_
    clear hF hO hL
    rintro n723 e σ ⟨A371, c372, o373, x374, x376, x378, _, hA, hO, hL, r370, w375, r377, hF⟩
    rw [← sets_agr _ _ hA]
    cases n723 with
    | zero => exact nomatch (show none = some rr from hF)
    | succ n723 =>
      replace hF : zbJ (zcb p1 p2 n723) p1 p2 x374 x376 x378 = some rr := hF
      unfold zbJ at hF
      refine wpn_qa hO [] [(2, .slice A2 p2.length c2), (8, .pointer (some ⟨b18, 0, none⟩)), (9, .int .i64 x376), (27, .slice A1 p1.length c1), (28, .int .i64 (p1.length : Int)), (29, .int .i64 x378), (30, .bool (decide (x378 < (p1.length : Int))))] (ar (ar (ar (ar (ar (ar (ar trivial))))))) fun j => ?_
      rcases ite_some hF with ⟨hb724, hF⟩ | ⟨hb724, hF⟩
      · refine wpn_cT (congrArg Value.bool hb724) ?_
        refine wpn_sk ?_
        refine wpn_bl ?_
        obtain ⟨y725, g726, hF⟩ := bind_some hF
        refine wpn_idx (T := zj) r377 hO.base rfl rfl g726 (by decide) fun a727 _ k728 m729 => ?_
        obtain ⟨v730, v734, rfl, r731, r735⟩ := k728
        obtain ⟨A732, c733, rfl, -⟩ := r731.form
        obtain ⟨A736, c737, rfl, -⟩ := r735.form
        refine wpn_ld rfl ((m729.le hO.base).all rfl) ?_
        refine wpn_al hO fun b738 σ hO => ?_
        have hO : Obs _ _ [_, _, _] := hO
        refine wpn_st hO (i := 2) rfl (off := 0) rfl rfl rfl rfl (Nat.le_of_ble_eq_true rfl) rfl fun σ hO => ?_
        have hO : Obs _ _ [_, _, _] := hO
        refine wpn_nil ?_
        refine wpn_q hO 3 [2] [(2, .slice A2 p2.length c2), (8, .pointer (some ⟨b18, 0, none⟩)), (11, .pointer (some ⟨b738, 0, none⟩)), (27, .slice A1 p1.length c1), (28, .int .i64 (p1.length : Int)), (29, .int .i64 x378), (33, .pointer (some ⟨b18, 0, none⟩)), (34, .agg #[(.string y725.Name), (.int .i64 y725.From), (.int .i64 y725.To), (.slice A732 y725.Vars.length c733), (.slice A736 y725.Spans.length c737)]), (35, .int .i64 x376)] (And.intro (And.intro rfl rfl) (ar (ar (ar (ar (ar (ar (ar (ar (ar trivial)))))))))) fun j => ?_
        obtain ⟨c739, h740, hF⟩ := bind_some hF
        have hO := hO.sel [2, 0, 1] (by decide)
        refine wpn_c (hs := [_]) (vs := [_, _]) hO (zfo (q0 := (⟨x374⟩ : zm)) (p1 := (⟨y725.Name, y725.From, y725.To, y725.Vars, y725.Spans⟩ : zc)) w375 r731 r735 h740) rfl fun _ σ _ _ hO h741 h742 => ?_
        have hL := hL.trans h741
        have r370 := r370.le h741
        have r377 := r377.le h741
        have r731 := r731.le h741
        have r735 := r735.le h741
        obtain ⟨v743, o746, rfl, rfl, w747⟩ := h742
        obtain ⟨A744, c745, rfl, -⟩ := w747.form
        have hO : Obs _ _ [_, _, _] := hO
        refine wpn_nil ?_
        refine wpn_rlast ?_
        refine wpn_qa hO [0] [(2, .slice A2 p2.length c2), (8, .pointer (some ⟨b18, 0, none⟩)), (9, .int .i64 y725.To), (27, .slice A1 p1.length c1), (28, .int .i64 (p1.length : Int)), (29, .int .i64 x378)] (And.intro (And.intro rfl rfl) (ar (ar (ar (ar (ar (ar trivial))))))) fun j => ?_
        refine wpn_end ?_
        refine inb_i ?_
        refine thn_i ?_
        refine wpn_rlast ?_
        refine wpn_qa hO [] [(2, .slice A2 p2.length c2), (8, .pointer (some ⟨b18, 0, none⟩)), (9, .int .i64 y725.To), (27, .slice A1 p1.length c1), (28, .int .i64 (p1.length : Int)), (29, .int .i64 (IntKind.i64.wrap (x378 + 1)))] (ar (ar (ar (ar (ar (ar trivial)))))) fun j => ?_
        refine wpn_end ?_
        refine thn_i ?_
        have hO := hO.sel [1, 2] (by decide)
        exact ⟨n723, Nat.lt_succ_self _, A744, c745, o746, c739.b, y725.To, (IntKind.i64.wrap (x378 + 1)), _, ar (ar (ar (ar (ar (ar trivial))))), hO, hL, r370, w747, r377, hF⟩
      · refine wpn_cF (congrArg Value.bool hb724) ?_
        refine wpn_ex ?_
        refine thn_x ?_
        refine inb_x ?_
        refine thn_i ?_
        refine wpn_q hO 3 [] [(2, .slice A2 p2.length c2), (8, .pointer (some ⟨b18, 0, none⟩)), (40, .pointer (some ⟨b18, 0, none⟩)), (42, .int .i64 (p2.length : Int))] (ar (ar (ar (ar trivial)))) fun j => ?_
        obtain ⟨c748, h749, hF⟩ := bind_some hF
        refine wpn_c (hs := []) (vs := [_, _]) hO (zE (q0 := (⟨x374⟩ : zm)) w375 h749) rfl fun _ σ _ _ hO h750 h751 => ?_
        have hL := hL.trans h750
        have r370 := r370.le h750
        obtain ⟨v752, o755, rfl, rfl, w756⟩ := h751
        obtain ⟨A753, c754, rfl, -⟩ := w756.form
        have hO : Obs _ _ [_, _] := hO
        refine wpn_nil ?_
        refine wpn_assoc ?_
        refine wpn_qa hO [] [(8, .pointer (some ⟨b18, 0, none⟩)), (44, .slice A2 p2.length c2), (45, .int .i64 (p2.length : Int)), (46, .int .i64 0)] (ar (ar (ar (ar trivial)))) fun j => ?_
        refine wpn_bl ?_
        refine wpn_lp (fun (n : Nat) e' σ' => ∃ (A862 : Option Addr) (c863 : Nat) (o864 : Ob) (x865 : List UInt8) (x868 : Int) (τ' : Hp), agr [(8, .pointer (some ⟨b18, 0, none⟩)), (44, .slice A2 p2.length c2), (45, .int .i64 (p2.length : Int)), (46, .int .i64 x868)] e' ∧ Obs τ' σ' [some (b18, ⟨[.slice A862 x865.length c863], 75, 1, true⟩), o864] ∧ Hp.le τ τ' ∧ OwnO Ty.u8 5 τ' (.slice A862 x865.length c863) x865 o864 ∧ RdT zl τ' (.slice A2 p2.length c2) p2 ∧ zF p2 n x865 x868 = some rr) big ⟨A753, c754, o755, c748.b, 0, _, ar (ar (ar (ar trivial))), hO, hL, w756, r370, hF⟩ ?_
        clear hF hO hL
        rintro n968 e σ ⟨A862, c863, o864, x865, x868, _, hA, hO, hL, w866, r867, hF⟩
        rw [← sets_agr _ _ hA]
        cases n968 with
        | zero => exact nomatch (show none = some rr from hF)
        | succ n968 =>
          replace hF : zcz (zF p2 n968) p2 x865 x868 = some rr := hF
          unfold zcz at hF
          refine wpn_qa hO [] [(8, .pointer (some ⟨b18, 0, none⟩)), (44, .slice A2 p2.length c2), (45, .int .i64 (p2.length : Int)), (46, .int .i64 x868), (47, .bool (decide (x868 < (p2.length : Int))))] (ar (ar (ar (ar (ar trivial))))) fun j => ?_
          rcases ite_some hF with ⟨hb969, hF⟩ | ⟨hb969, hF⟩
          · refine wpn_cT (congrArg Value.bool hb969) ?_
            refine wpn_sk ?_
            refine wpn_bl ?_
            obtain ⟨y970, g971, hF⟩ := bind_some hF
            refine wpn_idx (T := zl) r867 hO.base rfl rfl g971 (by decide) fun a972 _ k973 m974 => ?_
            obtain ⟨v975, rfl, r976⟩ := k973
            obtain ⟨A977, c978, rfl, -⟩ := r976.form
            refine wpn_ld rfl ((m974.le hO.base).all rfl) ?_
            refine wpn_al hO fun b979 σ hO => ?_
            have hO : Obs _ _ [_, _, _] := hO
            refine wpn_st hO (i := 2) rfl (off := 0) rfl rfl rfl rfl (Nat.le_of_ble_eq_true rfl) rfl fun σ hO => ?_
            have hO : Obs _ _ [_, _, _] := hO
            refine wpn_nil ?_
            refine wpn_q hO 3 [2] [(8, .pointer (some ⟨b18, 0, none⟩)), (13, .pointer (some ⟨b979, 0, none⟩)), (44, .slice A2 p2.length c2), (45, .int .i64 (p2.length : Int)), (46, .int .i64 x868), (50, .pointer (some ⟨b18, 0, none⟩)), (52, .int .i64 y970.Func)] (And.intro (And.intro rfl rfl) (ar (ar (ar (ar (ar (ar (ar trivial)))))))) fun j => ?_
            obtain ⟨c980, h981, hF⟩ := bind_some hF
            have hO := hO.sel [2, 0, 1] (by decide)
            refine wpn_c (hs := [_]) (vs := [_, _]) hO (zE (q0 := (⟨x865⟩ : zm)) w866 h981) rfl fun _ σ _ _ hO h982 h983 => ?_
            have hL := hL.trans h982
            have r867 := r867.le h982
            have r976 := r976.le h982
            obtain ⟨v984, o987, rfl, rfl, w988⟩ := h983
            obtain ⟨A985, c986, rfl, -⟩ := w988.form
            have hO : Obs _ _ [_, _, _] := hO
            refine wpn_nil ?_
            refine wpn_q hO 3 [0] [(8, .pointer (some ⟨b18, 0, none⟩)), (13, .pointer (some ⟨b979, 0, none⟩)), (44, .slice A2 p2.length c2), (45, .int .i64 (p2.length : Int)), (46, .int .i64 x868), (54, .pointer (some ⟨b18, 0, none⟩)), (56, .int .i64 y970.Line)] (And.intro (And.intro rfl rfl) (ar (ar (ar (ar (ar (ar (ar trivial)))))))) fun j => ?_
            obtain ⟨c989, h990, hF⟩ := bind_some hF
            refine wpn_c (hs := [_]) (vs := [_, _]) hO (zE (q0 := (⟨c980.b⟩ : zm)) w988 h990) rfl fun _ σ _ _ hO h991 h992 => ?_
            have hL := hL.trans h991
            have r867 := r867.le h991
            have r976 := r976.le h991
            obtain ⟨v993, o996, rfl, rfl, w997⟩ := h992
            obtain ⟨A994, c995, rfl, -⟩ := w997.form
            have hO : Obs _ _ [_, _, _] := hO
            refine wpn_nil ?_
            refine wpn_q hO 4 [0] [(8, .pointer (some ⟨b18, 0, none⟩)), (13, .pointer (some ⟨b979, 0, none⟩)), (44, .slice A2 p2.length c2), (45, .int .i64 (p2.length : Int)), (46, .int .i64 x868), (58, .pointer (some ⟨b18, 0, none⟩)), (61, .int .i64 (y970.Scope.length : Int))] (And.intro (And.intro rfl rfl) (ar (ar (ar (ar (ar (ar (ar trivial)))))))) fun j => ?_
            obtain ⟨c998, h999, hF⟩ := bind_some hF
            refine wpn_c (hs := [_]) (vs := [_, _]) hO (zE (q0 := (⟨c989.b⟩ : zm)) w997 h999) rfl fun _ σ _ _ hO h1000 h1001 => ?_
            have hL := hL.trans h1000
            have r867 := r867.le h1000
            have r976 := r976.le h1000
            obtain ⟨v1002, o1005, rfl, rfl, w1006⟩ := h1001
            obtain ⟨A1003, c1004, rfl, -⟩ := w1006.form
            have hO : Obs _ _ [_, _, _] := hO
            refine wpn_nil ?_
            refine wpn_qa hO [0] [(8, .pointer (some ⟨b18, 0, none⟩)), (44, .slice A2 p2.length c2), (45, .int .i64 (p2.length : Int)), (46, .int .i64 x868), (64, .slice A977 y970.Scope.length c978), (65, .int .i64 (y970.Scope.length : Int)), (66, .int .i64 0)] (And.intro (And.intro rfl rfl) (ar (ar (ar (ar (ar (ar (ar trivial)))))))) fun j => ?_
            refine wpn_blast ?_
            refine wpn_bl ?_
            have hO := hO.sel [1, 2] (by decide)
            refine wpn_lp (fun (n : Nat) e' σ' => ∃ (A1029 : Option Addr) (c1030 : Nat) (o1031 : Ob) (x1032 : List UInt8) (x1036 : Int) (τ' : Hp), agr [(8, .pointer (some ⟨b18, 0, none⟩)), (44, .slice A2 p2.length c2), (45, .int .i64 (p2.length : Int)), (46, .int .i64 x868), (64, .slice A977 y970.Scope.length c978), (65, .int .i64 (y970.Scope.length : Int)), (66, .int .i64 x1036)] e' ∧ Obs τ' σ' [some (b18, ⟨[.slice A1029 x1032.length c1030], 75, 1, true⟩), o1031] ∧ Hp.le τ τ' ∧ OwnO Ty.u8 5 τ' (.slice A1029 x1032.length c1030) x1032 o1031 ∧ RdT zl τ' (.slice A2 p2.length c2) p2 ∧ RdT (Ty.int .i64) τ' (.slice A977 y970.Scope.length c978) y970.Scope ∧ zcm (zF p2 n968) x868 y970 n x1032 x1036 = some rr) big ⟨A1003, c1004, o1005, c998.b, 0, _, ar (ar (ar (ar (ar (ar (ar trivial)))))), hO, hL, w1006, r867, r976, hF⟩ ?_
            clear hF hO hL
            rintro n1052 e σ ⟨A1029, c1030, o1031, x1032, x1036, _, hA, hO, hL, w1033, r1034, r1035, hF⟩
            rw [← sets_agr _ _ hA]
            cases n1052 with
            | zero => exact nomatch (show none = some rr from hF)
            | succ n1052 =>
              replace hF : zbp (zcm (zF p2 n968) x868 y970 n1052) (zF p2 n968) x868 y970 x1032 x1036 = some rr := hF
              unfold zbp at hF
              refine wpn_qa hO [] [(8, .pointer (some ⟨b18, 0, none⟩)), (44, .slice A2 p2.length c2), (45, .int .i64 (p2.length : Int)), (46, .int .i64 x868), (64, .slice A977 y970.Scope.length c978), (65, .int .i64 (y970.Scope.length : Int)), (66, .int .i64 x1036), (67, .bool (decide (x1036 < (y970.Scope.length : Int))))] (ar (ar (ar (ar (ar (ar (ar (ar trivial)))))))) fun j => ?_
              rcases ite_some hF with ⟨hb1053, hF⟩ | ⟨hb1053, hF⟩
              · refine wpn_cT (congrArg Value.bool hb1053) ?_
                refine wpn_sk ?_
                refine wpn_bl ?_
                obtain ⟨y1054, g1055, hF⟩ := bind_some hF
                refine wpn_idx (T := (Ty.int .i64)) r1035 hO.base rfl rfl g1055 (by decide) fun a1056 _ k1057 m1058 => ?_
                obtain rfl : _ = ([.int .i64 y1054] : List Value) := k1057
                refine wpn_ld rfl (m1058.le hO.base).fst ?_
                refine wpn_qa hO [] [(8, .pointer (some ⟨b18, 0, none⟩)), (15, .int .i64 y1054), (44, .slice A2 p2.length c2), (45, .int .i64 (p2.length : Int)), (46, .int .i64 x868), (64, .slice A977 y970.Scope.length c978), (65, .int .i64 (y970.Scope.length : Int)), (66, .int .i64 x1036)] (ar (ar (ar (ar (ar (ar (ar (ar trivial)))))))) fun j => ?_
                refine wpn_rlast ?_
                refine wpn_q hO 2 [] [(8, .pointer (some ⟨b18, 0, none⟩)), (44, .slice A2 p2.length c2), (45, .int .i64 (p2.length : Int)), (46, .int .i64 x868), (64, .slice A977 y970.Scope.length c978), (65, .int .i64 (y970.Scope.length : Int)), (66, .int .i64 x1036), (70, .pointer (some ⟨b18, 0, none⟩)), (71, .int .i64 y1054)] (ar (ar (ar (ar (ar (ar (ar (ar (ar trivial))))))))) fun j => ?_
                obtain ⟨c1059, h1060, hF⟩ := bind_some hF
                refine wpn_c (hs := []) (vs := [_, _]) hO (zE (q0 := (⟨x1032⟩ : zm)) w1033 h1060) rfl fun _ σ _ _ hO h1061 h1062 => ?_
                have hL := hL.trans h1061
                have r1034 := r1034.le h1061
                have r1035 := r1035.le h1061
                obtain ⟨v1063, o1066, rfl, rfl, w1067⟩ := h1062
                obtain ⟨A1064, c1065, rfl, -⟩ := w1067.form
                have hO : Obs _ _ [_, _] := hO
                refine wpn_nil ?_
                refine wpn_end ?_
                refine inb_i ?_
                refine thn_i ?_
                refine wpn_rlast ?_
                refine wpn_qa hO [] [(8, .pointer (some ⟨b18, 0, none⟩)), (44, .slice A2 p2.length c2), (45, .int .i64 (p2.length : Int)), (46, .int .i64 x868), (64, .slice A977 y970.Scope.length c978), (65, .int .i64 (y970.Scope.length : Int)), (66, .int .i64 (IntKind.i64.wrap (x1036 + 1)))] (ar (ar (ar (ar (ar (ar (ar trivial))))))) fun j => ?_
                refine wpn_end ?_
                refine thn_i ?_
                exact ⟨n1052, Nat.lt_succ_self _, A1064, c1065, o1066, c1059.b, (IntKind.i64.wrap (x1036 + 1)), _, ar (ar (ar (ar (ar (ar (ar trivial)))))), hO, hL, w1067, r1034, r1035, hF⟩
              · refine wpn_cF (congrArg Value.bool hb1053) ?_
                refine wpn_ex ?_
                refine thn_x ?_
                refine inb_x ?_
                refine thn_i ?_
                refine wpn_end ?_
                refine inb_i ?_
                refine thn_i ?_
                refine wpn_rlast ?_
                refine wpn_qa hO [] [(8, .pointer (some ⟨b18, 0, none⟩)), (44, .slice A2 p2.length c2), (45, .int .i64 (p2.length : Int)), (46, .int .i64 (IntKind.i64.wrap (x868 + 1)))] (ar (ar (ar (ar trivial)))) fun j => ?_
                refine wpn_end ?_
                refine thn_i ?_
                exact ⟨n968, Nat.lt_succ_self _, A1029, c1030, o1031, x1032, (IntKind.i64.wrap (x868 + 1)), _, ar (ar (ar (ar trivial))), hO, hL, w1033, r1034, hF⟩
          · refine wpn_cF (congrArg Value.bool hb969) ?_
            refine wpn_ex ?_
            refine thn_x ?_
            refine inb_x ?_
            refine thn_i ?_
            refine wpn_qa hO [0] [(6, .slice A862 x865.length c863), (7, .int .i64 0)] (And.intro (And.intro rfl rfl) (ar (ar trivial))) fun j => ?_
            refine wpn_r1 ?_
            injection hF with hF
            subst hF
            have hO := hO.sel [1] (by decide)
            exact hQ _ _ _ _ _ rfl hO hL ⟨_, _, rfl, rfl, w866⟩
theorem zdY {τ : Hp} {v0 : Value} {p0 : (List UInt8)} (r0 : RdT Ty.u8 τ v0 p0) {rr : Int × Int} (hF : zcq p0 = some rr) :
    Ctr Try.prog 67 #[v0] τ [] (fun v τ' vs' => v = .tuple #[.int .u64 rr.1, .int .i64 rr.2] ∧ vs' = []) := by
  obtain ⟨A0, c0, rfl, -⟩ := r0.form
  refine ctr_of (args := [.slice A0 p0.length c0]) hm Try.func67 s67 rfl fun w0 σ hO Q hQ => ?_
  unfold zcq at hF
  have hL := Hp.le.refl τ
  show wpn _ _ a67.body _ _ _
  unfold a67
  dsimp only
  refine wpn_qa hO [] [(0, .slice A0 p0.length c0), (2, .int .u64 0)] (ar (ar trivial)) fun j => ?_
  refine wpn_assoc ?_
  refine wpn_qa hO [] [(0, .slice A0 p0.length c0), (2, .int .u64 0), (7, .int .i64 (minI (p0.length : Int) 10)), (8, .int .i64 0)] (ar (ar (ar (ar trivial)))) fun j => ?_
  refine wpn_bl ?_
  refine wpn_lp (fun (n : Nat) e' σ' => ∃ (x18 : Int) (x19 : Int) (τ' : Hp), agr [(0, .slice A0 p0.length c0), (2, .int .u64 x18), (7, .int .i64 (minI (p0.length : Int) 10)), (8, .int .i64 x19)] e' ∧ Obs τ' σ' [] ∧ Hp.le τ τ' ∧ RdT Ty.u8 τ' (.slice A0 p0.length c0) p0 ∧ zcc p0 n x18 x19 = some rr) big ⟨0, 0, _, ar (ar (ar (ar trivial))), hO, hL, r0, hF⟩ ?_
  clear hF hO hL
  rintro n34 e σ ⟨x18, x19, _, hA, hO, hL, r17, hF⟩
  rw [← sets_agr _ _ hA]
  cases n34 with
  | zero => exact nomatch (show none = some rr from hF)
  | succ n34 =>
    replace hF : zcx (zcc p0 n34) p0 x18 x19 = some rr := hF
    unfold zcx at hF
    refine wpn_qa hO [] [(0, .slice A0 p0.length c0), (2, .int .u64 x18), (7, .int .i64 (minI (p0.length : Int) 10)), (8, .int .i64 x19), (9, .bool (decide (x19 < (minI (p0.length : Int) 10))))] (ar (ar (ar (ar (ar trivial))))) fun j => ?_
    rcases ite_some hF with ⟨hb35, hF⟩ | ⟨hb35, hF⟩
    · refine wpn_cT (congrArg Value.bool hb35) ?_
      refine wpn_sk ?_
      refine wpn_bl ?_
      refine wpn_qa hO [] [(0, .slice A0 p0.length c0), (2, .int .u64 x18), (4, .int .i64 x19), (7, .int .i64 (minI (p0.length : Int) 10)), (8, .int .i64 x19)] (ar (ar (ar (ar (ar trivial))))) fun j => ?_
      refine wpn_q hO 3 [] [(0, .slice A0 p0.length c0), (4, .int .i64 x19), (7, .int .i64 (minI (p0.length : Int) 10)), (8, .int .i64 x19), (11, .int .u64 x18), (12, .slice A0 p0.length c0), (13, .int .i64 x19)] (ar (ar (ar (ar (ar (ar (ar trivial))))))) fun j => ?_
      obtain ⟨y36, g37, hF⟩ := bind_some hF
      refine wpn_idx (T := Ty.u8) r17 hO.base rfl rfl g37 (by decide) fun a38 _ k39 m40 => ?_
      obtain rfl : _ = ([.int .u8 y36.toNat] : List Value) := k39
      refine wpn_ld rfl (m40.le hO.base).fst ?_
      refine wpn_q hO 4 [] [(0, .slice A0 p0.length c0), (4, .int .i64 x19), (7, .int .i64 (minI (p0.length : Int) 10)), (8, .int .i64 x19), (11, .int .u64 x18), (17, .int .u64 (IntKind.u64.wrap (andI .u8 (y36.toNat : Int) 127))), (19, .int .i64 (IntKind.i64.wrap (7 * x19)))] (ar (ar (ar (ar (ar (ar (ar trivial))))))) fun j => ?_
      obtain ⟨y41, g42, hF⟩ := bind_some hF
      refine wpn_bn (shlO_bin g42) ?_
      refine wpn_qa hO [] [(0, .slice A0 p0.length c0), (2, .int .u64 (orI .u64 x18 y41)), (4, .int .i64 x19), (7, .int .i64 (minI (p0.length : Int) 10)), (8, .int .i64 x19)] (ar (ar (ar (ar (ar trivial))))) fun j => ?_
      refine wpn_q hO 2 [] [(0, .slice A0 p0.length c0), (2, .int .u64 (orI .u64 x18 y41)), (4, .int .i64 x19), (7, .int .i64 (minI (p0.length : Int) 10)), (8, .int .i64 x19), (22, .slice A0 p0.length c0), (23, .int .i64 x19)] (ar (ar (ar (ar (ar (ar (ar trivial))))))) fun j => ?_
      obtain ⟨y43, g44, hF⟩ := bind_some hF
      refine wpn_idx (T := Ty.u8) r17 hO.base rfl rfl g44 (by decide) fun a45 _ k46 m47 => ?_
      obtain rfl : _ = ([.int .u8 y43.toNat] : List Value) := k46
      refine wpn_ld rfl (m47.le hO.base).fst ?_
      refine wpn_qa hO [] [(0, .slice A0 p0.length c0), (2, .int .u64 (orI .u64 x18 y41)), (4, .int .i64 x19), (7, .int .i64 (minI (p0.length : Int) 10)), (8, .int .i64 x19), (26, .bool (decide ((y43.toNat : Int) < 128)))] (ar (ar (ar (ar (ar (ar trivial)))))) fun j => ?_
      refine wpn_clast ?_
      rcases ite_some hF with ⟨hb48, hF⟩ | ⟨hb48, hF⟩
      · refine wpn_cT (congrArg Value.bool hb48) ?_
        refine wpn_assoc ?_
        refine wpn_qa hO [] [(2, .int .u64 (orI .u64 x18 y41)), (3, .int .i64 (IntKind.i64.wrap (x19 + 1)))] (ar (ar trivial)) fun j => ?_
        refine wpn_rt ?_
        refine inb_r1 ?_
        refine thn_r1 ?_
        refine thn_r1 ?_
        refine inb_r1 ?_
        refine thn_r1 ?_
        injection hF with hF
        subst hF
        exact hQ _ _ _ _ _ rfl hO hL ⟨rfl, rfl⟩
      · refine wpn_cF (congrArg Value.bool hb48) ?_
        refine wpn_sk ?_
        refine wpn_end ?_
        refine inb_i ?_
        refine thn_i ?_
        refine wpn_rlast ?_
        refine wpn_qa hO [] [(0, .slice A0 p0.length c0), (2, .int .u64 (orI .u64 x18 y41)), (7, .int .i64 (minI (p0.length : Int) 10)), (8, .int .i64 (IntKind.i64.wrap (x19 + 1)))] (ar (ar (ar (ar trivial)))) fun j => ?_
        refine wpn_end ?_
        refine thn_i ?_
        exact ⟨n34, Nat.lt_succ_self _, (orI .u64 x18 y41), (IntKind.i64.wrap (x19 + 1)), _, ar (ar (ar (ar trivial))), hO, hL, r17, hF⟩
    · refine wpn_cF (congrArg Value.bool hb35) ?_
      refine wpn_ex ?_
      refine thn_x ?_
      refine inb_x ?_
      refine thn_i ?_
      refine wpn_qa hO [] [(2, .int .u64 0), (3, .int .i64 0)] (ar (ar trivial)) fun j => ?_
      refine wpn_r1 ?_
      injection hF with hF
      subst hF
      exact hQ _ _ _ _ _ rfl hO hL ⟨rfl, rfl⟩
theorem zdZ {τ : Hp} {v0 : Value} {p0 : (List UInt8)} {v1 : Value} {p1 : (List UInt8)} (r0 : RdT Ty.u8 τ v0 p0) (r1 : RdT Ty.u8 τ v1 p1) {rr : Bool} (hF : z9 p0 p1 = some rr) :
    Ctr Try.prog 68 #[v0, v1] τ [] (fun v τ' vs' => v = .bool rr ∧ vs' = []) := by
  obtain ⟨A0, c0, rfl, -⟩ := r0.form
  obtain ⟨A1, c1, rfl, -⟩ := r1.form
  refine ctr_of (args := [.slice A0 p0.length c0, .slice A1 p1.length c1]) hm Try.func68 s68 rfl fun w0 σ hO Q hQ => ?_
  unfold z9 at hF
  have hL := Hp.le.refl τ
  show wpn _ _ a68.body _ _ _
  unfold a68
  dsimp only
  refine wpn_qa hO [] [(0, .slice A0 p0.length c0), (1, .slice A1 p1.length c1)] (ar (ar trivial)) fun j => ?_
  refine wpn_assoc ?_
  refine wpn_qa hO [] [(0, .slice A0 p0.length c0), (1, .slice A1 p1.length c1), (10, .bool ((p0.length : Int) != (p1.length : Int)))] (ar (ar (ar trivial))) fun j => ?_
  rcases ite_some hF with ⟨hb3, hF⟩ | ⟨hb3, hF⟩
  · refine wpn_cT (congrArg Value.bool hb3) ?_
    refine wpn_assoc ?_
    refine wpn_qa hO [] [(4, .bool false)] (ar trivial) fun j => ?_
    refine wpn_rt ?_
    injection hF with hF
    subst hF
    exact hQ _ _ _ _ _ rfl hO hL ⟨rfl, rfl⟩
  · refine wpn_cF (congrArg Value.bool hb3) ?_
    refine wpn_sk ?_
    refine wpn_assoc ?_
    refine wpn_qa hO [] [(0, .slice A0 p0.length c0), (1, .slice A1 p1.length c1), (12, .int .i64 (p0.length : Int)), (13, .int .i64 0)] (ar (ar (ar (ar trivial)))) fun j => ?_
    refine wpn_bl ?_
    refine wpn_lp (fun (n : Nat) e' σ' => ∃ (x20 : Int) (τ' : Hp), agr [(0, .slice A0 p0.length c0), (1, .slice A1 p1.length c1), (12, .int .i64 (p0.length : Int)), (13, .int .i64 x20)] e' ∧ Obs τ' σ' [] ∧ Hp.le τ τ' ∧ RdT Ty.u8 τ' (.slice A0 p0.length c0) p0 ∧ RdT Ty.u8 τ' (.slice A1 p1.length c1) p1 ∧ zbL p0 p1 n x20 = some rr) big ⟨0, _, ar (ar (ar (ar trivial))), hO, hL, r0, r1, hF⟩ ?_
    clear hF hO hL
    rintro n33 e σ ⟨x20, _, hA, hO, hL, r18, r19, hF⟩
    rw [← sets_agr _ _ hA]
    cases n33 with
    | zero => exact nomatch (show none = some rr from hF)
    | succ n33 =>
      replace hF : zcF (zbL p0 p1 n33) p0 p1 x20 = some rr := hF
      unfold zcF at hF
      refine wpn_qa hO [] [(0, .slice A0 p0.length c0), (1, .slice A1 p1.length c1), (12, .int .i64 (p0.length : Int)), (13, .int .i64 x20), (14, .bool (decide (x20 < (p0.length : Int))))] (ar (ar (ar (ar (ar trivial))))) fun j => ?_
      rcases ite_some hF with ⟨hb34, hF⟩ | ⟨hb34, hF⟩
      · refine wpn_cT (congrArg Value.bool hb34) ?_
        refine wpn_sk ?_
        refine wpn_bl ?_
        refine wpn_qa hO [] [(0, .slice A0 p0.length c0), (1, .slice A1 p1.length c1), (5, .int .i64 x20), (12, .int .i64 (p0.length : Int)), (13, .int .i64 x20)] (ar (ar (ar (ar (ar trivial))))) fun j => ?_
        refine wpn_p2r ?_
        refine wpn_q hO 2 [] [(0, .slice A0 p0.length c0), (1, .slice A1 p1.length c1), (5, .int .i64 x20), (12, .int .i64 (p0.length : Int)), (13, .int .i64 x20), (16, .slice A0 p0.length c0), (17, .int .i64 x20)] (ar (ar (ar (ar (ar (ar (ar trivial))))))) fun j => ?_
        obtain ⟨y35, g36, hF⟩ := bind_some hF
        refine wpn_idx (T := Ty.u8) r18 hO.base rfl rfl g36 (by decide) fun a37 _ k38 m39 => ?_
        obtain rfl : _ = ([.int .u8 y35.toNat] : List Value) := k38
        refine wpn_ld rfl (m39.le hO.base).fst ?_
        refine wpn_q hO 2 [] [(0, .slice A0 p0.length c0), (1, .slice A1 p1.length c1), (12, .int .i64 (p0.length : Int)), (13, .int .i64 x20), (19, .int .u8 (y35.toNat : Int)), (20, .slice A1 p1.length c1), (21, .int .i64 x20)] (ar (ar (ar (ar (ar (ar (ar trivial))))))) fun j => ?_
        obtain ⟨y40, g41, hF⟩ := bind_some hF
        refine wpn_idx (T := Ty.u8) r19 hO.base rfl rfl g41 (by decide) fun a42 _ k43 m44 => ?_
        obtain rfl : _ = ([.int .u8 y40.toNat] : List Value) := k43
        refine wpn_ld rfl (m44.le hO.base).fst ?_
        refine wpn_qa hO [] [(0, .slice A0 p0.length c0), (1, .slice A1 p1.length c1), (12, .int .i64 (p0.length : Int)), (13, .int .i64 x20), (24, .bool ((y35.toNat : Int) != (y40.toNat : Int)))] (ar (ar (ar (ar (ar trivial))))) fun j => ?_
        refine wpn_clast ?_
        rcases ite_some hF with ⟨hb45, hF⟩ | ⟨hb45, hF⟩
        · refine wpn_cT (congrArg Value.bool hb45) ?_
          refine wpn_assoc ?_
          refine wpn_qa hO [] [(4, .bool false)] (ar trivial) fun j => ?_
          refine wpn_rt ?_
          refine inb_r1 ?_
          refine thn_r1 ?_
          refine thn_r1 ?_
          refine inb_r1 ?_
          refine thn_r1 ?_
          injection hF with hF
          subst hF
          exact hQ _ _ _ _ _ rfl hO hL ⟨rfl, rfl⟩
        · refine wpn_cF (congrArg Value.bool hb45) ?_
          refine wpn_sk ?_
          refine wpn_end ?_
          refine inb_i ?_
          refine thn_i ?_
          refine wpn_rlast ?_
          refine wpn_qa hO [] [(0, .slice A0 p0.length c0), (1, .slice A1 p1.length c1), (12, .int .i64 (p0.length : Int)), (13, .int .i64 (IntKind.i64.wrap (x20 + 1)))] (ar (ar (ar (ar trivial)))) fun j => ?_
          refine wpn_end ?_
          refine thn_i ?_
          exact ⟨n33, Nat.lt_succ_self _, (IntKind.i64.wrap (x20 + 1)), _, ar (ar (ar (ar trivial))), hO, hL, r18, r19, hF⟩
      · refine wpn_cF (congrArg Value.bool hb34) ?_
        refine wpn_ex ?_
        refine thn_x ?_
        refine inb_x ?_
        refine thn_i ?_
        refine wpn_qa hO [] [(4, .bool true)] (ar trivial) fun j => ?_
        refine wpn_r1 ?_
        injection hF with hF
        subst hF
        exact hQ _ _ _ _ _ rfl hO hL ⟨rfl, rfl⟩
theorem zfv {τ : Hp} {p0 : Int} {p1 : Int}  {rr : Int} (hF : zdw p0 p1 = some rr) :
    Ctr Try.prog 62 #[.int .u64 p0, .int .i64 p1] τ [] (fun v τ' vs' => v = .int .u64 rr ∧ vs' = []) := by
  refine ctr_of (args := [.int .u64 p0, .int .i64 p1]) hm Try.func62 s62 rfl fun w0 σ hO Q hQ => ?_
  unfold zdw at hF
  have hL := Hp.le.refl τ
  show wpn _ _ a62.body _ _ _
  unfold a62
  dsimp only
  refine wpn_qa hO [] [(0, .int .u64 p0)] (ar trivial) fun j => ?_
  refine wpn_qa hO [] [(4, .int .u64 p0)] (ar trivial) fun j => ?_
  refine wpn_r1 ?_
  injection hF with hF
  subst hF
  exact hQ _ _ _ _ _ rfl hO hL ⟨rfl, rfl⟩
theorem zeX {τ : Hp} {v0 : Value} {p0 : (List UInt8)} {p1 : Int} (r0 : RdT Ty.u8 τ v0 p0) {rr : Int × Int × Int} (hF : zdy p0 p1 = some rr) :
    Ctr Try.prog 61 #[v0, .int .i64 p1, .func (.func 62) #[] #[], .func (.func 26) #[] #[]] τ [] (fun v τ' vs' => v = .tuple #[.int .u64 rr.1, .int .i64 rr.2.1, .int .i64 rr.2.2] ∧ vs' = []) := by
  obtain ⟨A0, c0, rfl, -⟩ := r0.form
  refine ctr_of (args := [.slice A0 p0.length c0, .int .i64 p1, .func (.func 62) #[] #[], .func (.func 26) #[] #[]]) hm Try.func61 s61 rfl fun w0 σ hO Q hQ => ?_
  unfold zdy at hF
  have hL := Hp.le.refl τ
  show wpn _ _ a61.body _ _ _
  unfold a61
  dsimp only
  refine wpn_qa hO [] [(0, .slice A0 p0.length c0), (1, .int .i64 p1), (2, .func (.func 62) #[] #[]), (3, .func (.func 26) #[] #[])] (ar (ar (ar (ar trivial)))) fun j => ?_
  refine wpn_assoc ?_
  refine wpn_qa hO [] [(0, .slice A0 p0.length c0), (1, .int .i64 p1), (2, .func (.func 62) #[] #[]), (3, .func (.func 26) #[] #[]), (21, .bool ((decide (p1 < 0)) || (decide (p1 > (p0.length : Int)))))] (And.intro (And.intro rfl rfl) (fun _ => ar (ar (ar (ar (ar trivial)))))) fun j => ?_
  rcases ite_some hF with ⟨hb5, hF⟩ | ⟨hb5, hF⟩
  · refine wpn_cT (congrArg Value.bool hb5) ?_
    refine wpn_assoc ?_
    refine wpn_qa hO [] [(8, .int .u64 0), (9, .int .i64 0), (10, .int .i64 1)] (ar (ar (ar trivial))) fun j => ?_
    refine wpn_rt ?_
    injection hF with hF
    subst hF
    exact hQ _ _ _ _ _ rfl hO hL ⟨rfl, rfl⟩
  · refine wpn_cF (congrArg Value.bool hb5) ?_
    refine wpn_sk ?_
    refine wpn_q hO 2 [] [(0, .slice A0 p0.length c0), (1, .int .i64 p1), (2, .func (.func 62) #[] #[]), (3, .func (.func 26) #[] #[]), (23, .slice A0 p0.length c0), (24, .int .i64 p1)] (ar (ar (ar (ar (ar (ar trivial)))))) fun j => ?_
    obtain ⟨y6, g7, hF⟩ := bind_some hF
    refine wpn_sl (T := Ty.u8) r0 rfl rfl rfl g7 fun _ r8 => ?_
    obtain ⟨A9, c10, rfl, -⟩ := r8.form
    obtain ⟨c11, h12, hF⟩ := bind_some hF
    refine wpn_c0 hO (zdY r8 h12) rfl fun _ σ _ _ hO h13 h14 => ?_
    have hL := hL.trans h13
    have r0 := r0.le h13
    have r8 := r8.le h13
    obtain ⟨rfl, rfl⟩ := h14
    have hO : Obs _ _ [] := hO
    refine wpn_qa hO [] [(0, .slice A0 p0.length c0), (1, .int .i64 p1), (2, .func (.func 62) #[] #[]), (3, .func (.func 26) #[] #[]), (11, .int .u64 c11.1), (12, .int .i64 c11.2)] (ar (ar (ar (ar (ar (ar trivial)))))) fun j => ?_
    refine wpn_q hO 3 [] [(0, .slice A0 p0.length c0), (1, .int .i64 p1), (3, .func (.func 26) #[] #[]), (12, .int .i64 c11.2), (29, .func (.func 62) #[] #[]), (30, .int .u64 c11.1), (31, .int .i64 c11.2)] (ar (ar (ar (ar (ar (ar (ar trivial))))))) fun j => ?_
    obtain ⟨c15, h16, hF⟩ := bind_some hF
    refine wpn_cv0 rfl (by kernel_rfl) hO (zfv h16) rfl fun _ σ _ _ hO h17 h18 => ?_
    have hL := hL.trans h17
    have r0 := r0.le h17
    obtain ⟨rfl, rfl⟩ := h18
    have hO : Obs _ _ [] := hO
    refine wpn_qa hO [] [(0, .slice A0 p0.length c0), (1, .int .i64 p1), (3, .func (.func 26) #[] #[]), (12, .int .i64 c11.2), (13, .int .u64 c15)] (ar (ar (ar (ar (ar trivial))))) fun j => ?_
    refine wpn_assoc ?_
    refine wpn_p2r ?_
    refine wpn_q hO 3 [] [(0, .slice A0 p0.length c0), (1, .int .i64 p1), (3, .func (.func 26) #[] #[]), (12, .int .i64 c11.2), (13, .int .u64 c15), (35, .bool (c11.2 == 0))] (ar (ar (ar (ar (ar (ar trivial)))))) fun j => ?_
    obtain ⟨c19, h20, hF⟩ := bind_some hF
    refine wpn_mid 2 (fun e' σ' => ∃ (τ' : Hp), agr [(47, .bool c19), (1, .int .i64 p1), (12, .int .i64 c11.2), (13, .int .u64 c15)] e' ∧ Obs τ' σ' [] ∧ Hp.le τ τ') ?_ ?_
    · have hF := h20
      rcases ite_some hF with ⟨hb21, hF⟩ | ⟨hb21, hF⟩
      · refine wpn_gF (congrArg (fun x => isB (.bool x) false) hb21) ?_
        refine wpn_pk (congrArg Value.bool hb21) ?_
        refine wpn_nil ?_
        injection hF with hF
        subst hF
        refine wpn_end ?_
        exact ⟨rfl, _, ar (ar (ar (ar trivial))), hO, hL⟩
      · refine wpn_gT (congrArg (fun x => isB (.bool x) false) hb21) ?_
        refine wpn_q hO 7 [] [(1, .int .i64 p1), (12, .int .i64 c11.2), (13, .int .u64 c15), (35, .bool (c11.2 == 0)), (36, .func (.func 26) #[] #[]), (37, .int .u64 c15), (39, .slice A0 p0.length c0), (40, .int .i64 p1), (43, .int .i64 (IntKind.i64.wrap (p1 + c11.2)))] (ar (ar (ar (ar (ar (ar (ar (ar (ar trivial))))))))) fun j => ?_
        obtain ⟨y22, g23, hF⟩ := bind_some hF
        refine wpn_sl (T := Ty.u8) r0 rfl rfl rfl g23 fun _ r24 => ?_
        obtain ⟨A25, c26, rfl, -⟩ := r24.form
        obtain ⟨c27, h28, hF⟩ := bind_some hF
        refine wpn_cv0 rfl (by kernel_rfl) hO (zY (RdT.nil Ty.u8 _) h28) rfl fun _ σ _ _ hO h29 h30 => ?_
        have hL := hL.trans h29
        have r0 := r0.le h29
        have r24 := r24.le h29
        obtain ⟨v31, o34, rfl, rfl, w35⟩ := h30
        obtain ⟨A32, c33, rfl, -⟩ := w35.form
        have hO : Obs _ _ [_] := hO
        obtain ⟨_, h37, r36, hO⟩ := w35.share hO (i := 0) rfl
        have hL := hL.trans h37
        have r0 := r0.le h37
        have r24 := r24.le h37
        have hO : Obs _ _ [_] := hO
        obtain ⟨c38, h39, hF⟩ := bind_some hF
        refine wpn_c0 hO (zdZ r36 r24 h39) rfl fun _ σ _ _ hO h40 h41 => ?_
        have hL := hL.trans h40
        have r36 := r36.le h40
        have r0 := r0.le h40
        have r24 := r24.le h40
        obtain ⟨rfl, rfl⟩ := h41
        have hO : Obs _ _ [_] := hO
        refine wpn_q hO 1 [] [(1, .int .i64 p1), (12, .int .i64 c11.2), (13, .int .u64 c15), (35, .bool (c11.2 == 0)), (46, .bool (!c38))] (ar (ar (ar (ar (ar trivial))))) fun j => ?_
        refine wpn_pk (congrArg Value.bool hb21) ?_
        refine wpn_nil ?_
        injection hF with hF
        subst hF
        refine wpn_end ?_
        have hO := hO.sel [] (by decide)
        exact ⟨rfl, _, ar (ar (ar (ar trivial))), hO, hL⟩
    · rintro e σ ⟨_, hA, hO, hL⟩
      rw [← sets_agr _ _ hA]
      refine wpn_nil ?_
      rcases ite_some hF with ⟨hb42, hF⟩ | ⟨hb42, hF⟩
      · refine wpn_cT (congrArg Value.bool hb42) ?_
        refine wpn_assoc ?_
        refine wpn_qa hO [] [(8, .int .u64 0), (9, .int .i64 0), (10, .int .i64 5)] (ar (ar (ar trivial))) fun j => ?_
        refine wpn_rt ?_
        injection hF with hF
        subst hF
        exact hQ _ _ _ _ _ rfl hO hL ⟨rfl, rfl⟩
      · refine wpn_cF (congrArg Value.bool hb42) ?_
        refine wpn_sk ?_
        refine wpn_qa hO [] [(8, .int .u64 c15), (9, .int .i64 (IntKind.i64.wrap (p1 + c11.2))), (10, .int .i64 0)] (ar (ar (ar trivial))) fun j => ?_
        refine wpn_r1 ?_
        injection hF with hF
        subst hF
        exact hQ _ _ _ _ _ rfl hO hL ⟨rfl, rfl⟩
theorem zb3 {τ : Hp} {v0 : Value} {p0 : (List UInt8)} {p1 : Int} (r0 : RdT Ty.u8 τ v0 p0) {rr : Int × Int × Int} (hF : zK p0 p1 = some rr) :
    Ctr Try.prog 52 #[v0, .int .i64 p1] τ [] (fun v τ' vs' => v = .tuple #[.int .u64 rr.1, .int .i64 rr.2.1, .int .i64 rr.2.2] ∧ vs' = []) := by
  obtain ⟨A0, c0, rfl, -⟩ := r0.form
  refine ctr_of (args := [.slice A0 p0.length c0, .int .i64 p1]) hm Try.func52 s52 rfl fun w0 σ hO Q hQ => ?_
  unfold zK at hF
  have hL := Hp.le.refl τ
  show wpn _ _ a52.body _ _ _
  unfold a52
  dsimp only
  refine wpn_qa hO [] [(0, .slice A0 p0.length c0), (1, .int .i64 p1)] (ar (ar trivial)) fun j => ?_
  refine wpn_q hO 2 [] [(7, .slice A0 p0.length c0), (8, .int .i64 p1)] (ar (ar trivial)) fun j => ?_
  obtain ⟨c3, h4, hF⟩ := bind_some hF
  refine wpn_c0 hO (zeX r0 h4) rfl fun _ σ _ _ hO h5 h6 => ?_
  have hL := hL.trans h5
  have r0 := r0.le h5
  obtain ⟨rfl, rfl⟩ := h6
  have hO : Obs _ _ [] := hO
  refine wpn_qa hO [] [(4, .int .u64 c3.1), (5, .int .i64 c3.2.1), (6, .int .i64 c3.2.2)] (ar (ar (ar trivial))) fun j => ?_
  refine wpn_r1 ?_
  injection hF with hF
  subst hF
  exact hQ _ _ _ _ _ rfl hO hL ⟨rfl, rfl⟩
end Go.Proofs.Ytckcngkkofemjaa
