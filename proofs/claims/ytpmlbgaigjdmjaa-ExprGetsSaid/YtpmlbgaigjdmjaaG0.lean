import Derived.Test.YtpmlbgaigjdmjaaF
import Derived.Test.YtpmlbgaigjdmjaaAc0
import Derived.Test.YtpmlbgaigjdmjaaM00
import Derived.Test.YtpmlbgaigjdmjaaM02
namespace Go.Proofs.Ytpmlbgaigjdmjaa
open Go.Ab Go.RowKit
set_option linter.unusedVariables false
set_option linter.unusedSimpArgs false
set_option maxRecDepth 10000
theorem w_expr_made {τ : Hp} {p0 : S_api_Loc}  {rr : I_expr_doer × Bool} (hF : F_expr_made p0 = some rr) :
    Ctr Try.prog 39 #[.agg #[.int .u8 p0.Kind.toNat, .int .i64 p0.N]] τ [] (fun v τ' vs' => v = .tuple #[vI_expr_doer rr.1, .bool rr.2] ∧ vs' = []) := by
  refine ctr_of (args := [.agg #[.int .u8 p0.Kind.toNat, .int .i64 p0.N]]) hm Try.func39 s39 rfl fun w0 σ hO Q hQ => ?_
  unfold F_expr_made at hF
  have hL := Hp.le.refl τ
  show wpn _ _ a39.body _ _ _
  unfold a39
  dsimp only
  refine wpn_bx (n := 2) hO rfl rfl fun b2 σ hO => ?_
  have hO : Obs _ _ [_] := hO
  refine wpn_qa hO [] [(1, .pointer (some ⟨b2, 0, none⟩))] (And.intro rfl trivial) fun j => ?_
  refine wpn_assoc ?_
  refine wpn_qa hO [0] [(1, .pointer (some ⟨b2, 0, none⟩)), (5, .int .u8 (p0.Kind.toNat : Int))] (And.intro (And.intro rfl rfl) (And.intro rfl (And.intro rfl trivial))) fun j => ?_
  refine wpn_bl ?_
  refine wpn_qa hO [] [(1, .pointer (some ⟨b2, 0, none⟩)), (5, .int .u8 (p0.Kind.toNat : Int)), (6, .bool ((p0.Kind.toNat : Int) == 1))] (And.intro rfl (And.intro rfl (And.intro rfl trivial))) fun j => ?_
  refine wpn_clast ?_
  rcases ite_some hF with ⟨hb3, hF⟩ | ⟨hb3, hF⟩
  · refine wpn_cT (congrArg Value.bool hb3) ?_
    refine wpn_assoc ?_
    refine wpn_qa hO [0] [(2, .iface 86 (.int .i64 p0.N)), (3, .bool true)] (And.intro (And.intro rfl rfl) (And.intro rfl (And.intro rfl trivial))) fun j => ?_
    refine wpn_rt ?_
    refine inb_r1 ?_
    refine thn_r1 ?_
    injection hF with hF
    subst hF
    have hO := hO.sel [] (by decide)
    exact hQ _ _ _ _ _ rfl hO hL ⟨rfl, rfl⟩
  · refine wpn_cF (congrArg Value.bool hb3) ?_
    refine wpn_assoc ?_
    refine wpn_qa hO [] [(1, .pointer (some ⟨b2, 0, none⟩)), (5, .int .u8 (p0.Kind.toNat : Int)), (11, .bool ((p0.Kind.toNat : Int) == 2))] (And.intro rfl (And.intro rfl (And.intro rfl trivial))) fun j => ?_
    rcases ite_some hF with ⟨hb4, hF⟩ | ⟨hb4, hF⟩
    · refine wpn_cT (congrArg Value.bool hb4) ?_
      refine wpn_assoc ?_
      refine wpn_p2r ?_
      refine wpn_qa hO [0, 0, 0] [(2, .iface 87 (.int .i64 p0.N)), (3, .bool ((decide (p0.N ≥ 0)) && (decide (p0.N < 16))))] (And.intro (And.intro rfl rfl) (And.intro (And.intro rfl rfl) (And.intro (And.intro rfl rfl) (And.intro (And.intro rfl rfl) (fun _ => And.intro rfl (And.intro rfl trivial)))))) fun j => ?_
      refine wpn_rt ?_
      refine inb_r1 ?_
      refine thn_r1 ?_
      injection hF with hF
      subst hF
      have hO := hO.sel [] (by decide)
      exact hQ _ _ _ _ _ rfl hO hL ⟨rfl, rfl⟩
    · refine wpn_cF (congrArg Value.bool hb4) ?_
      refine wpn_assoc ?_
      refine wpn_qa hO [] [(1, .pointer (some ⟨b2, 0, none⟩)), (5, .int .u8 (p0.Kind.toNat : Int)), (24, .bool ((p0.Kind.toNat : Int) == 3))] (And.intro rfl (And.intro rfl (And.intro rfl trivial))) fun j => ?_
      rcases ite_some hF with ⟨hb5, hF⟩ | ⟨hb5, hF⟩
      · refine wpn_cT (congrArg Value.bool hb5) ?_
        refine wpn_assoc ?_
        refine wpn_qa hO [0] [(2, .iface 88 (.int .i64 p0.N)), (3, .bool true)] (And.intro (And.intro rfl rfl) (And.intro rfl (And.intro rfl trivial))) fun j => ?_
        refine wpn_rt ?_
        refine inb_r1 ?_
        refine thn_r1 ?_
        injection hF with hF
        subst hF
        have hO := hO.sel [] (by decide)
        exact hQ _ _ _ _ _ rfl hO hL ⟨rfl, rfl⟩
      · refine wpn_cF (congrArg Value.bool hb5) ?_
        refine wpn_assoc ?_
        refine wpn_qa hO [] [(1, .pointer (some ⟨b2, 0, none⟩)), (5, .int .u8 (p0.Kind.toNat : Int)), (29, .bool ((p0.Kind.toNat : Int) == 4))] (And.intro rfl (And.intro rfl (And.intro rfl trivial))) fun j => ?_
        rcases ite_some hF with ⟨hb6, hF⟩ | ⟨hb6, hF⟩
        · refine wpn_cT (congrArg Value.bool hb6) ?_
          refine wpn_assoc ?_
          refine wpn_p2r ?_
          refine wpn_qa hO [0] [(2, .iface 90 (.agg #[])), (3, .bool (p0.N == 0))] (And.intro (And.intro rfl rfl) (And.intro rfl (And.intro rfl trivial))) fun j => ?_
          refine wpn_rt ?_
          refine inb_r1 ?_
          refine thn_r1 ?_
          injection hF with hF
          subst hF
          have hO := hO.sel [] (by decide)
          exact hQ _ _ _ _ _ rfl hO hL ⟨rfl, rfl⟩
        · refine wpn_cF (congrArg Value.bool hb6) ?_
          refine wpn_assoc ?_
          refine wpn_qa hO [] [(1, .pointer (some ⟨b2, 0, none⟩)), (5, .int .u8 (p0.Kind.toNat : Int)), (36, .bool ((p0.Kind.toNat : Int) == 5))] (And.intro rfl (And.intro rfl (And.intro rfl trivial))) fun j => ?_
          rcases ite_some hF with ⟨hb7, hF⟩ | ⟨hb7, hF⟩
          · refine wpn_cT (congrArg Value.bool hb7) ?_
            refine wpn_assoc ?_
            refine wpn_p2r ?_
            refine wpn_qa hO [0] [(2, .iface 91 (.agg #[])), (3, .bool (p0.N == 0))] (And.intro (And.intro rfl rfl) (And.intro rfl (And.intro rfl trivial))) fun j => ?_
            refine wpn_rt ?_
            refine inb_r1 ?_
            refine thn_r1 ?_
            injection hF with hF
            subst hF
            have hO := hO.sel [] (by decide)
            exact hQ _ _ _ _ _ rfl hO hL ⟨rfl, rfl⟩
          · refine wpn_cF (congrArg Value.bool hb7) ?_
            refine wpn_assoc ?_
            refine wpn_qa hO [] [(1, .pointer (some ⟨b2, 0, none⟩)), (43, .bool ((p0.Kind.toNat : Int) == 6))] (And.intro rfl (And.intro rfl trivial)) fun j => ?_
            rcases ite_some hF with ⟨hb8, hF⟩ | ⟨hb8, hF⟩
            · refine wpn_cT (congrArg Value.bool hb8) ?_
              refine wpn_assoc ?_
              refine wpn_p2r ?_
              refine wpn_qa hO [0] [(2, .iface 92 (.agg #[])), (3, .bool (p0.N == 0))] (And.intro (And.intro rfl rfl) (And.intro rfl (And.intro rfl trivial))) fun j => ?_
              refine wpn_rt ?_
              refine inb_r1 ?_
              refine thn_r1 ?_
              injection hF with hF
              subst hF
              have hO := hO.sel [] (by decide)
              exact hQ _ _ _ _ _ rfl hO hL ⟨rfl, rfl⟩
            · refine wpn_cF (congrArg Value.bool hb8) ?_
              refine wpn_sk ?_
              refine wpn_end ?_
              refine inb_i ?_
              refine thn_i ?_
              refine wpn_qa hO [] [(2, .nilIface), (3, .bool false)] (And.intro rfl (And.intro rfl trivial)) fun j => ?_
              refine wpn_r1 ?_
              injection hF with hF
              subst hF
              have hO := hO.sel [] (by decide)
              exact hQ _ _ _ _ _ rfl hO hL ⟨rfl, rfl⟩
theorem w_expr_number_takes {τ : Hp} {p0 : Int}  {rr : Int} (hF : F_expr_number_takes p0 = some rr) :
    Ctr Try.prog 66 #[.int .i64 p0] τ [] (fun v τ' vs' => v = .int .i64 rr ∧ vs' = []) := by
  refine ctr_of (args := [.int .i64 p0]) hm Try.func66 s66 rfl fun w0 σ hO Q hQ => ?_
  unfold F_expr_number_takes at hF
  have hL := Hp.le.refl τ
  show wpn _ _ a66.body _ _ _
  unfold a66
  dsimp only
  refine wpn_qa hO [] [] (trivial) fun j => ?_
  refine wpn_qa hO [] [(2, .int .i64 0)] (And.intro rfl trivial) fun j => ?_
  refine wpn_r1 ?_
  injection hF with hF
  subst hF
  exact hQ _ _ _ _ _ rfl hO hL ⟨rfl, rfl⟩
theorem w_expr_reg_takes {τ : Hp} {p0 : Int}  {rr : Int} (hF : F_expr_reg_takes p0 = some rr) :
    Ctr Try.prog 68 #[.int .i64 p0] τ [] (fun v τ' vs' => v = .int .i64 rr ∧ vs' = []) := by
  refine ctr_of (args := [.int .i64 p0]) hm Try.func68 s68 rfl fun w0 σ hO Q hQ => ?_
  unfold F_expr_reg_takes at hF
  have hL := Hp.le.refl τ
  show wpn _ _ a68.body _ _ _
  unfold a68
  dsimp only
  refine wpn_qa hO [] [] (trivial) fun j => ?_
  refine wpn_qa hO [] [(2, .int .i64 0)] (And.intro rfl trivial) fun j => ?_
  refine wpn_r1 ?_
  injection hF with hF
  subst hF
  exact hQ _ _ _ _ _ rfl hO hL ⟨rfl, rfl⟩
theorem w_expr_base_takes {τ : Hp} {p0 : Int}  {rr : Int} (hF : F_expr_base_takes p0 = some rr) :
    Ctr Try.prog 70 #[.int .i64 p0] τ [] (fun v τ' vs' => v = .int .i64 rr ∧ vs' = []) := by
  refine ctr_of (args := [.int .i64 p0]) hm Try.func70 s70 rfl fun w0 σ hO Q hQ => ?_
  unfold F_expr_base_takes at hF
  have hL := Hp.le.refl τ
  show wpn _ _ a70.body _ _ _
  unfold a70
  dsimp only
  refine wpn_qa hO [] [] (trivial) fun j => ?_
  refine wpn_qa hO [] [(2, .int .i64 0)] (And.intro rfl trivial) fun j => ?_
  refine wpn_r1 ?_
  injection hF with hF
  subst hF
  exact hQ _ _ _ _ _ rfl hO hL ⟨rfl, rfl⟩
theorem w_expr_word_takes {τ : Hp} {p0 : S_expr_word}  {rr : Int} (hF : F_expr_word_takes p0 = some rr) :
    Ctr Try.prog 72 #[.agg #[]] τ [] (fun v τ' vs' => v = .int .i64 rr ∧ vs' = []) := by
  refine ctr_of (args := [.agg #[]]) hm Try.func72 s72 rfl fun w0 σ hO Q hQ => ?_
  unfold F_expr_word_takes at hF
  have hL := Hp.le.refl τ
  show wpn _ _ a72.body _ _ _
  unfold a72
  dsimp only
  refine wpn_bx (n := 0) hO rfl rfl fun b2 σ hO => ?_
  have hO : Obs _ _ [_] := hO
  refine wpn_qa hO [] [] (trivial) fun j => ?_
  refine wpn_qa hO [] [(2, .int .i64 1)] (And.intro rfl trivial) fun j => ?_
  refine wpn_r1 ?_
  injection hF with hF
  subst hF
  have hO := hO.sel [] (by decide)
  exact hQ _ _ _ _ _ rfl hO hL ⟨rfl, rfl⟩
theorem w_expr_add_takes {τ : Hp} {p0 : S_expr_add}  {rr : Int} (hF : F_expr_add_takes p0 = some rr) :
    Ctr Try.prog 74 #[.agg #[]] τ [] (fun v τ' vs' => v = .int .i64 rr ∧ vs' = []) := by
  refine ctr_of (args := [.agg #[]]) hm Try.func74 s74 rfl fun w0 σ hO Q hQ => ?_
  unfold F_expr_add_takes at hF
  have hL := Hp.le.refl τ
  show wpn _ _ a74.body _ _ _
  unfold a74
  dsimp only
  refine wpn_bx (n := 0) hO rfl rfl fun b2 σ hO => ?_
  have hO : Obs _ _ [_] := hO
  refine wpn_qa hO [] [] (trivial) fun j => ?_
  refine wpn_qa hO [] [(2, .int .i64 2)] (And.intro rfl trivial) fun j => ?_
  refine wpn_r1 ?_
  injection hF with hF
  subst hF
  have hO := hO.sel [] (by decide)
  exact hQ _ _ _ _ _ rfl hO hL ⟨rfl, rfl⟩
theorem w_expr_neg_takes {τ : Hp} {p0 : S_expr_neg}  {rr : Int} (hF : F_expr_neg_takes p0 = some rr) :
    Ctr Try.prog 76 #[.agg #[]] τ [] (fun v τ' vs' => v = .int .i64 rr ∧ vs' = []) := by
  refine ctr_of (args := [.agg #[]]) hm Try.func76 s76 rfl fun w0 σ hO Q hQ => ?_
  unfold F_expr_neg_takes at hF
  have hL := Hp.le.refl τ
  show wpn _ _ a76.body _ _ _
  unfold a76
  dsimp only
  refine wpn_bx (n := 0) hO rfl rfl fun b2 σ hO => ?_
  have hO : Obs _ _ [_] := hO
  refine wpn_qa hO [] [] (trivial) fun j => ?_
  refine wpn_qa hO [] [(2, .int .i64 1)] (And.intro rfl trivial) fun j => ?_
  refine wpn_r1 ?_
  injection hF with hF
  subst hF
  have hO := hO.sel [] (by decide)
  exact hQ _ _ _ _ _ rfl hO hL ⟨rfl, rfl⟩
theorem w_inv_I_expr_doer_takes {τ : Hp} {x : I_expr_doer}   {rr : Int} (hF : F_inv_I_expr_doer_takes x  = some rr) :
    InvC Try.prog (vI_expr_doer x) "theodolite/expr.takes" #[] τ [] (fun v τ' vs' => v = .int .i64 rr ∧ vs' = []) := by
  cases x with
  | nil => exact nomatch (show none = some rr from hF)
  | c_number a => exact ⟨86, _, 66, rfl, fun w => by kernel_rfl, by kernel_rfl, w_expr_number_takes (p0 := a)  hF⟩
  | c_reg a => exact ⟨87, _, 68, rfl, fun w => by kernel_rfl, by kernel_rfl, w_expr_reg_takes (p0 := a)  hF⟩
  | c_base a => exact ⟨88, _, 70, rfl, fun w => by kernel_rfl, by kernel_rfl, w_expr_base_takes (p0 := a)  hF⟩
  | c_word a => exact ⟨90, _, 72, rfl, fun w => by kernel_rfl, by kernel_rfl, w_expr_word_takes (p0 := a)  hF⟩
  | c_add a => exact ⟨91, _, 74, rfl, fun w => by kernel_rfl, by kernel_rfl, w_expr_add_takes (p0 := a)  hF⟩
  | c_neg a => exact ⟨92, _, 76, rfl, fun w => by kernel_rfl, by kernel_rfl, w_expr_neg_takes (p0 := a)  hF⟩
theorem w_expr_doers {τ : Hp} {v0 : Value} {p0 : (List S_api_Loc)} (r0 : RdT TyS_api_Loc τ v0 p0) {rr : (List I_expr_doer) × Bool} (hF : F_expr_doers p0 = some rr) :
    Ctr Try.prog 28 #[v0] τ [] (fun v τ' vs' => ∃ (v0 : Value) (o0 : Ob), v = .tuple #[v0, .bool rr.2] ∧ vs' = [o0] ∧ OwnO TyI_expr_doer 67 τ' v0 rr.1 o0) := by
  obtain ⟨A0, c0, rfl, -⟩ := r0.form
  refine ctr_of (args := [.slice A0 p0.length c0]) hm Try.func28 s28 rfl fun w0 σ hO Q hQ => ?_
  unfold F_expr_doers at hF
  have hL := Hp.le.refl τ
  show wpn _ _ a28.body _ _ _
  unfold a28
  dsimp only
  refine wpn_qa hO [] [(0, .slice A0 p0.length c0)] (And.intro rfl trivial) fun j => ?_
  refine wpn_qa hO [] [(0, .slice A0 p0.length c0), (4, .slice none 0 0)] (And.intro rfl (And.intro rfl trivial)) fun j => ?_
  refine wpn_qa hO [] [(0, .slice A0 p0.length c0), (4, .slice none 0 0), (5, .int .i64 0)] (And.intro rfl (And.intro rfl (And.intro rfl trivial))) fun j => ?_
  refine wpn_assoc ?_
  refine wpn_qa hO [] [(0, .slice A0 p0.length c0), (4, .slice none 0 0), (5, .int .i64 0), (10, .slice A0 p0.length c0), (11, .int .i64 (p0.length : Int)), (12, .int .i64 0)] (And.intro rfl (And.intro rfl (And.intro rfl (And.intro rfl (And.intro rfl (And.intro rfl trivial)))))) fun j => ?_
  refine wpn_bl ?_
  have hO := hO.no
  have hO : Obs _ _ [_] := hO
  refine wpn_lp (fun (n : Nat) e' σ' => ∃ (A38 : Option Addr) (c39 : Nat) (o40 : Ob) (x41 : List I_expr_doer) (x43 : Int) (x45 : Int) (τ' : Hp), agr [(0, .slice A0 p0.length c0), (4, .slice A38 x41.length c39), (5, .int .i64 x43), (10, .slice A0 p0.length c0), (11, .int .i64 (p0.length : Int)), (12, .int .i64 x45)] e' ∧ Obs τ' σ' [o40] ∧ Hp.le τ τ' ∧ RdT TyS_api_Loc τ' (.slice A0 p0.length c0) p0 ∧ OwnO TyI_expr_doer 67 τ' (.slice A38 x41.length c39) x41 o40 ∧ RdT TyS_api_Loc τ' (.slice A0 p0.length c0) p0 ∧ F_expr_doers_l3 p0 n x41 x43 x45 = some rr) big ⟨none, 0, none, [], 0, 0, _, And.intro rfl (And.intro rfl (And.intro rfl (And.intro rfl (And.intro rfl (And.intro rfl trivial))))), hO, hL, r0, OwnO.nil _ _ _, r0, hF⟩ ?_
  clear hF hO hL
  rintro n78 e σ ⟨A38, c39, o40, x41, x43, x45, _, hA, hO, hL, r37, w42, r44, hF⟩
  rw [← sets_agr _ _ hA]
  cases n78 with
  | zero => exact nomatch (show none = some rr from hF)
  | succ n78 =>
    replace hF : F_expr_doers_l3B (F_expr_doers_l3 p0 n78) p0 x41 x43 x45 = some rr := hF
    unfold F_expr_doers_l3B at hF
    refine wpn_qa hO [] [(0, .slice A0 p0.length c0), (4, .slice A38 x41.length c39), (5, .int .i64 x43), (10, .slice A0 p0.length c0), (11, .int .i64 (p0.length : Int)), (12, .int .i64 x45), (13, .bool (decide (x45 < (p0.length : Int))))] (And.intro rfl (And.intro rfl (And.intro rfl (And.intro rfl (And.intro rfl (And.intro rfl (And.intro rfl trivial))))))) fun j => ?_
    rcases ite_some hF with ⟨hb79, hF⟩ | ⟨hb79, hF⟩
    · refine wpn_cT (congrArg Value.bool hb79) ?_
      refine wpn_sk ?_
      refine wpn_bl ?_
      obtain ⟨y80, g81, hF⟩ := bind_some hF
      refine wpn_idx (T := TyS_api_Loc) r44 hO.base rfl rfl g81 (by decide) fun a82 _ k83 m84 => ?_
      obtain rfl : _ = ([.int .u8 y80.Kind.toNat, .int .i64 y80.N] : List Value) := k83
      refine wpn_ld rfl ((m84.le hO.base).all rfl) ?_
      refine wpn_al hO fun b85 σ hO => ?_
      have hO : Obs _ _ [_, _] := hO
      refine wpn_st hO (i := 1) rfl (off := 0) rfl rfl rfl rfl (Nat.le_of_ble_eq_true rfl) rfl fun σ hO => ?_
      have hO : Obs _ _ [_, _] := hO
      refine wpn_nil ?_
      refine wpn_q hO 1 [1] [(0, .slice A0 p0.length c0), (4, .slice A38 x41.length c39), (5, .int .i64 x43), (10, .slice A0 p0.length c0), (11, .int .i64 (p0.length : Int)), (12, .int .i64 x45), (17, .agg #[(.int .u8 (y80.Kind.toNat : Int)), (.int .i64 y80.N)])] (And.intro (And.intro rfl rfl) (And.intro rfl (And.intro rfl (And.intro rfl (And.intro rfl (And.intro rfl (And.intro rfl (And.intro rfl trivial)))))))) fun j => ?_
      obtain ⟨c86, h87, hF⟩ := bind_some hF
      refine wpn_c0 hO (w_expr_made h87) rfl fun _ σ _ _ hO h88 h89 => ?_
      have hL := hL.trans h88
      have r37 := r37.le h88
      have w42 := w42.le h88
      have r44 := r44.le h88
      obtain ⟨rfl, rfl⟩ := h89
      have hO : Obs _ _ [_, _] := hO
      refine wpn_qa hO [] [(0, .slice A0 p0.length c0), (4, .slice A38 x41.length c39), (5, .int .i64 x43), (8, vI_expr_doer c86.1), (9, .bool c86.2), (10, .slice A0 p0.length c0), (11, .int .i64 (p0.length : Int)), (12, .int .i64 x45)] (And.intro rfl (And.intro rfl (And.intro rfl (And.intro rfl (And.intro rfl (And.intro rfl (And.intro rfl (And.intro rfl trivial)))))))) fun j => ?_
      refine wpn_assoc ?_
      refine wpn_q hO 3 [] [(0, .slice A0 p0.length c0), (4, .slice A38 x41.length c39), (5, .int .i64 x43), (8, vI_expr_doer c86.1), (10, .slice A0 p0.length c0), (11, .int .i64 (p0.length : Int)), (12, .int .i64 x45), (23, .bool (!c86.2))] (And.intro rfl (And.intro rfl (And.intro rfl (And.intro rfl (And.intro rfl (And.intro rfl (And.intro rfl (And.intro rfl trivial)))))))) fun j => ?_
      have hO := hO.sel [0] (by decide)
      have hO : Obs _ _ [_] := hO
      obtain ⟨c90, h91, hF⟩ := bind_some hF
      refine wpn_mid 2 (fun e' σ' => ∃ (τ' : Hp), agr [(28, .bool c90), (0, .slice A0 p0.length c0), (4, .slice A38 x41.length c39), (5, .int .i64 x43), (8, vI_expr_doer c86.1), (10, .slice A0 p0.length c0), (11, .int .i64 (p0.length : Int)), (12, .int .i64 x45)] e' ∧ Obs τ' σ' [o40] ∧ Hp.le τ τ' ∧ RdT TyS_api_Loc τ' (.slice A0 p0.length c0) p0 ∧ OwnO TyI_expr_doer 67 τ' (.slice A38 x41.length c39) x41 o40 ∧ RdT TyS_api_Loc τ' (.slice A0 p0.length c0) p0) ?_ ?_
      · have hF := h91
        rcases ite_some hF with ⟨hb92, hF⟩ | ⟨hb92, hF⟩
        · refine wpn_gF (congrArg (fun x => isB (.bool x) false) hb92) ?_
          refine wpn_pk (congrArg Value.bool hb92) ?_
          refine wpn_nil ?_
          injection hF with hF
          subst hF
          refine wpn_end ?_
          exact ⟨rfl, _, And.intro rfl (And.intro rfl (And.intro rfl (And.intro rfl (And.intro rfl (And.intro rfl (And.intro rfl (And.intro rfl trivial))))))), hO, hL, r37, w42, r44⟩
        · refine wpn_gT (congrArg (fun x => isB (.bool x) false) hb92) ?_
          refine wpn_q hO 1 [] [(0, .slice A0 p0.length c0), (4, .slice A38 x41.length c39), (5, .int .i64 x43), (8, vI_expr_doer c86.1), (10, .slice A0 p0.length c0), (11, .int .i64 (p0.length : Int)), (12, .int .i64 x45), (23, .bool (!c86.2)), (24, vI_expr_doer c86.1)] (And.intro rfl (And.intro rfl (And.intro rfl (And.intro rfl (And.intro rfl (And.intro rfl (And.intro rfl (And.intro rfl (And.intro rfl trivial))))))))) fun j => ?_
          obtain ⟨c93, h94, hF⟩ := bind_some hF
          refine wpn_iv0 rfl hO (w_inv_I_expr_doer_takes h94) rfl fun _ σ _ _ hO h95 h96 => ?_
          have hL := hL.trans h95
          have r37 := r37.le h95
          have w42 := w42.le h95
          have r44 := r44.le h95
          obtain ⟨rfl, rfl⟩ := h96
          have hO : Obs _ _ [_] := hO
          refine wpn_q hO 2 [] [(0, .slice A0 p0.length c0), (4, .slice A38 x41.length c39), (5, .int .i64 x43), (8, vI_expr_doer c86.1), (10, .slice A0 p0.length c0), (11, .int .i64 (p0.length : Int)), (12, .int .i64 x45), (23, .bool (!c86.2)), (27, .bool (decide (c93 > x43)))] (And.intro rfl (And.intro rfl (And.intro rfl (And.intro rfl (And.intro rfl (And.intro rfl (And.intro rfl (And.intro rfl (And.intro rfl trivial))))))))) fun j => ?_
          refine wpn_pk (congrArg Value.bool hb92) ?_
          refine wpn_nil ?_
          injection hF with hF
          subst hF
          refine wpn_end ?_
          exact ⟨rfl, _, And.intro rfl (And.intro rfl (And.intro rfl (And.intro rfl (And.intro rfl (And.intro rfl (And.intro rfl (And.intro rfl trivial))))))), hO, hL, r37, w42, r44⟩
      · rintro e σ ⟨_, hA, hO, hL, r37, w42, r44⟩
        rw [← sets_agr _ _ hA]
        refine wpn_nil ?_
        rcases ite_some hF with ⟨hb97, hF⟩ | ⟨hb97, hF⟩
        · refine wpn_cT (congrArg Value.bool hb97) ?_
          refine wpn_assoc ?_
          refine wpn_qa hO [] [(2, .slice none 0 0), (3, .bool false)] (And.intro rfl (And.intro rfl trivial)) fun j => ?_
          refine wpn_rt ?_
          refine inb_r1 ?_
          refine thn_r1 ?_
          refine thn_r1 ?_
          refine inb_r1 ?_
          refine thn_r1 ?_
          have hO := hO.no
          have hO : Obs _ _ [_, _] := hO
          injection hF with hF
          subst hF
          have hO := hO.sel [1] (by decide)
          exact hQ _ _ _ _ _ rfl hO hL ⟨_, _, rfl, rfl, (OwnO.nil _ _ _)⟩
        · refine wpn_cF (congrArg Value.bool hb97) ?_
          refine wpn_sk ?_
          refine wpn_q hO 2 [] [(0, .slice A0 p0.length c0), (4, .slice A38 x41.length c39), (8, vI_expr_doer c86.1), (10, .slice A0 p0.length c0), (11, .int .i64 (p0.length : Int)), (12, .int .i64 x45), (29, .int .i64 x43), (30, vI_expr_doer c86.1)] (And.intro rfl (And.intro rfl (And.intro rfl (And.intro rfl (And.intro rfl (And.intro rfl (And.intro rfl (And.intro rfl trivial)))))))) fun j => ?_
          obtain ⟨c98, h99, hF⟩ := bind_some hF
          refine wpn_iv0 rfl hO (w_inv_I_expr_doer_takes h99) rfl fun _ σ _ _ hO h100 h101 => ?_
          have hL := hL.trans h100
          have r37 := r37.le h100
          have w42 := w42.le h100
          have r44 := r44.le h100
          obtain ⟨rfl, rfl⟩ := h101
          have hO : Obs _ _ [_] := hO
          refine wpn_qa hO [] [(0, .slice A0 p0.length c0), (4, .slice A38 x41.length c39), (5, .int .i64 (IntKind.i64.wrap (x43 + (IntKind.i64.wrap (1 - c98))))), (8, vI_expr_doer c86.1), (10, .slice A0 p0.length c0), (11, .int .i64 (p0.length : Int)), (12, .int .i64 x45)] (And.intro rfl (And.intro rfl (And.intro rfl (And.intro rfl (And.intro rfl (And.intro rfl (And.intro rfl trivial))))))) fun j => ?_
          refine wpn_assoc ?_
          refine wpn_qa hO [] [(0, .slice A0 p0.length c0), (4, .slice A38 x41.length c39), (5, .int .i64 (IntKind.i64.wrap (x43 + (IntKind.i64.wrap (1 - c98))))), (8, vI_expr_doer c86.1), (10, .slice A0 p0.length c0), (11, .int .i64 (p0.length : Int)), (12, .int .i64 x45), (35, .bool (decide ((IntKind.i64.wrap (x43 + (IntKind.i64.wrap (1 - c98)))) > 8)))] (And.intro rfl (And.intro rfl (And.intro rfl (And.intro rfl (And.intro rfl (And.intro rfl (And.intro rfl (And.intro rfl trivial)))))))) fun j => ?_
          rcases ite_some hF with ⟨hb102, hF⟩ | ⟨hb102, hF⟩
          · refine wpn_cT (congrArg Value.bool hb102) ?_
            refine wpn_assoc ?_
            refine wpn_qa hO [] [(2, .slice none 0 0), (3, .bool false)] (And.intro rfl (And.intro rfl trivial)) fun j => ?_
            refine wpn_rt ?_
            refine inb_r1 ?_
            refine thn_r1 ?_
            refine thn_r1 ?_
            refine inb_r1 ?_
            refine thn_r1 ?_
            have hO := hO.no
            have hO : Obs _ _ [_, _] := hO
            injection hF with hF
            subst hF
            have hO := hO.sel [1] (by decide)
            exact hQ _ _ _ _ _ rfl hO hL ⟨_, _, rfl, rfl, (OwnO.nil _ _ _)⟩
          · refine wpn_cF (congrArg Value.bool hb102) ?_
            refine wpn_sk ?_
            refine wpn_rlast ?_
            refine wpn_q hO 2 [] [(0, .slice A0 p0.length c0), (5, .int .i64 (IntKind.i64.wrap (x43 + (IntKind.i64.wrap (1 - c98))))), (10, .slice A0 p0.length c0), (11, .int .i64 (p0.length : Int)), (12, .int .i64 x45), (36, .slice A38 x41.length c39), (37, vI_expr_doer c86.1)] (And.intro rfl (And.intro rfl (And.intro rfl (And.intro rfl (And.intro rfl (And.intro rfl (And.intro rfl trivial))))))) fun j => ?_
            obtain ⟨_, hr, hF⟩ := bind_some hF
            refine wpn_ap1 (T := TyI_expr_doer) (y := c86.1) hO w42 (i := 0) rfl rfl (fun _ => rfl) (show (vI_expr_doer c86.1).cells.toList = _ from cells_I_expr_doer _) (show _ = _ from rfl) rfl hr (by decide) fun u _ σ o105 w106 hO => ?_
            obtain ⟨A103, c104, rfl, -⟩ := w106.form
            have hO : Obs _ _ [_] := hO
            refine wpn_qa hO [] [(0, .slice A0 p0.length c0), (4, .slice A103 (x41 ++ [c86.1]).length c104), (5, .int .i64 (IntKind.i64.wrap (x43 + (IntKind.i64.wrap (1 - c98))))), (10, .slice A0 p0.length c0), (11, .int .i64 (p0.length : Int)), (12, .int .i64 x45)] (And.intro rfl (And.intro rfl (And.intro rfl (And.intro rfl (And.intro rfl (And.intro rfl trivial)))))) fun j => ?_
            refine wpn_end ?_
            refine inb_i ?_
            refine thn_i ?_
            refine wpn_rlast ?_
            refine wpn_qa hO [] [(0, .slice A0 p0.length c0), (4, .slice A103 (x41 ++ [c86.1]).length c104), (5, .int .i64 (IntKind.i64.wrap (x43 + (IntKind.i64.wrap (1 - c98))))), (10, .slice A0 p0.length c0), (11, .int .i64 (p0.length : Int)), (12, .int .i64 (IntKind.i64.wrap (x45 + 1)))] (And.intro rfl (And.intro rfl (And.intro rfl (And.intro rfl (And.intro rfl (And.intro rfl trivial)))))) fun j => ?_
            refine wpn_end ?_
            refine thn_i ?_
            exact ⟨n78, Nat.lt_succ_self _, A103, c104, o105, (x41 ++ [c86.1]), (IntKind.i64.wrap (x43 + (IntKind.i64.wrap (1 - c98)))), (IntKind.i64.wrap (x45 + 1)), _, And.intro rfl (And.intro rfl (And.intro rfl (And.intro rfl (And.intro rfl (And.intro rfl trivial))))), hO, hL, r37, w106, r44, hF⟩
    · refine wpn_cF (congrArg Value.bool hb79) ?_
      refine wpn_ex ?_
      refine thn_x ?_
      refine inb_x ?_
      refine thn_i ?_
      refine wpn_q hO 5 [] [(0, .slice A0 p0.length c0), (5, .int .i64 x43), (41, .slice A38 x41.length c39), (45, .bool (decide ((p0.length : Int) ≤ 16)))] (And.intro rfl (And.intro rfl (And.intro rfl (And.intro rfl trivial)))) fun j => ?_
      obtain ⟨c107, h108, hF⟩ := bind_some hF
      refine wpn_midq 4 [(53, .bool c107), (41, .slice A38 x41.length c39)] (fun Q hQ => ?_) fun j => ?_
      · have hF := h108
        rcases ite_some hF with ⟨hb109, hF⟩ | ⟨hb109, hF⟩
        · refine wpn_gT (congrArg (fun x => isB (.bool x) true) hb109) ?_
          refine wpn_q hO 4 [] [(5, .int .i64 x43), (41, .slice A38 x41.length c39), (45, .bool (decide ((p0.length : Int) ≤ 16))), (49, .bool ((p0.length : Int) == 0))] (And.intro rfl (And.intro rfl (And.intro rfl (And.intro rfl trivial)))) fun j => ?_
          rcases ite_some hF with ⟨hb110, hF⟩ | ⟨hb110, hF⟩
          · refine wpn_gF (congrArg (fun x => isB (.bool x) false) hb110) ?_
            refine wpn_gT (congrArg (fun x => isB (.bool x) true) hb109) ?_
            refine wpn_pk (congrArg Value.bool hb110) ?_
            refine wpn_pk (congrArg Value.bool hb109) ?_
            refine wpn_nil ?_
            injection hF with hF
            subst hF
            refine wpn_end ?_
            exact hQ _ (And.intro rfl (And.intro rfl trivial))
          · refine wpn_gT (congrArg (fun x => isB (.bool x) false) hb110) ?_
            refine wpn_q hO 2 [] [(41, .slice A38 x41.length c39), (45, .bool (decide ((p0.length : Int) ≤ 16))), (49, .bool ((p0.length : Int) == 0)), (51, .bool (x43 == 1))] (And.intro rfl (And.intro rfl (And.intro rfl (And.intro rfl trivial)))) fun j => ?_
            refine wpn_gT (congrArg (fun x => isB (.bool x) true) hb109) ?_
            refine wpn_pk (congrArg Value.bool hb110) ?_
            refine wpn_pk (congrArg Value.bool hb109) ?_
            refine wpn_nil ?_
            injection hF with hF
            subst hF
            refine wpn_end ?_
            exact hQ _ (And.intro rfl (And.intro rfl trivial))
        · refine wpn_gF (congrArg (fun x => isB (.bool x) true) hb109) ?_
          refine wpn_gF rfl ?_
          refine wpn_gF (congrArg (fun x => isB (.bool x) true) hb109) ?_
          refine wpn_pk (congrArg Value.bool hb109) ?_
          refine wpn_nil ?_
          injection hF with hF
          subst hF
          refine wpn_end ?_
          exact hQ _ (And.intro rfl (And.intro rfl trivial))
      · refine wpn_qa hO [] [(2, .slice A38 x41.length c39), (3, .bool c107)] (And.intro rfl (And.intro rfl trivial)) fun j => ?_
        refine wpn_r1 ?_
        injection hF with hF
        subst hF
        exact hQ _ _ _ _ _ rfl hO hL ⟨_, _, rfl, rfl, w42⟩
theorem w_expr_Right {τ : Hp} {v0 : Value} {p0 : (List S_api_Loc)} (r0 : RdT TyS_api_Loc τ v0 p0) {rr : Bool} (hF : F_expr_Right p0 = some rr) :
    Ctr Try.prog 15 #[v0] τ [] (fun v τ' vs' => v = .bool rr ∧ vs' = []) := by
  obtain ⟨A0, c0, rfl, -⟩ := r0.form
  refine ctr_of (args := [.slice A0 p0.length c0]) hm Try.func15 s15 rfl fun w0 σ hO Q hQ => ?_
  unfold F_expr_Right at hF
  have hL := Hp.le.refl τ
  show wpn _ _ a15.body _ _ _
  unfold a15
  dsimp only
  refine wpn_qa hO [] [(0, .slice A0 p0.length c0)] (And.intro rfl trivial) fun j => ?_
  refine wpn_q hO 1 [] [(6, .slice A0 p0.length c0)] (And.intro rfl trivial) fun j => ?_
  obtain ⟨c2, h3, hF⟩ := bind_some hF
  refine wpn_c0 hO (w_expr_doers r0 h3) rfl fun _ σ _ _ hO h4 h5 => ?_
  have hL := hL.trans h4
  have r0 := r0.le h4
  obtain ⟨v6, o9, rfl, rfl, w10⟩ := h5
  obtain ⟨A7, c8, rfl, -⟩ := w10.form
  have hO : Obs _ _ [_] := hO
  refine wpn_qa hO [] [(4, .bool c2.2)] (And.intro rfl trivial) fun j => ?_
  refine wpn_qa hO [] [(2, .bool c2.2)] (And.intro rfl trivial) fun j => ?_
  refine wpn_r1 ?_
  injection hF with hF
  subst hF
  have hO := hO.sel [] (by decide)
  exact hQ _ _ _ _ _ rfl hO hL ⟨rfl, rfl⟩
theorem w_expr_told {τ : Hp} {p0 : Int}  {rr : Bool} (hF : F_expr_told p0 = some rr) :
    Ctr Try.prog 24 #[.int .u8 p0] τ [] (fun v τ' vs' => v = .bool rr ∧ vs' = []) := by
  refine ctr_of (args := [.int .u8 p0]) hm Try.func24 s24 rfl fun w0 σ hO Q hQ => ?_
  unfold F_expr_told at hF
  have hL := Hp.le.refl τ
  show wpn _ _ a24.body _ _ _
  unfold a24
  dsimp only
  refine wpn_qa hO [] [(0, .int .u8 p0)] (And.intro rfl trivial) fun j => ?_
  refine wpn_qa hO [] [(2, .bool ((decide (p0 ≥ 1)) && (decide (p0 ≤ 3))))] (And.intro (And.intro rfl rfl) (fun _ => And.intro rfl trivial)) fun j => ?_
  refine wpn_r1 ?_
  injection hF with hF
  subst hF
  exact hQ _ _ _ _ _ rfl hO hL ⟨rfl, rfl⟩
theorem w_expr_Put {τ : Hp} {v0 : Value} {p0 : (List UInt8)} {v1 : Value} {p1 : (List S_api_Loc)} (r0 : RdT Ty.u8 τ v0 p0) (r1 : RdT TyS_api_Loc τ v1 p1) {rr : (List UInt8) × Int} (hF : F_expr_Put p0 p1 = some rr) :
    Ctr Try.prog 10 #[v0, v1] τ [] (fun v τ' vs' => ∃ (v0 : Value) (o0 : Ob), v = .tuple #[v0, .int .i64 rr.2] ∧ vs' = [o0] ∧ OwnO Ty.u8 5 τ' v0 rr.1 o0) := by
  obtain ⟨A0, c0, rfl, -⟩ := r0.form
  obtain ⟨A1, c1, rfl, -⟩ := r1.form
  refine ctr_of (args := [.slice A0 p0.length c0, .slice A1 p1.length c1]) hm Try.func10 s10 rfl fun w0 σ hO Q hQ => ?_
  unfold F_expr_Put at hF
  have hL := Hp.le.refl τ
  show wpn _ _ a10.body _ _ _
  unfold a10
  dsimp only
  refine wpn_qa hO [] [(0, .slice A0 p0.length c0), (1, .slice A1 p1.length c1)] (And.intro rfl (And.intro rfl trivial)) fun j => ?_
  refine wpn_assoc ?_
  refine wpn_q hO 1 [] [(0, .slice A0 p0.length c0), (1, .slice A1 p1.length c1), (9, .slice A1 p1.length c1)] (And.intro rfl (And.intro rfl (And.intro rfl trivial))) fun j => ?_
  obtain ⟨c3, h4, hF⟩ := bind_some hF
  refine wpn_c0 hO (w_expr_Right r1 h4) rfl fun _ σ _ _ hO h5 h6 => ?_
  have hL := hL.trans h5
  have r0 := r0.le h5
  have r1 := r1.le h5
  obtain ⟨rfl, rfl⟩ := h6
  have hO : Obs _ _ [] := hO
  refine wpn_qa hO [] [(0, .slice A0 p0.length c0), (1, .slice A1 p1.length c1), (11, .bool (!c3))] (And.intro rfl (And.intro rfl (And.intro rfl trivial))) fun j => ?_
  rcases ite_some hF with ⟨hb7, hF⟩ | ⟨hb7, hF⟩
  · refine wpn_cT (congrArg Value.bool hb7) ?_
    refine wpn_assoc ?_
    refine wpn_qa hO [] [(4, .slice none 0 0), (5, .int .i64 1)] (And.intro rfl (And.intro rfl trivial)) fun j => ?_
    refine wpn_rt ?_
    have hO := hO.no
    have hO : Obs _ _ [_] := hO
    injection hF with hF
    subst hF
    exact hQ _ _ _ _ _ rfl hO hL ⟨_, _, rfl, rfl, (OwnO.nil _ _ _)⟩
  · refine wpn_cF (congrArg Value.bool hb7) ?_
    refine wpn_sk ?_
    refine wpn_q hO 4 [] [(1, .slice A1 p1.length c1), (12, .slice A0 p0.length c0), (15, .int .u64 (IntKind.u64.wrap (p1.length : Int)))] (And.intro rfl (And.intro rfl (And.intro rfl trivial))) fun j => ?_
    obtain ⟨c8, h9, hF⟩ := bind_some hF
    refine wpn_c0 hO (w_leb_PutU r0 h9) rfl fun _ σ _ _ hO h10 h11 => ?_
    have hL := hL.trans h10
    have r1 := r1.le h10
    have r0 := r0.le h10
    obtain ⟨v12, o15, rfl, rfl, w16⟩ := h11
    obtain ⟨A13, c14, rfl, -⟩ := w16.form
    have hO : Obs _ _ [_] := hO
    refine wpn_qa hO [] [(1, .slice A1 p1.length c1), (6, .slice A13 c8.length c14)] (And.intro rfl (And.intro rfl trivial)) fun j => ?_
    refine wpn_assoc ?_
    refine wpn_qa hO [] [(6, .slice A13 c8.length c14), (17, .slice A1 p1.length c1), (18, .int .i64 (p1.length : Int)), (19, .int .i64 0)] (And.intro rfl (And.intro rfl (And.intro rfl (And.intro rfl trivial)))) fun j => ?_
    refine wpn_bl ?_
    refine wpn_lp (fun (n : Nat) e' σ' => ∃ (A50 : Option Addr) (c51 : Nat) (o52 : Ob) (x53 : List UInt8) (x56 : Int) (τ' : Hp), agr [(6, .slice A50 x53.length c51), (17, .slice A1 p1.length c1), (18, .int .i64 (p1.length : Int)), (19, .int .i64 x56)] e' ∧ Obs τ' σ' [o52] ∧ Hp.le τ τ' ∧ OwnO Ty.u8 5 τ' (.slice A50 x53.length c51) x53 o52 ∧ RdT TyS_api_Loc τ' (.slice A1 p1.length c1) p1 ∧ F_expr_Put_l3 p1 n x53 x56 = some rr) big ⟨A13, c14, o15, c8, 0, _, And.intro rfl (And.intro rfl (And.intro rfl (And.intro rfl trivial))), hO, hL, w16, r1, hF⟩ ?_
    clear hF hO hL
    rintro n84 e σ ⟨A50, c51, o52, x53, x56, _, hA, hO, hL, w54, r55, hF⟩
    rw [← sets_agr _ _ hA]
    cases n84 with
    | zero => exact nomatch (show none = some rr from hF)
    | succ n84 =>
      replace hF : F_expr_Put_l3B (F_expr_Put_l3 p1 n84) p1 x53 x56 = some rr := hF
      unfold F_expr_Put_l3B at hF
      refine wpn_qa hO [] [(6, .slice A50 x53.length c51), (17, .slice A1 p1.length c1), (18, .int .i64 (p1.length : Int)), (19, .int .i64 x56), (20, .bool (decide (x56 < (p1.length : Int))))] (And.intro rfl (And.intro rfl (And.intro rfl (And.intro rfl (And.intro rfl trivial))))) fun j => ?_
      rcases ite_some hF with ⟨hb85, hF⟩ | ⟨hb85, hF⟩
      · refine wpn_cT (congrArg Value.bool hb85) ?_
        refine wpn_sk ?_
        refine wpn_bl ?_
        obtain ⟨y86, g87, hF⟩ := bind_some hF
        refine wpn_idx (T := TyS_api_Loc) r55 hO.base rfl rfl g87 (by decide) fun a88 _ k89 m90 => ?_
        obtain rfl : _ = ([.int .u8 y86.Kind.toNat, .int .i64 y86.N] : List Value) := k89
        refine wpn_ld rfl ((m90.le hO.base).all rfl) ?_
        refine wpn_al hO fun b91 σ hO => ?_
        have hO : Obs _ _ [_, _] := hO
        refine wpn_st hO (i := 1) rfl (off := 0) rfl rfl rfl rfl (Nat.le_of_ble_eq_true rfl) rfl fun σ hO => ?_
        have hO : Obs _ _ [_, _] := hO
        refine wpn_nil ?_
        refine wpn_q hO 3 [1] [(8, .pointer (some ⟨b91, 0, none⟩)), (17, .slice A1 p1.length c1), (18, .int .i64 (p1.length : Int)), (19, .int .i64 x56), (23, .slice A50 x53.length c51), (25, .int .u8 (y86.Kind.toNat : Int))] (And.intro (And.intro rfl rfl) (And.intro rfl (And.intro rfl (And.intro rfl (And.intro rfl (And.intro rfl (And.intro rfl trivial))))))) fun j => ?_
        obtain ⟨_, hr, hF⟩ := bind_some hF
        refine wpn_ap1 (T := Ty.u8) (y := y86.Kind) hO w54 (i := 0) rfl rfl (fun _ => rfl) rfl rfl rfl hr (by decide) fun u _ σ o94 w95 hO => ?_
        obtain ⟨A92, c93, rfl, -⟩ := w95.form
        have hO : Obs _ _ [_, _] := hO
        refine wpn_qa hO [] [(6, .slice A92 (x53 ++ [y86.Kind]).length c93), (8, .pointer (some ⟨b91, 0, none⟩)), (17, .slice A1 p1.length c1), (18, .int .i64 (p1.length : Int)), (19, .int .i64 x56)] (And.intro rfl (And.intro rfl (And.intro rfl (And.intro rfl (And.intro rfl trivial))))) fun j => ?_
        refine wpn_q hO 2 [1] [(6, .slice A92 (x53 ++ [y86.Kind]).length c93), (8, .pointer (some ⟨b91, 0, none⟩)), (17, .slice A1 p1.length c1), (18, .int .i64 (p1.length : Int)), (19, .int .i64 x56), (29, .int .u8 (y86.Kind.toNat : Int))] (And.intro (And.intro rfl rfl) (And.intro rfl (And.intro rfl (And.intro rfl (And.intro rfl (And.intro rfl (And.intro rfl trivial))))))) fun j => ?_
        obtain ⟨c96, h97, hF⟩ := bind_some hF
        refine wpn_c0 hO (w_expr_told h97) rfl fun _ σ _ _ hO h98 h99 => ?_
        have hL := hL.trans h98
        have w95 := w95.le h98
        have r55 := r55.le h98
        obtain ⟨rfl, rfl⟩ := h99
        have hO : Obs _ _ [_, _] := hO
        refine wpn_nil ?_
        refine wpn_clast ?_
        rcases ite_some hF with ⟨hb100, hF⟩ | ⟨hb100, hF⟩
        · refine wpn_cT (congrArg Value.bool hb100) ?_
          refine wpn_q hO 3 [1] [(17, .slice A1 p1.length c1), (18, .int .i64 (p1.length : Int)), (19, .int .i64 x56), (31, .slice A92 (x53 ++ [y86.Kind]).length c93), (33, .int .i64 y86.N)] (And.intro (And.intro rfl rfl) (And.intro rfl (And.intro rfl (And.intro rfl (And.intro rfl (And.intro rfl trivial)))))) fun j => ?_
          obtain ⟨_, h102, r101, hO⟩ := w95.share hO (i := 0) rfl
          have hL := hL.trans h102
          have r55 := r55.le h102
          have hO : Obs _ _ [_, _] := hO
          obtain ⟨c103, h104, hF⟩ := bind_some hF
          refine wpn_c0 hO (w_leb_PutS r101 h104) rfl fun _ σ _ _ hO h105 h106 => ?_
          have hL := hL.trans h105
          have r55 := r55.le h105
          have r101 := r101.le h105
          obtain ⟨v107, o110, rfl, rfl, w111⟩ := h106
          obtain ⟨A108, c109, rfl, -⟩ := w111.form
          have hO : Obs _ _ [_, _, _] := hO
          refine wpn_qa hO [] [(6, .slice A108 c103.length c109), (17, .slice A1 p1.length c1), (18, .int .i64 (p1.length : Int)), (19, .int .i64 x56)] (And.intro rfl (And.intro rfl (And.intro rfl (And.intro rfl trivial)))) fun j => ?_
          refine wpn_end ?_
          refine inb_i ?_
          refine thn_i ?_
          refine wpn_rlast ?_
          refine wpn_qa hO [] [(6, .slice A108 c103.length c109), (17, .slice A1 p1.length c1), (18, .int .i64 (p1.length : Int)), (19, .int .i64 (IntKind.i64.wrap (x56 + 1)))] (And.intro rfl (And.intro rfl (And.intro rfl (And.intro rfl trivial)))) fun j => ?_
          refine wpn_end ?_
          refine thn_i ?_
          have hO := hO.sel [2] (by decide)
          exact ⟨n84, Nat.lt_succ_self _, A108, c109, o110, c103, (IntKind.i64.wrap (x56 + 1)), _, And.intro rfl (And.intro rfl (And.intro rfl (And.intro rfl trivial))), hO, hL, w111, r55, hF⟩
        · refine wpn_cF (congrArg Value.bool hb100) ?_
          refine wpn_sk ?_
          refine wpn_end ?_
          refine inb_i ?_
          refine thn_i ?_
          refine wpn_rlast ?_
          refine wpn_qa hO [] [(6, .slice A92 (x53 ++ [y86.Kind]).length c93), (17, .slice A1 p1.length c1), (18, .int .i64 (p1.length : Int)), (19, .int .i64 (IntKind.i64.wrap (x56 + 1)))] (And.intro rfl (And.intro rfl (And.intro rfl (And.intro rfl trivial)))) fun j => ?_
          refine wpn_end ?_
          refine thn_i ?_
          have hO := hO.sel [0] (by decide)
          exact ⟨n84, Nat.lt_succ_self _, A92, c93, o94, (x53 ++ [y86.Kind]), (IntKind.i64.wrap (x56 + 1)), _, And.intro rfl (And.intro rfl (And.intro rfl (And.intro rfl trivial))), hO, hL, w95, r55, hF⟩
      · refine wpn_cF (congrArg Value.bool hb85) ?_
        refine wpn_ex ?_
        refine thn_x ?_
        refine inb_x ?_
        refine thn_i ?_
        refine wpn_qa hO [] [(4, .slice A50 x53.length c51), (5, .int .i64 0)] (And.intro rfl (And.intro rfl trivial)) fun j => ?_
        refine wpn_r1 ?_
        injection hF with hF
        subst hF
        exact hQ _ _ _ _ _ rfl hO hL ⟨_, _, rfl, rfl, w54⟩
theorem w_ref06_Same {τ : Hp} {v0 : Value} {p0 : (List S_api_Loc)} {v1 : Value} {p1 : (List S_api_Loc)} (r0 : RdT TyS_api_Loc τ v0 p0) (r1 : RdT TyS_api_Loc τ v1 p1) {rr : Bool} (hF : F_ref06_Same p0 p1 = some rr) :
    Ctr Try.prog 14 #[v0, v1] τ [] (fun v τ' vs' => v = .bool rr ∧ vs' = []) := by
  obtain ⟨A0, c0, rfl, -⟩ := r0.form
  obtain ⟨A1, c1, rfl, -⟩ := r1.form
  refine ctr_of (args := [.slice A0 p0.length c0, .slice A1 p1.length c1]) hm Try.func14 s14 rfl fun w0 σ hO Q hQ => ?_
  unfold F_ref06_Same at hF
  have hL := Hp.le.refl τ
  show wpn _ _ a14.body _ _ _
  unfold a14
  dsimp only
  refine wpn_qa hO [] [(0, .slice A0 p0.length c0), (1, .slice A1 p1.length c1)] (And.intro rfl (And.intro rfl trivial)) fun j => ?_
  refine wpn_assoc ?_
  refine wpn_qa hO [] [(0, .slice A0 p0.length c0), (1, .slice A1 p1.length c1), (10, .bool ((p0.length : Int) != (p1.length : Int)))] (And.intro rfl (And.intro rfl (And.intro rfl trivial))) fun j => ?_
  rcases ite_some hF with ⟨hb3, hF⟩ | ⟨hb3, hF⟩
  · refine wpn_cT (congrArg Value.bool hb3) ?_
    refine wpn_assoc ?_
    refine wpn_qa hO [] [(4, .bool false)] (And.intro rfl trivial) fun j => ?_
    refine wpn_rt ?_
    injection hF with hF
    subst hF
    exact hQ _ _ _ _ _ rfl hO hL ⟨rfl, rfl⟩
  · refine wpn_cF (congrArg Value.bool hb3) ?_
    refine wpn_sk ?_
    refine wpn_assoc ?_
    refine wpn_qa hO [] [(0, .slice A0 p0.length c0), (1, .slice A1 p1.length c1), (5, .int .i64 0)] (And.intro rfl (And.intro rfl (And.intro rfl trivial))) fun j => ?_
    refine wpn_bl ?_
    refine wpn_lp (fun (n : Nat) e' σ' => ∃ (x20 : Int) (τ' : Hp), agr [(0, .slice A0 p0.length c0), (1, .slice A1 p1.length c1), (5, .int .i64 x20)] e' ∧ Obs τ' σ' [] ∧ Hp.le τ τ' ∧ RdT TyS_api_Loc τ' (.slice A0 p0.length c0) p0 ∧ RdT TyS_api_Loc τ' (.slice A1 p1.length c1) p1 ∧ F_ref06_Same_l3 p0 p1 n x20 = some rr) big ⟨0, _, And.intro rfl (And.intro rfl (And.intro rfl trivial)), hO, hL, r0, r1, hF⟩ ?_
    clear hF hO hL
    rintro n33 e σ ⟨x20, _, hA, hO, hL, r18, r19, hF⟩
    rw [← sets_agr _ _ hA]
    cases n33 with
    | zero => exact nomatch (show none = some rr from hF)
    | succ n33 =>
      replace hF : F_ref06_Same_l3B (F_ref06_Same_l3 p0 p1 n33) p0 p1 x20 = some rr := hF
      unfold F_ref06_Same_l3B at hF
      refine wpn_assoc ?_
      refine wpn_qa hO [] [(0, .slice A0 p0.length c0), (1, .slice A1 p1.length c1), (5, .int .i64 x20), (14, .bool (decide (x20 < (p0.length : Int))))] (And.intro rfl (And.intro rfl (And.intro rfl (And.intro rfl trivial)))) fun j => ?_
      rcases ite_some hF with ⟨hb34, hF⟩ | ⟨hb34, hF⟩
      · refine wpn_cT (congrArg Value.bool hb34) ?_
        refine wpn_sk ?_
        refine wpn_bl ?_
        refine wpn_p2r ?_
        refine wpn_q hO 2 [] [(0, .slice A0 p0.length c0), (1, .slice A1 p1.length c1), (5, .int .i64 x20), (17, .slice A0 p0.length c0), (18, .int .i64 x20)] (And.intro rfl (And.intro rfl (And.intro rfl (And.intro rfl (And.intro rfl trivial))))) fun j => ?_
        obtain ⟨y35, g36, hF⟩ := bind_some hF
        refine wpn_idx (T := TyS_api_Loc) r18 hO.base rfl rfl g36 (by decide) fun a37 _ k38 m39 => ?_
        obtain rfl : _ = ([.int .u8 y35.Kind.toNat, .int .i64 y35.N] : List Value) := k38
        refine wpn_ld rfl ((m39.le hO.base).all rfl) ?_
        refine wpn_q hO 2 [] [(0, .slice A0 p0.length c0), (1, .slice A1 p1.length c1), (5, .int .i64 x20), (20, .agg #[(.int .u8 (y35.Kind.toNat : Int)), (.int .i64 y35.N)]), (21, .slice A1 p1.length c1), (22, .int .i64 x20)] (And.intro rfl (And.intro rfl (And.intro rfl (And.intro rfl (And.intro rfl (And.intro rfl trivial)))))) fun j => ?_
        obtain ⟨y40, g41, hF⟩ := bind_some hF
        refine wpn_idx (T := TyS_api_Loc) r19 hO.base rfl rfl g41 (by decide) fun a42 _ k43 m44 => ?_
        obtain rfl : _ = ([.int .u8 y40.Kind.toNat, .int .i64 y40.N] : List Value) := k43
        refine wpn_ld rfl ((m44.le hO.base).all rfl) ?_
        refine wpn_qa hO [] [(0, .slice A0 p0.length c0), (1, .slice A1 p1.length c1), (5, .int .i64 x20), (25, .bool (!(( (y35.Kind.toNat : Int) == (y40.Kind.toNat : Int)) && (( y35.N == y40.N) && true))))] (And.intro rfl (And.intro rfl (And.intro rfl (And.intro rfl trivial)))) fun j => ?_
        refine wpn_clast ?_
        rcases ite_some hF with ⟨hb45, hF⟩ | ⟨hb45, hF⟩
        · refine wpn_cT (congrArg Value.bool hb45) ?_
          refine wpn_assoc ?_
          refine wpn_qa hO [] [(4, .bool false)] (And.intro rfl trivial) fun j => ?_
          refine wpn_rt ?_
          refine inb_r1 ?_
          refine thn_r1 ?_
          refine thn_r1 ?_
          refine inb_r1 ?_
          refine thn_r1 ?_
          injection hF with hF
          subst hF
          exact hQ _ _ _ _ _ rfl hO hL ⟨rfl, rfl⟩
        · refine wpn_cF (congrArg Value.bool hb45) ?_
          refine wpn_sk ?_
          refine wpn_end ?_
          refine inb_i ?_
          refine thn_i ?_
          refine wpn_rlast ?_
          refine wpn_qa hO [] [(0, .slice A0 p0.length c0), (1, .slice A1 p1.length c1), (5, .int .i64 (IntKind.i64.wrap (x20 + 1)))] (And.intro rfl (And.intro rfl (And.intro rfl trivial))) fun j => ?_
          refine wpn_end ?_
          refine thn_i ?_
          exact ⟨n33, Nat.lt_succ_self _, (IntKind.i64.wrap (x20 + 1)), _, And.intro rfl (And.intro rfl (And.intro rfl trivial)), hO, hL, r18, r19, hF⟩
      · refine wpn_cF (congrArg Value.bool hb34) ?_
        refine wpn_ex ?_
        refine thn_x ?_
        refine inb_x ?_
        refine thn_i ?_
        refine wpn_qa hO [] [(4, .bool true)] (And.intro rfl trivial) fun j => ?_
        refine wpn_r1 ?_
        injection hF with hF
        subst hF
        exact hQ _ _ _ _ _ rfl hO hL ⟨rfl, rfl⟩
theorem w_expr_Get {τ : Hp} {v0 : Value} {p0 : (List UInt8)} {p1 : Int} (r0 : RdT Ty.u8 τ v0 p0) {rr : (List S_api_Loc) × Int × Int} (hF : F_expr_Get p0 p1 = some rr) :
    Ctr Try.prog 18 #[v0, .int .i64 p1] τ [] (fun v τ' vs' => ∃ (v0 : Value), v = .tuple #[v0, .int .i64 rr.2.1, .int .i64 rr.2.2] ∧ vs' = [] ∧ RdT TyS_api_Loc τ' v0 rr.1) := by
  obtain ⟨A0, c0, rfl, -⟩ := r0.form
  refine ctr_of (args := [.slice A0 p0.length c0, .int .i64 p1]) hm Try.func18 s18 rfl fun w0 σ hO Q hQ => ?_
  unfold F_expr_Get at hF
  have hL := Hp.le.refl τ
  show wpn _ _ a18.body _ _ _
  unfold a18
  dsimp only
  refine wpn_qa hO [] [(0, .slice A0 p0.length c0), (1, .int .i64 p1), (4, .slice none 0 0)] (And.intro rfl (And.intro rfl (And.intro rfl trivial))) fun j => ?_
  refine wpn_assoc ?_
  refine wpn_qa hO [] [(0, .slice A0 p0.length c0), (1, .int .i64 p1), (4, .slice none 0 0), (16, .bool ((decide (p1 < 0)) || (decide (p1 > (p0.length : Int)))))] (And.intro (And.intro rfl rfl) (fun _ => And.intro rfl (And.intro rfl (And.intro rfl (And.intro rfl trivial))))) fun j => ?_
  rcases ite_some hF with ⟨hb3, hF⟩ | ⟨hb3, hF⟩
  · refine wpn_cT (congrArg Value.bool hb3) ?_
    refine wpn_assoc ?_
    refine wpn_qa hO [] [(4, .slice none 0 0), (5, .int .i64 0), (6, .int .i64 1)] (And.intro rfl (And.intro rfl (And.intro rfl trivial))) fun j => ?_
    refine wpn_rt ?_
    injection hF with hF
    subst hF
    exact hQ _ _ _ _ _ rfl hO hL ⟨_, rfl, rfl, (RdT.nil _ _)⟩
  · refine wpn_cF (congrArg Value.bool hb3) ?_
    refine wpn_sk ?_
    refine wpn_q hO 2 [] [(0, .slice A0 p0.length c0), (4, .slice none 0 0), (18, .slice A0 p0.length c0), (19, .int .i64 p1)] (And.intro rfl (And.intro rfl (And.intro rfl (And.intro rfl trivial)))) fun j => ?_
    obtain ⟨c4, h5, hF⟩ := bind_some hF
    refine wpn_c0 hO (w_leb_U r0 h5) rfl fun _ σ _ _ hO h6 h7 => ?_
    have hL := hL.trans h6
    have r0 := r0.le h6
    obtain ⟨rfl, rfl⟩ := h7
    have hO : Obs _ _ [] := hO
    refine wpn_qa hO [] [(0, .slice A0 p0.length c0), (4, .slice none 0 0), (5, .int .i64 c4.2.1), (6, .int .i64 c4.2.2), (7, .int .u64 c4.1)] (And.intro rfl (And.intro rfl (And.intro rfl (And.intro rfl (And.intro rfl trivial))))) fun j => ?_
    refine wpn_assoc ?_
    refine wpn_qa hO [] [(0, .slice A0 p0.length c0), (4, .slice none 0 0), (5, .int .i64 c4.2.1), (7, .int .u64 c4.1), (29, .bool ((c4.2.2 != 0) || (decide (c4.1 > 16))))] (And.intro (And.intro rfl rfl) (fun _ => And.intro rfl (And.intro rfl (And.intro rfl (And.intro rfl (And.intro rfl trivial)))))) fun j => ?_
    rcases ite_some hF with ⟨hb8, hF⟩ | ⟨hb8, hF⟩
    · refine wpn_cT (congrArg Value.bool hb8) ?_
      refine wpn_assoc ?_
      refine wpn_qa hO [] [(4, .slice none 0 0), (5, .int .i64 0), (6, .int .i64 5)] (And.intro rfl (And.intro rfl (And.intro rfl trivial))) fun j => ?_
      refine wpn_rt ?_
      injection hF with hF
      subst hF
      exact hQ _ _ _ _ _ rfl hO hL ⟨_, rfl, rfl, (RdT.nil _ _)⟩
    · refine wpn_cF (congrArg Value.bool hb8) ?_
      refine wpn_sk ?_
      refine wpn_assoc ?_
      refine wpn_qa hO [] [(0, .slice A0 p0.length c0), (4, .slice none 0 0), (5, .int .i64 c4.2.1), (30, .int .u64 c4.1), (31, .int .u64 0)] (And.intro rfl (And.intro rfl (And.intro rfl (And.intro rfl (And.intro rfl trivial))))) fun j => ?_
      refine wpn_bl ?_
      have hO := hO.no
      have hO : Obs _ _ [_] := hO
      refine wpn_lp (fun (n : Nat) e' σ' => ∃ (A44 : Option Addr) (c45 : Nat) (o46 : Ob) (x47 : List S_api_Loc) (x49 : Int) (x50 : Int) (τ' : Hp), agr [(0, .slice A0 p0.length c0), (4, .slice A44 x47.length c45), (5, .int .i64 x49), (30, .int .u64 c4.1), (31, .int .u64 x50)] e' ∧ Obs τ' σ' [o46] ∧ Hp.le τ τ' ∧ RdT Ty.u8 τ' (.slice A0 p0.length c0) p0 ∧ OwnO TyS_api_Loc 48 τ' (.slice A44 x47.length c45) x47 o46 ∧ F_expr_Get_l3 p0 c4 n x47 x49 x50 = some rr) big ⟨none, 0, none, [], c4.2.1, 0, _, And.intro rfl (And.intro rfl (And.intro rfl (And.intro rfl (And.intro rfl trivial)))), hO, hL, r0, OwnO.nil _ _ _, hF⟩ ?_
      clear hF hO hL
      rintro n84 e σ ⟨A44, c45, o46, x47, x49, x50, _, hA, hO, hL, r43, w48, hF⟩
      rw [← sets_agr _ _ hA]
      cases n84 with
      | zero => exact nomatch (show none = some rr from hF)
      | succ n84 =>
        replace hF : F_expr_Get_l3B (F_expr_Get_l3 p0 c4 n84) p0 c4 x47 x49 x50 = some rr := hF
        unfold F_expr_Get_l3B at hF
        refine wpn_qa hO [] [(0, .slice A0 p0.length c0), (4, .slice A44 x47.length c45), (5, .int .i64 x49), (30, .int .u64 c4.1), (31, .int .u64 x50), (32, .bool (decide (x50 < c4.1)))] (And.intro rfl (And.intro rfl (And.intro rfl (And.intro rfl (And.intro rfl (And.intro rfl trivial)))))) fun j => ?_
        rcases ite_some hF with ⟨hb85, hF⟩ | ⟨hb85, hF⟩
        · refine wpn_cT (congrArg Value.bool hb85) ?_
          refine wpn_sk ?_
          refine wpn_bl ?_
          refine wpn_assoc ?_
          refine wpn_qa hO [] [(0, .slice A0 p0.length c0), (4, .slice A44 x47.length c45), (5, .int .i64 x49), (30, .int .u64 c4.1), (31, .int .u64 x50), (36, .bool (decide (x49 ≥ (p0.length : Int))))] (And.intro rfl (And.intro rfl (And.intro rfl (And.intro rfl (And.intro rfl (And.intro rfl trivial)))))) fun j => ?_
          rcases ite_some hF with ⟨hb86, hF⟩ | ⟨hb86, hF⟩
          · refine wpn_cT (congrArg Value.bool hb86) ?_
            refine wpn_assoc ?_
            refine wpn_qa hO [] [(4, .slice none 0 0), (5, .int .i64 0), (6, .int .i64 5)] (And.intro rfl (And.intro rfl (And.intro rfl trivial))) fun j => ?_
            refine wpn_rt ?_
            refine inb_r1 ?_
            refine thn_r1 ?_
            refine thn_r1 ?_
            refine inb_r1 ?_
            refine thn_r1 ?_
            injection hF with hF
            subst hF
            have hO := hO.sel [] (by decide)
            exact hQ _ _ _ _ _ rfl hO hL ⟨_, rfl, rfl, (RdT.nil _ _)⟩
          · refine wpn_cF (congrArg Value.bool hb86) ?_
            refine wpn_sk ?_
            refine wpn_q hO 2 [] [(0, .slice A0 p0.length c0), (4, .slice A44 x47.length c45), (5, .int .i64 x49), (30, .int .u64 c4.1), (31, .int .u64 x50), (37, .slice A0 p0.length c0), (38, .int .i64 x49)] (And.intro rfl (And.intro rfl (And.intro rfl (And.intro rfl (And.intro rfl (And.intro rfl (And.intro rfl trivial))))))) fun j => ?_
            obtain ⟨y87, g88, hF⟩ := bind_some hF
            refine wpn_idx (T := Ty.u8) r43 hO.base rfl rfl g88 (by decide) fun a89 _ k90 m91 => ?_
            obtain rfl : _ = ([.int .u8 y87.toNat] : List Value) := k90
            refine wpn_ld rfl (m91.le hO.base).fst ?_
            refine wpn_q hO 1 [] [(0, .slice A0 p0.length c0), (4, .slice A44 x47.length c45), (5, .int .i64 x49), (30, .int .u64 c4.1), (31, .int .u64 x50), (41, .agg #[(.int .u8 (y87.toNat : Int)), (.int .i64 0)])] (And.intro rfl (And.intro rfl (And.intro rfl (And.intro rfl (And.intro rfl (And.intro rfl trivial)))))) fun j => ?_
            refine wpn_al hO fun b92 σ hO => ?_
            have hO : Obs _ _ [_, _] := hO
            refine wpn_st hO (i := 1) rfl (off := 0) rfl rfl rfl rfl (Nat.le_of_ble_eq_true rfl) rfl fun σ hO => ?_
            have hO : Obs _ _ [_, _] := hO
            refine wpn_nil ?_
            refine wpn_qa hO [] [(0, .slice A0 p0.length c0), (4, .slice A44 x47.length c45), (5, .int .i64 (IntKind.i64.wrap (x49 + 1))), (8, .pointer (some ⟨b92, 0, none⟩)), (30, .int .u64 c4.1), (31, .int .u64 x50)] (And.intro rfl (And.intro rfl (And.intro rfl (And.intro rfl (And.intro rfl (And.intro rfl trivial)))))) fun j => ?_
            refine wpn_assoc ?_
            refine wpn_q hO 2 [1] [(0, .slice A0 p0.length c0), (4, .slice A44 x47.length c45), (5, .int .i64 (IntKind.i64.wrap (x49 + 1))), (8, .pointer (some ⟨b92, 0, none⟩)), (30, .int .u64 c4.1), (31, .int .u64 x50), (45, .int .u8 (y87.toNat : Int))] (And.intro (And.intro rfl rfl) (And.intro rfl (And.intro rfl (And.intro rfl (And.intro rfl (And.intro rfl (And.intro rfl (And.intro rfl trivial)))))))) fun j => ?_
            obtain ⟨c93, h94, hF⟩ := bind_some hF
            refine wpn_c0 hO (w_expr_told h94) rfl fun _ σ _ _ hO h95 h96 => ?_
            have hL := hL.trans h95
            have r43 := r43.le h95
            have w48 := w48.le h95
            obtain ⟨rfl, rfl⟩ := h96
            have hO : Obs _ _ [_, _] := hO
            refine wpn_nil ?_
            rcases ite_some hF with ⟨hb97, hF⟩ | ⟨hb97, hF⟩
            · refine wpn_cT (congrArg Value.bool hb97) ?_
              refine wpn_assoc ?_
              refine wpn_q hO 2 [] [(0, .slice A0 p0.length c0), (4, .slice A44 x47.length c45), (8, .pointer (some ⟨b92, 0, none⟩)), (30, .int .u64 c4.1), (31, .int .u64 x50), (48, .slice A0 p0.length c0), (49, .int .i64 (IntKind.i64.wrap (x49 + 1)))] (And.intro rfl (And.intro rfl (And.intro rfl (And.intro rfl (And.intro rfl (And.intro rfl (And.intro rfl trivial))))))) fun j => ?_
              obtain ⟨c98, h99, hF⟩ := bind_some hF
              refine wpn_c0 hO (w_leb_S r43 h99) rfl fun _ σ _ _ hO h100 h101 => ?_
              have hL := hL.trans h100
              have r43 := r43.le h100
              have w48 := w48.le h100
              obtain ⟨rfl, rfl⟩ := h101
              have hO : Obs _ _ [_, _] := hO
              refine wpn_q hO 5 [] [(0, .slice A0 p0.length c0), (4, .slice A44 x47.length c45), (8, .pointer (some ⟨b92, 0, none⟩)), (30, .int .u64 c4.1), (31, .int .u64 x50), (51, .int .i64 c98.1), (52, .int .i64 c98.2.1), (53, .int .i64 c98.2.2), (54, .pointer (some ⟨b92, 1, none⟩))] (And.intro rfl (And.intro rfl (And.intro rfl (And.intro rfl (And.intro rfl (And.intro rfl (And.intro rfl (And.intro rfl (And.intro rfl trivial))))))))) fun j => ?_
              refine wpn_st hO (i := 1) rfl (off := 1) rfl rfl rfl rfl (Nat.le_of_ble_eq_true rfl) rfl fun σ hO => ?_
              have hO : Obs _ _ [_, _] := hO
              refine wpn_qa hO [] [(0, .slice A0 p0.length c0), (4, .slice A44 x47.length c45), (5, .int .i64 c98.2.1), (6, .int .i64 c98.2.2), (8, .pointer (some ⟨b92, 0, none⟩)), (30, .int .u64 c4.1), (31, .int .u64 x50)] (And.intro rfl (And.intro rfl (And.intro rfl (And.intro rfl (And.intro rfl (And.intro rfl (And.intro rfl trivial))))))) fun j => ?_
              refine wpn_assoc ?_
              refine wpn_qa hO [] [(0, .slice A0 p0.length c0), (4, .slice A44 x47.length c45), (5, .int .i64 c98.2.1), (8, .pointer (some ⟨b92, 0, none⟩)), (30, .int .u64 c4.1), (31, .int .u64 x50), (56, .bool (c98.2.2 != 0))] (And.intro rfl (And.intro rfl (And.intro rfl (And.intro rfl (And.intro rfl (And.intro rfl (And.intro rfl trivial))))))) fun j => ?_
              rcases ite_some hF with ⟨hb102, hF⟩ | ⟨hb102, hF⟩
              · refine wpn_cT (congrArg Value.bool hb102) ?_
                refine wpn_assoc ?_
                refine wpn_qa hO [] [(4, .slice none 0 0), (5, .int .i64 0), (6, .int .i64 5)] (And.intro rfl (And.intro rfl (And.intro rfl trivial))) fun j => ?_
                refine wpn_rt ?_
                refine inb_r1 ?_
                refine thn_r1 ?_
                refine thn_r1 ?_
                refine inb_r1 ?_
                refine thn_r1 ?_
                injection hF with hF
                subst hF
                have hO := hO.sel [] (by decide)
                exact hQ _ _ _ _ _ rfl hO hL ⟨_, rfl, rfl, (RdT.nil _ _)⟩
              · refine wpn_cF (congrArg Value.bool hb102) ?_
                refine wpn_sk ?_
                refine wpn_rlast ?_
                refine wpn_q hO 2 [1] [(0, .slice A0 p0.length c0), (5, .int .i64 c98.2.1), (30, .int .u64 c4.1), (31, .int .u64 x50), (57, .slice A44 x47.length c45), (58, .agg #[(.int .u8 (y87.toNat : Int)), (.int .i64 c98.1)])] (And.intro (And.intro rfl rfl) (And.intro rfl (And.intro rfl (And.intro rfl (And.intro rfl (And.intro rfl (And.intro rfl trivial))))))) fun j => ?_
                obtain ⟨_, hr, hF⟩ := bind_some hF
                refine wpn_ap1 (T := TyS_api_Loc) (y := (⟨y87, c98.1⟩ : S_api_Loc)) hO w48 (i := 0) rfl rfl (fun _ => rfl) rfl rfl rfl hr (by decide) fun u _ σ o105 w106 hO => ?_
                obtain ⟨A103, c104, rfl, -⟩ := w106.form
                have hO : Obs _ _ [_, _] := hO
                refine wpn_qa hO [] [(0, .slice A0 p0.length c0), (4, .slice A103 (x47 ++ [(⟨y87, c98.1⟩ : S_api_Loc)]).length c104), (5, .int .i64 c98.2.1), (30, .int .u64 c4.1), (31, .int .u64 x50)] (And.intro rfl (And.intro rfl (And.intro rfl (And.intro rfl (And.intro rfl trivial))))) fun j => ?_
                refine wpn_end ?_
                refine inb_i ?_
                refine thn_i ?_
                refine wpn_rlast ?_
                refine wpn_qa hO [] [(0, .slice A0 p0.length c0), (4, .slice A103 (x47 ++ [(⟨y87, c98.1⟩ : S_api_Loc)]).length c104), (5, .int .i64 c98.2.1), (30, .int .u64 c4.1), (31, .int .u64 (IntKind.u64.wrap (x50 + 1)))] (And.intro rfl (And.intro rfl (And.intro rfl (And.intro rfl (And.intro rfl trivial))))) fun j => ?_
                refine wpn_end ?_
                refine thn_i ?_
                have hO := hO.sel [0] (by decide)
                exact ⟨n84, Nat.lt_succ_self _, A103, c104, o105, (x47 ++ [(⟨y87, c98.1⟩ : S_api_Loc)]), c98.2.1, (IntKind.u64.wrap (x50 + 1)), _, And.intro rfl (And.intro rfl (And.intro rfl (And.intro rfl (And.intro rfl trivial)))), hO, hL, r43, w106, hF⟩
            · refine wpn_cF (congrArg Value.bool hb97) ?_
              refine wpn_sk ?_
              refine wpn_rlast ?_
              refine wpn_q hO 2 [1] [(0, .slice A0 p0.length c0), (5, .int .i64 (IntKind.i64.wrap (x49 + 1))), (30, .int .u64 c4.1), (31, .int .u64 x50), (57, .slice A44 x47.length c45), (58, .agg #[(.int .u8 (y87.toNat : Int)), (.int .i64 0)])] (And.intro (And.intro rfl rfl) (And.intro rfl (And.intro rfl (And.intro rfl (And.intro rfl (And.intro rfl (And.intro rfl trivial))))))) fun j => ?_
              obtain ⟨_, hr, hF⟩ := bind_some hF
              refine wpn_ap1 (T := TyS_api_Loc) (y := (⟨y87, 0⟩ : S_api_Loc)) hO w48 (i := 0) rfl rfl (fun _ => rfl) rfl rfl rfl hr (by decide) fun u _ σ o109 w110 hO => ?_
              obtain ⟨A107, c108, rfl, -⟩ := w110.form
              have hO : Obs _ _ [_, _] := hO
              refine wpn_qa hO [] [(0, .slice A0 p0.length c0), (4, .slice A107 (x47 ++ [(⟨y87, 0⟩ : S_api_Loc)]).length c108), (5, .int .i64 (IntKind.i64.wrap (x49 + 1))), (30, .int .u64 c4.1), (31, .int .u64 x50)] (And.intro rfl (And.intro rfl (And.intro rfl (And.intro rfl (And.intro rfl trivial))))) fun j => ?_
              refine wpn_end ?_
              refine inb_i ?_
              refine thn_i ?_
              refine wpn_rlast ?_
              refine wpn_qa hO [] [(0, .slice A0 p0.length c0), (4, .slice A107 (x47 ++ [(⟨y87, 0⟩ : S_api_Loc)]).length c108), (5, .int .i64 (IntKind.i64.wrap (x49 + 1))), (30, .int .u64 c4.1), (31, .int .u64 (IntKind.u64.wrap (x50 + 1)))] (And.intro rfl (And.intro rfl (And.intro rfl (And.intro rfl (And.intro rfl trivial))))) fun j => ?_
              refine wpn_end ?_
              refine thn_i ?_
              have hO := hO.sel [0] (by decide)
              exact ⟨n84, Nat.lt_succ_self _, A107, c108, o109, (x47 ++ [(⟨y87, 0⟩ : S_api_Loc)]), (IntKind.i64.wrap (x49 + 1)), (IntKind.u64.wrap (x50 + 1)), _, And.intro rfl (And.intro rfl (And.intro rfl (And.intro rfl (And.intro rfl trivial)))), hO, hL, r43, w110, hF⟩
        · refine wpn_cF (congrArg Value.bool hb85) ?_
          refine wpn_ex ?_
          refine thn_x ?_
          refine inb_x ?_
          refine thn_i ?_
          refine wpn_assoc ?_
          refine wpn_q hO 1 [] [(4, .slice A44 x47.length c45), (5, .int .i64 x49), (62, .slice A44 x47.length c45)] (And.intro rfl (And.intro rfl (And.intro rfl trivial))) fun j => ?_
          obtain ⟨_, h112, r111, hO⟩ := w48.share hO (i := 0) rfl
          have hL := hL.trans h112
          have hO : Obs _ _ [_] := hO
          obtain ⟨c113, h114, hF⟩ := bind_some hF
          refine wpn_c0 hO (w_expr_Right r111 h114) rfl fun _ σ _ _ hO h115 h116 => ?_
          have hL := hL.trans h115
          have r111 := r111.le h115
          obtain ⟨rfl, rfl⟩ := h116
          have hO : Obs _ _ [_] := hO
          refine wpn_qa hO [] [(4, .slice A44 x47.length c45), (5, .int .i64 x49), (64, .bool (!c113))] (And.intro rfl (And.intro rfl (And.intro rfl trivial))) fun j => ?_
          rcases ite_some hF with ⟨hb117, hF⟩ | ⟨hb117, hF⟩
          · refine wpn_cT (congrArg Value.bool hb117) ?_
            refine wpn_assoc ?_
            refine wpn_qa hO [] [(4, .slice none 0 0), (5, .int .i64 0), (6, .int .i64 5)] (And.intro rfl (And.intro rfl (And.intro rfl trivial))) fun j => ?_
            refine wpn_rt ?_
            injection hF with hF
            subst hF
            have hO := hO.sel [] (by decide)
            exact hQ _ _ _ _ _ rfl hO hL ⟨_, rfl, rfl, (RdT.nil _ _)⟩
          · refine wpn_cF (congrArg Value.bool hb117) ?_
            refine wpn_sk ?_
            refine wpn_qa hO [] [(4, .slice A44 x47.length c45), (5, .int .i64 x49), (6, .int .i64 0)] (And.intro rfl (And.intro rfl (And.intro rfl trivial))) fun j => ?_
            refine wpn_r1 ?_
            injection hF with hF
            subst hF
            have hO := hO.sel [] (by decide)
            exact hQ _ _ _ _ _ rfl hO hL ⟨_, rfl, rfl, r111⟩
theorem w_expr_number_lays_op1q4 {τ : Hp} {p0 : Int} {q1 : S_expr_stack} {bm1 : Nat} {vm1_0 : Value} {vm1_1 : Value} {vm1_3 : Value} {vm1_4 : Value} {om1_4 : Ob} (rm1_0 : RdT Ty.bool τ vm1_0 q1.view.Known) (rm1_1 : RdT (Ty.int .i64) τ vm1_1 q1.view.Regs) (rm1_3 : RdT (Ty.int .i64) τ vm1_3 q1.view.Words) (wm1_4 : OwnO (Ty.int .i64) 2 τ vm1_4 q1.l om1_4) {rr : Int × Bool × S_expr_stack} (hF : F_expr_number_lays_op1q4 p0 q1 = some rr) :
    Ctr Try.prog 65 #[.int .i64 p0, .pointer (some ⟨bm1, 0, none⟩)] τ [some (bm1, ⟨[vm1_0, vm1_1, .int .i64 q1.view.Base, vm1_3, vm1_4], 65, 5, true⟩), om1_4] (fun v τ' vs' => ∃ (u0_0 : Value) (u0_1 : Value) (u0_3 : Value) (u0_4 : Value) (y0_4 : Ob), v = .tuple #[.int .i64 rr.1, .bool rr.2.1] ∧ vs' = [some (bm1, ⟨[u0_0, u0_1, .int .i64 rr.2.2.view.Base, u0_3, u0_4], 65, 5, true⟩), y0_4] ∧ RdT Ty.bool τ' u0_0 rr.2.2.view.Known ∧ RdT (Ty.int .i64) τ' u0_1 rr.2.2.view.Regs ∧ RdT (Ty.int .i64) τ' u0_3 rr.2.2.view.Words ∧ OwnO (Ty.int .i64) 2 τ' u0_4 rr.2.2.l y0_4) := by
  obtain ⟨Am1_0, cm1_0, rfl, -⟩ := rm1_0.form
  obtain ⟨Am1_1, cm1_1, rfl, -⟩ := rm1_1.form
  obtain ⟨Am1_3, cm1_3, rfl, -⟩ := rm1_3.form
  obtain ⟨Am1_4, cm1_4, rfl, -⟩ := wm1_4.form
  refine ctr_of (args := [.int .i64 p0, .pointer (some ⟨bm1, 0, none⟩)]) hm Try.func65 s65 rfl fun w0 σ hO Q hQ => ?_
  unfold F_expr_number_lays_op1q4 at hF
  have hL := Hp.le.refl τ
  show wpn _ _ a65.body _ _ _
  unfold a65
  dsimp only
  refine wpn_qa hO [] [(0, .int .i64 p0), (1, .pointer (some ⟨bm1, 0, none⟩))] (And.intro rfl (And.intro rfl trivial)) fun j => ?_
  refine wpn_qa hO [] [(1, .pointer (some ⟨bm1, 0, none⟩)), (4, .int .i64 p0), (5, .bool true)] (And.intro rfl (And.intro rfl (And.intro rfl trivial))) fun j => ?_
  refine wpn_r1 ?_
  injection hF with hF
  subst hF
  exact hQ _ _ _ _ _ rfl hO hL ⟨_, _, _, _, _, rfl, rfl, rm1_0, rm1_1, rm1_3, wm1_4⟩
theorem w_expr_reg_lays_op1q4 {τ : Hp} {p0 : Int} {q1 : S_expr_stack} {bm1 : Nat} {vm1_0 : Value} {vm1_1 : Value} {vm1_3 : Value} {vm1_4 : Value} {om1_4 : Ob} (rm1_0 : RdT Ty.bool τ vm1_0 q1.view.Known) (rm1_1 : RdT (Ty.int .i64) τ vm1_1 q1.view.Regs) (rm1_3 : RdT (Ty.int .i64) τ vm1_3 q1.view.Words) (wm1_4 : OwnO (Ty.int .i64) 2 τ vm1_4 q1.l om1_4) {rr : Int × Bool × S_expr_stack} (hF : F_expr_reg_lays_op1q4 p0 q1 = some rr) :
    Ctr Try.prog 67 #[.int .i64 p0, .pointer (some ⟨bm1, 0, none⟩)] τ [some (bm1, ⟨[vm1_0, vm1_1, .int .i64 q1.view.Base, vm1_3, vm1_4], 65, 5, true⟩), om1_4] (fun v τ' vs' => ∃ (u0_0 : Value) (u0_1 : Value) (u0_3 : Value) (u0_4 : Value) (y0_4 : Ob), v = .tuple #[.int .i64 rr.1, .bool rr.2.1] ∧ vs' = [some (bm1, ⟨[u0_0, u0_1, .int .i64 rr.2.2.view.Base, u0_3, u0_4], 65, 5, true⟩), y0_4] ∧ RdT Ty.bool τ' u0_0 rr.2.2.view.Known ∧ RdT (Ty.int .i64) τ' u0_1 rr.2.2.view.Regs ∧ RdT (Ty.int .i64) τ' u0_3 rr.2.2.view.Words ∧ OwnO (Ty.int .i64) 2 τ' u0_4 rr.2.2.l y0_4) := by
  obtain ⟨Am1_0, cm1_0, rfl, -⟩ := rm1_0.form
  obtain ⟨Am1_1, cm1_1, rfl, -⟩ := rm1_1.form
  obtain ⟨Am1_3, cm1_3, rfl, -⟩ := rm1_3.form
  obtain ⟨Am1_4, cm1_4, rfl, -⟩ := wm1_4.form
  refine ctr_of (args := [.int .i64 p0, .pointer (some ⟨bm1, 0, none⟩)]) hm Try.func67 s67 rfl fun w0 σ hO Q hQ => ?_
  unfold F_expr_reg_lays_op1q4 at hF
  have hL := Hp.le.refl τ
  show wpn _ _ a67.body _ _ _
  unfold a67
  dsimp only
  refine wpn_qa hO [] [(0, .int .i64 p0), (1, .pointer (some ⟨bm1, 0, none⟩))] (And.intro rfl (And.intro rfl trivial)) fun j => ?_
  refine wpn_qa hO [] [(1, .pointer (some ⟨bm1, 0, none⟩)), (6, .int .i64 p0)] (And.intro rfl (And.intro rfl trivial)) fun j => ?_
  refine wpn_blast ?_
  refine wpn_bl ?_
  refine wpn_q hO 9 [0] [(1, .pointer (some ⟨bm1, 0, none⟩)), (6, .int .i64 p0), (25, .bool (decide (p0 ≥ (q1.view.Known.length : Int))))] (And.intro (And.intro rfl rfl) (And.intro rfl (And.intro rfl (And.intro rfl trivial)))) fun j => ?_
  obtain ⟨c3, h4, hF⟩ := bind_some hF
  refine wpn_midq 2 [(35, .bool c3), (1, .pointer (some ⟨bm1, 0, none⟩)), (6, .int .i64 p0)] (fun Q hQ => ?_) fun j => ?_
  · have hF := h4
    rcases ite_some hF with ⟨hb5, hF⟩ | ⟨hb5, hF⟩
    · refine wpn_gF (congrArg (fun x => isB (.bool x) false) hb5) ?_
      refine wpn_pk (congrArg Value.bool hb5) ?_
      refine wpn_nil ?_
      injection hF with hF
      subst hF
      refine wpn_end ?_
      exact hQ _ (And.intro rfl (And.intro rfl (And.intro rfl trivial)))
    · refine wpn_gT (congrArg (fun x => isB (.bool x) false) hb5) ?_
      refine wpn_q hO 6 [0] [(1, .pointer (some ⟨bm1, 0, none⟩)), (6, .int .i64 p0), (25, .bool (decide (p0 ≥ (q1.view.Known.length : Int)))), (30, .slice Am1_0 q1.view.Known.length cm1_0), (31, .int .i64 p0)] (And.intro (And.intro rfl rfl) (And.intro rfl (And.intro rfl (And.intro rfl (And.intro rfl (And.intro rfl trivial)))))) fun j => ?_
      obtain ⟨y6, g7, hF⟩ := bind_some hF
      refine wpn_idx (T := Ty.bool) rm1_0 hO.base rfl rfl g7 (by decide) fun a8 _ k9 m10 => ?_
      obtain rfl : _ = ([.bool y6] : List Value) := k9
      refine wpn_ld rfl (m10.le hO.base).fst ?_
      refine wpn_q hO 1 [] [(1, .pointer (some ⟨bm1, 0, none⟩)), (6, .int .i64 p0), (25, .bool (decide (p0 ≥ (q1.view.Known.length : Int)))), (34, .bool (!y6))] (And.intro rfl (And.intro rfl (And.intro rfl (And.intro rfl trivial)))) fun j => ?_
      refine wpn_pk (congrArg Value.bool hb5) ?_
      refine wpn_nil ?_
      injection hF with hF
      subst hF
      refine wpn_end ?_
      exact hQ _ (And.intro rfl (And.intro rfl (And.intro rfl trivial)))
  · refine wpn_qa hO [] [(1, .pointer (some ⟨bm1, 0, none⟩)), (6, .int .i64 p0), (16, .bool c3)] (And.intro rfl (And.intro rfl (And.intro rfl trivial))) fun j => ?_
    refine wpn_clast ?_
    rcases ite_some hF with ⟨hb11, hF⟩ | ⟨hb11, hF⟩
    · refine wpn_cT (congrArg Value.bool hb11) ?_
      refine wpn_assoc ?_
      refine wpn_qa hO [] [(1, .pointer (some ⟨bm1, 0, none⟩)), (4, .int .i64 0), (5, .bool false)] (And.intro rfl (And.intro rfl (And.intro rfl trivial))) fun j => ?_
      refine wpn_rt ?_
      refine inb_r1 ?_
      refine thn_r1 ?_
      injection hF with hF
      subst hF
      exact hQ _ _ _ _ _ rfl hO hL ⟨_, _, _, _, _, rfl, rfl, rm1_0, rm1_1, rm1_3, wm1_4⟩
    · refine wpn_cF (congrArg Value.bool hb11) ?_
      refine wpn_assoc ?_
      refine wpn_qa hO [0] [(1, .pointer (some ⟨bm1, 0, none⟩)), (6, .int .i64 p0), (36, .bool (decide (p0 ≥ (q1.view.Regs.length : Int))))] (And.intro (And.intro rfl rfl) (And.intro rfl (And.intro rfl (And.intro rfl trivial)))) fun j => ?_
      rcases ite_some hF with ⟨hb12, hF⟩ | ⟨hb12, hF⟩
      · refine wpn_cT (congrArg Value.bool hb12) ?_
        refine wpn_assoc ?_
        refine wpn_qa hO [] [(1, .pointer (some ⟨bm1, 0, none⟩)), (4, .int .i64 0), (5, .bool true)] (And.intro rfl (And.intro rfl (And.intro rfl trivial))) fun j => ?_
        refine wpn_rt ?_
        refine inb_r1 ?_
        refine thn_r1 ?_
        injection hF with hF
        subst hF
        exact hQ _ _ _ _ _ rfl hO hL ⟨_, _, _, _, _, rfl, rfl, rm1_0, rm1_1, rm1_3, wm1_4⟩
      · refine wpn_cF (congrArg Value.bool hb12) ?_
        refine wpn_assoc ?_
        refine wpn_q hO 6 [0] [(1, .pointer (some ⟨bm1, 0, none⟩)), (12, .slice Am1_1 q1.view.Regs.length cm1_1), (13, .int .i64 p0)] (And.intro (And.intro rfl rfl) (And.intro rfl (And.intro rfl (And.intro rfl trivial)))) fun j => ?_
        obtain ⟨y13, g14, hF⟩ := bind_some hF
        refine wpn_idx (T := (Ty.int .i64)) rm1_1 hO.base rfl rfl g14 (by decide) fun a15 _ k16 m17 => ?_
        obtain rfl : _ = ([.int .i64 y13] : List Value) := k16
        refine wpn_ld rfl (m17.le hO.base).fst ?_
        refine wpn_qa hO [] [(1, .pointer (some ⟨bm1, 0, none⟩)), (4, .int .i64 y13), (5, .bool true)] (And.intro rfl (And.intro rfl (And.intro rfl trivial))) fun j => ?_
        refine wpn_rt ?_
        refine inb_r1 ?_
        refine thn_r1 ?_
        injection hF with hF
        subst hF
        exact hQ _ _ _ _ _ rfl hO hL ⟨_, _, _, _, _, rfl, rfl, rm1_0, rm1_1, rm1_3, wm1_4⟩
theorem w_expr_base_lays_op1q4 {τ : Hp} {p0 : Int} {q1 : S_expr_stack} {bm1 : Nat} {vm1_0 : Value} {vm1_1 : Value} {vm1_3 : Value} {vm1_4 : Value} {om1_4 : Ob} (rm1_0 : RdT Ty.bool τ vm1_0 q1.view.Known) (rm1_1 : RdT (Ty.int .i64) τ vm1_1 q1.view.Regs) (rm1_3 : RdT (Ty.int .i64) τ vm1_3 q1.view.Words) (wm1_4 : OwnO (Ty.int .i64) 2 τ vm1_4 q1.l om1_4) {rr : Int × Bool × S_expr_stack} (hF : F_expr_base_lays_op1q4 p0 q1 = some rr) :
    Ctr Try.prog 69 #[.int .i64 p0, .pointer (some ⟨bm1, 0, none⟩)] τ [some (bm1, ⟨[vm1_0, vm1_1, .int .i64 q1.view.Base, vm1_3, vm1_4], 65, 5, true⟩), om1_4] (fun v τ' vs' => ∃ (u0_0 : Value) (u0_1 : Value) (u0_3 : Value) (u0_4 : Value) (y0_4 : Ob), v = .tuple #[.int .i64 rr.1, .bool rr.2.1] ∧ vs' = [some (bm1, ⟨[u0_0, u0_1, .int .i64 rr.2.2.view.Base, u0_3, u0_4], 65, 5, true⟩), y0_4] ∧ RdT Ty.bool τ' u0_0 rr.2.2.view.Known ∧ RdT (Ty.int .i64) τ' u0_1 rr.2.2.view.Regs ∧ RdT (Ty.int .i64) τ' u0_3 rr.2.2.view.Words ∧ OwnO (Ty.int .i64) 2 τ' u0_4 rr.2.2.l y0_4) := by
  obtain ⟨Am1_0, cm1_0, rfl, -⟩ := rm1_0.form
  obtain ⟨Am1_1, cm1_1, rfl, -⟩ := rm1_1.form
  obtain ⟨Am1_3, cm1_3, rfl, -⟩ := rm1_3.form
  obtain ⟨Am1_4, cm1_4, rfl, -⟩ := wm1_4.form
  refine ctr_of (args := [.int .i64 p0, .pointer (some ⟨bm1, 0, none⟩)]) hm Try.func69 s69 rfl fun w0 σ hO Q hQ => ?_
  unfold F_expr_base_lays_op1q4 at hF
  have hL := Hp.le.refl τ
  show wpn _ _ a69.body _ _ _
  unfold a69
  dsimp only
  refine wpn_qa hO [] [(0, .int .i64 p0), (1, .pointer (some ⟨bm1, 0, none⟩))] (And.intro rfl (And.intro rfl trivial)) fun j => ?_
  refine wpn_qa hO [0] [(1, .pointer (some ⟨bm1, 0, none⟩)), (4, .int .i64 (IntKind.i64.wrap (q1.view.Base + p0))), (5, .bool true)] (And.intro (And.intro rfl rfl) (And.intro rfl (And.intro rfl (And.intro rfl trivial)))) fun j => ?_
  refine wpn_r1 ?_
  injection hF with hF
  subst hF
  exact hQ _ _ _ _ _ rfl hO hL ⟨_, _, _, _, _, rfl, rfl, rm1_0, rm1_1, rm1_3, wm1_4⟩
theorem w_expr_stack_pop_op0q4 {τ : Hp} {q0 : S_expr_stack} {bm0 : Nat} {vm0_0 : Value} {vm0_1 : Value} {vm0_3 : Value} {vm0_4 : Value} {om0_4 : Ob} (rm0_0 : RdT Ty.bool τ vm0_0 q0.view.Known) (rm0_1 : RdT (Ty.int .i64) τ vm0_1 q0.view.Regs) (rm0_3 : RdT (Ty.int .i64) τ vm0_3 q0.view.Words) (wm0_4 : OwnO (Ty.int .i64) 2 τ vm0_4 q0.l om0_4) {rr : Int × S_expr_stack} (hF : F_expr_stack_pop_op0q4 q0 = some rr) :
    Ctr Try.prog 34 #[.pointer (some ⟨bm0, 0, none⟩)] τ [some (bm0, ⟨[vm0_0, vm0_1, .int .i64 q0.view.Base, vm0_3, vm0_4], 65, 5, true⟩), om0_4] (fun v τ' vs' => ∃ (u0_0 : Value) (u0_1 : Value) (u0_3 : Value) (u0_4 : Value) (y0_4 : Ob), v = .int .i64 rr.1 ∧ vs' = [some (bm0, ⟨[u0_0, u0_1, .int .i64 rr.2.view.Base, u0_3, u0_4], 65, 5, true⟩), y0_4] ∧ RdT Ty.bool τ' u0_0 rr.2.view.Known ∧ RdT (Ty.int .i64) τ' u0_1 rr.2.view.Regs ∧ RdT (Ty.int .i64) τ' u0_3 rr.2.view.Words ∧ OwnO (Ty.int .i64) 2 τ' u0_4 rr.2.l y0_4) := by
  obtain ⟨Am0_0, cm0_0, rfl, -⟩ := rm0_0.form
  obtain ⟨Am0_1, cm0_1, rfl, -⟩ := rm0_1.form
  obtain ⟨Am0_3, cm0_3, rfl, -⟩ := rm0_3.form
  obtain ⟨Am0_4, cm0_4, rfl, -⟩ := wm0_4.form
  refine ctr_of (args := [.pointer (some ⟨bm0, 0, none⟩)]) hm Try.func34 s34 rfl fun w0 σ hO Q hQ => ?_
  unfold F_expr_stack_pop_op0q4 at hF
  have hL := Hp.le.refl τ
  show wpn _ _ a34.body _ _ _
  unfold a34
  dsimp only
  refine wpn_qa hO [] [(0, .pointer (some ⟨bm0, 0, none⟩))] (And.intro rfl trivial) fun j => ?_
  refine wpn_qa hO [0] [(0, .pointer (some ⟨bm0, 0, none⟩)), (3, .int .i64 (IntKind.i64.wrap ((q0.l.length : Int) - 1)))] (And.intro (And.intro rfl rfl) (And.intro rfl (And.intro rfl trivial))) fun j => ?_
  refine wpn_q hO 5 [0] [(0, .pointer (some ⟨bm0, 0, none⟩)), (3, .int .i64 (IntKind.i64.wrap ((q0.l.length : Int) - 1))), (14, .slice Am0_4 q0.l.length cm0_4), (15, .int .i64 (IntKind.i64.wrap ((q0.l.length : Int) - 1)))] (And.intro (And.intro rfl rfl) (And.intro rfl (And.intro rfl (And.intro rfl (And.intro rfl trivial))))) fun j => ?_
  obtain ⟨y2, g3, hF⟩ := bind_some hF
  refine wpn_ido (T := (Ty.int .i64)) hO wm0_4 (i := 1) rfl rfl rfl g3 (by decide) fun a4 _ k5 m6 i7 => ?_
  have k8 := k5
  obtain rfl : _ = ([.int .i64 y2] : List Value) := k8
  refine wpn_ld rfl m6.fst ?_
  refine wpn_qa hO [] [(0, .pointer (some ⟨bm0, 0, none⟩)), (3, .int .i64 (IntKind.i64.wrap ((q0.l.length : Int) - 1))), (4, .int .i64 y2)] (And.intro rfl (And.intro rfl (And.intro rfl trivial))) fun j => ?_
  refine wpn_q hO 6 [0] [(0, .pointer (some ⟨bm0, 0, none⟩)), (4, .int .i64 y2), (18, .pointer (some ⟨bm0, 0, none⟩)), (22, .slice Am0_4 q0.l.length cm0_4), (23, .int .i64 (IntKind.i64.wrap ((q0.l.length : Int) - 1)))] (And.intro (And.intro rfl rfl) (And.intro rfl (And.intro rfl (And.intro rfl (And.intro rfl (And.intro rfl trivial)))))) fun j => ?_
  obtain ⟨y9, g10, hF⟩ := bind_some hF
  refine wpn_tr (T := (Ty.int .i64)) wm0_4 rfl rfl g10 fun w11 => ?_
  refine wpn_q hO 2 [] [(0, .pointer (some ⟨bm0, 0, none⟩)), (4, .int .i64 y2), (24, .slice Am0_4 y9.length cm0_4), (26, .pointer (some ⟨bm0, 4, none⟩))] (And.intro rfl (And.intro rfl (And.intro rfl (And.intro rfl trivial)))) fun j => ?_
  refine wpn_st hO (i := 0) rfl (off := 4) rfl rfl rfl rfl (Nat.le_of_ble_eq_true rfl) rfl fun σ hO => ?_
  have hO : Obs _ _ [_, _] := hO
  refine wpn_nil ?_
  refine wpn_qa hO [] [(0, .pointer (some ⟨bm0, 0, none⟩)), (2, .int .i64 y2)] (And.intro rfl (And.intro rfl trivial)) fun j => ?_
  refine wpn_r1 ?_
  injection hF with hF
  subst hF
  exact hQ _ _ _ _ _ rfl hO hL ⟨_, _, _, _, _, rfl, rfl, rm0_0, rm0_1, rm0_3, w11⟩
theorem w_expr_word_lays_op1q4 {τ : Hp} {p0 : S_expr_word} {q1 : S_expr_stack} {bm1 : Nat} {vm1_0 : Value} {vm1_1 : Value} {vm1_3 : Value} {vm1_4 : Value} {om1_4 : Ob} (rm1_0 : RdT Ty.bool τ vm1_0 q1.view.Known) (rm1_1 : RdT (Ty.int .i64) τ vm1_1 q1.view.Regs) (rm1_3 : RdT (Ty.int .i64) τ vm1_3 q1.view.Words) (wm1_4 : OwnO (Ty.int .i64) 2 τ vm1_4 q1.l om1_4) {rr : Int × Bool × S_expr_stack} (hF : F_expr_word_lays_op1q4 p0 q1 = some rr) :
    Ctr Try.prog 71 #[.agg #[], .pointer (some ⟨bm1, 0, none⟩)] τ [some (bm1, ⟨[vm1_0, vm1_1, .int .i64 q1.view.Base, vm1_3, vm1_4], 65, 5, true⟩), om1_4] (fun v τ' vs' => ∃ (u0_0 : Value) (u0_1 : Value) (u0_3 : Value) (u0_4 : Value) (y0_4 : Ob), v = .tuple #[.int .i64 rr.1, .bool rr.2.1] ∧ vs' = [some (bm1, ⟨[u0_0, u0_1, .int .i64 rr.2.2.view.Base, u0_3, u0_4], 65, 5, true⟩), y0_4] ∧ RdT Ty.bool τ' u0_0 rr.2.2.view.Known ∧ RdT (Ty.int .i64) τ' u0_1 rr.2.2.view.Regs ∧ RdT (Ty.int .i64) τ' u0_3 rr.2.2.view.Words ∧ OwnO (Ty.int .i64) 2 τ' u0_4 rr.2.2.l y0_4) := by
  obtain ⟨Am1_0, cm1_0, rfl, -⟩ := rm1_0.form
  obtain ⟨Am1_1, cm1_1, rfl, -⟩ := rm1_1.form
  obtain ⟨Am1_3, cm1_3, rfl, -⟩ := rm1_3.form
  obtain ⟨Am1_4, cm1_4, rfl, -⟩ := wm1_4.form
  refine ctr_of (args := [.agg #[], .pointer (some ⟨bm1, 0, none⟩)]) hm Try.func71 s71 rfl fun w0 σ hO Q hQ => ?_
  unfold F_expr_word_lays_op1q4 at hF
  have hL := Hp.le.refl τ
  show wpn _ _ a71.body _ _ _
  unfold a71
  dsimp only
  refine wpn_bx (n := 0) hO rfl rfl fun b3 σ hO => ?_
  have hO : Obs _ _ [_, _, _] := hO
  refine wpn_qa hO [] [(1, .pointer (some ⟨bm1, 0, none⟩))] (And.intro rfl trivial) fun j => ?_
  refine wpn_q hO 1 [] [(1, .pointer (some ⟨bm1, 0, none⟩)), (7, .pointer (some ⟨bm1, 0, none⟩))] (And.intro rfl (And.intro rfl trivial)) fun j => ?_
  obtain ⟨c4, h5, hF⟩ := bind_some hF
  have hO := hO.sel [2, 0, 1] (by decide)
  refine wpn_c (hs := [_]) (vs := [_, _]) hO (w_expr_stack_pop_op0q4 rm1_0 rm1_1 rm1_3 wm1_4 h5) rfl fun _ σ _ _ hO h6 h7 => ?_
  have hL := hL.trans h6
  obtain ⟨v8, v12, v16, v20, o23, rfl, rfl, r11, r15, r19, w24⟩ := h7
  obtain ⟨A9, c10, rfl, -⟩ := r11.form
  obtain ⟨A13, c14, rfl, -⟩ := r15.form
  obtain ⟨A17, c18, rfl, -⟩ := r19.form
  obtain ⟨A21, c22, rfl, -⟩ := w24.form
  have hO : Obs _ _ [_, _, _] := hO
  refine wpn_qa hO [] [(1, .pointer (some ⟨bm1, 0, none⟩)), (6, .int .i64 c4.1)] (And.intro rfl (And.intro rfl trivial)) fun j => ?_
  refine wpn_assoc ?_
  refine wpn_qa hO [1] [(1, .pointer (some ⟨bm1, 0, none⟩)), (6, .int .i64 c4.1), (20, .bool ((decide (c4.1 < 0)) || (decide (c4.1 ≥ (c4.2.view.Words.length : Int)))))] (And.intro (And.intro rfl rfl) (And.intro (And.intro rfl rfl) (fun _ => And.intro rfl (And.intro rfl (And.intro rfl trivial))))) fun j => ?_
  rcases ite_some hF with ⟨hb25, hF⟩ | ⟨hb25, hF⟩
  · refine wpn_cT (congrArg Value.bool hb25) ?_
    refine wpn_assoc ?_
    refine wpn_qa hO [] [(1, .pointer (some ⟨bm1, 0, none⟩)), (4, .int .i64 0), (5, .bool false)] (And.intro rfl (And.intro rfl (And.intro rfl trivial))) fun j => ?_
    refine wpn_rt ?_
    injection hF with hF
    subst hF
    have hO := hO.sel [1, 2] (by decide)
    exact hQ _ _ _ _ _ rfl hO hL ⟨_, _, _, _, _, rfl, rfl, r11, r15, r19, w24⟩
  · refine wpn_cF (congrArg Value.bool hb25) ?_
    refine wpn_sk ?_
    refine wpn_q hO 6 [1] [(1, .pointer (some ⟨bm1, 0, none⟩)), (25, .slice A17 c4.2.view.Words.length c18), (26, .int .i64 c4.1)] (And.intro (And.intro rfl rfl) (And.intro rfl (And.intro rfl (And.intro rfl trivial)))) fun j => ?_
    obtain ⟨y26, g27, hF⟩ := bind_some hF
    refine wpn_idx (T := (Ty.int .i64)) r19 hO.base rfl rfl g27 (by decide) fun a28 _ k29 m30 => ?_
    obtain rfl : _ = ([.int .i64 y26] : List Value) := k29
    refine wpn_ld rfl (m30.le hO.base).fst ?_
    refine wpn_qa hO [] [(1, .pointer (some ⟨bm1, 0, none⟩)), (4, .int .i64 y26), (5, .bool true)] (And.intro rfl (And.intro rfl (And.intro rfl trivial))) fun j => ?_
    refine wpn_r1 ?_
    injection hF with hF
    subst hF
    have hO := hO.sel [1, 2] (by decide)
    exact hQ _ _ _ _ _ rfl hO hL ⟨_, _, _, _, _, rfl, rfl, r11, r15, r19, w24⟩
theorem w_expr_add_lays_op1q4 {τ : Hp} {p0 : S_expr_add} {q1 : S_expr_stack} {bm1 : Nat} {vm1_0 : Value} {vm1_1 : Value} {vm1_3 : Value} {vm1_4 : Value} {om1_4 : Ob} (rm1_0 : RdT Ty.bool τ vm1_0 q1.view.Known) (rm1_1 : RdT (Ty.int .i64) τ vm1_1 q1.view.Regs) (rm1_3 : RdT (Ty.int .i64) τ vm1_3 q1.view.Words) (wm1_4 : OwnO (Ty.int .i64) 2 τ vm1_4 q1.l om1_4) {rr : Int × Bool × S_expr_stack} (hF : F_expr_add_lays_op1q4 p0 q1 = some rr) :
    Ctr Try.prog 73 #[.agg #[], .pointer (some ⟨bm1, 0, none⟩)] τ [some (bm1, ⟨[vm1_0, vm1_1, .int .i64 q1.view.Base, vm1_3, vm1_4], 65, 5, true⟩), om1_4] (fun v τ' vs' => ∃ (u0_0 : Value) (u0_1 : Value) (u0_3 : Value) (u0_4 : Value) (y0_4 : Ob), v = .tuple #[.int .i64 rr.1, .bool rr.2.1] ∧ vs' = [some (bm1, ⟨[u0_0, u0_1, .int .i64 rr.2.2.view.Base, u0_3, u0_4], 65, 5, true⟩), y0_4] ∧ RdT Ty.bool τ' u0_0 rr.2.2.view.Known ∧ RdT (Ty.int .i64) τ' u0_1 rr.2.2.view.Regs ∧ RdT (Ty.int .i64) τ' u0_3 rr.2.2.view.Words ∧ OwnO (Ty.int .i64) 2 τ' u0_4 rr.2.2.l y0_4) := by
  obtain ⟨Am1_0, cm1_0, rfl, -⟩ := rm1_0.form
  obtain ⟨Am1_1, cm1_1, rfl, -⟩ := rm1_1.form
  obtain ⟨Am1_3, cm1_3, rfl, -⟩ := rm1_3.form
  obtain ⟨Am1_4, cm1_4, rfl, -⟩ := wm1_4.form
  refine ctr_of (args := [.agg #[], .pointer (some ⟨bm1, 0, none⟩)]) hm Try.func73 s73 rfl fun w0 σ hO Q hQ => ?_
  unfold F_expr_add_lays_op1q4 at hF
  have hL := Hp.le.refl τ
  show wpn _ _ a73.body _ _ _
  unfold a73
  dsimp only
  refine wpn_bx (n := 0) hO rfl rfl fun b3 σ hO => ?_
  have hO : Obs _ _ [_, _, _] := hO
  refine wpn_qa hO [] [(1, .pointer (some ⟨bm1, 0, none⟩))] (And.intro rfl trivial) fun j => ?_
  refine wpn_q hO 1 [] [(1, .pointer (some ⟨bm1, 0, none⟩)), (6, .pointer (some ⟨bm1, 0, none⟩))] (And.intro rfl (And.intro rfl trivial)) fun j => ?_
  obtain ⟨c4, h5, hF⟩ := bind_some hF
  have hO := hO.sel [2, 0, 1] (by decide)
  refine wpn_c (hs := [_]) (vs := [_, _]) hO (w_expr_stack_pop_op0q4 rm1_0 rm1_1 rm1_3 wm1_4 h5) rfl fun _ σ _ _ hO h6 h7 => ?_
  have hL := hL.trans h6
  obtain ⟨v8, v12, v16, v20, o23, rfl, rfl, r11, r15, r19, w24⟩ := h7
  obtain ⟨A9, c10, rfl, -⟩ := r11.form
  obtain ⟨A13, c14, rfl, -⟩ := r15.form
  obtain ⟨A17, c18, rfl, -⟩ := r19.form
  obtain ⟨A21, c22, rfl, -⟩ := w24.form
  have hO : Obs _ _ [_, _, _] := hO
  refine wpn_q hO 1 [] [(1, .pointer (some ⟨bm1, 0, none⟩)), (7, .int .i64 c4.1), (8, .pointer (some ⟨bm1, 0, none⟩))] (And.intro rfl (And.intro rfl (And.intro rfl trivial))) fun j => ?_
  obtain ⟨c25, h26, hF⟩ := bind_some hF
  refine wpn_c (hs := [_]) (vs := [_, _]) hO (w_expr_stack_pop_op0q4 r11 r15 r19 w24 h26) rfl fun _ σ _ _ hO h27 h28 => ?_
  have hL := hL.trans h27
  obtain ⟨v29, v33, v37, v41, o44, rfl, rfl, r32, r36, r40, w45⟩ := h28
  obtain ⟨A30, c31, rfl, -⟩ := r32.form
  obtain ⟨A34, c35, rfl, -⟩ := r36.form
  obtain ⟨A38, c39, rfl, -⟩ := r40.form
  obtain ⟨A42, c43, rfl, -⟩ := w45.form
  have hO : Obs _ _ [_, _, _] := hO
  refine wpn_qa hO [] [(1, .pointer (some ⟨bm1, 0, none⟩)), (4, .int .i64 (IntKind.i64.wrap (c4.1 + c25.1))), (5, .bool true)] (And.intro rfl (And.intro rfl (And.intro rfl trivial))) fun j => ?_
  refine wpn_r1 ?_
  injection hF with hF
  subst hF
  have hO := hO.sel [1, 2] (by decide)
  exact hQ _ _ _ _ _ rfl hO hL ⟨_, _, _, _, _, rfl, rfl, r32, r36, r40, w45⟩
theorem w_expr_neg_lays_op1q4 {τ : Hp} {p0 : S_expr_neg} {q1 : S_expr_stack} {bm1 : Nat} {vm1_0 : Value} {vm1_1 : Value} {vm1_3 : Value} {vm1_4 : Value} {om1_4 : Ob} (rm1_0 : RdT Ty.bool τ vm1_0 q1.view.Known) (rm1_1 : RdT (Ty.int .i64) τ vm1_1 q1.view.Regs) (rm1_3 : RdT (Ty.int .i64) τ vm1_3 q1.view.Words) (wm1_4 : OwnO (Ty.int .i64) 2 τ vm1_4 q1.l om1_4) {rr : Int × Bool × S_expr_stack} (hF : F_expr_neg_lays_op1q4 p0 q1 = some rr) :
    Ctr Try.prog 75 #[.agg #[], .pointer (some ⟨bm1, 0, none⟩)] τ [some (bm1, ⟨[vm1_0, vm1_1, .int .i64 q1.view.Base, vm1_3, vm1_4], 65, 5, true⟩), om1_4] (fun v τ' vs' => ∃ (u0_0 : Value) (u0_1 : Value) (u0_3 : Value) (u0_4 : Value) (y0_4 : Ob), v = .tuple #[.int .i64 rr.1, .bool rr.2.1] ∧ vs' = [some (bm1, ⟨[u0_0, u0_1, .int .i64 rr.2.2.view.Base, u0_3, u0_4], 65, 5, true⟩), y0_4] ∧ RdT Ty.bool τ' u0_0 rr.2.2.view.Known ∧ RdT (Ty.int .i64) τ' u0_1 rr.2.2.view.Regs ∧ RdT (Ty.int .i64) τ' u0_3 rr.2.2.view.Words ∧ OwnO (Ty.int .i64) 2 τ' u0_4 rr.2.2.l y0_4) := by
  obtain ⟨Am1_0, cm1_0, rfl, -⟩ := rm1_0.form
  obtain ⟨Am1_1, cm1_1, rfl, -⟩ := rm1_1.form
  obtain ⟨Am1_3, cm1_3, rfl, -⟩ := rm1_3.form
  obtain ⟨Am1_4, cm1_4, rfl, -⟩ := wm1_4.form
  refine ctr_of (args := [.agg #[], .pointer (some ⟨bm1, 0, none⟩)]) hm Try.func75 s75 rfl fun w0 σ hO Q hQ => ?_
  unfold F_expr_neg_lays_op1q4 at hF
  have hL := Hp.le.refl τ
  show wpn _ _ a75.body _ _ _
  unfold a75
  dsimp only
  refine wpn_bx (n := 0) hO rfl rfl fun b3 σ hO => ?_
  have hO : Obs _ _ [_, _, _] := hO
  refine wpn_qa hO [] [(1, .pointer (some ⟨bm1, 0, none⟩))] (And.intro rfl trivial) fun j => ?_
  refine wpn_q hO 1 [] [(1, .pointer (some ⟨bm1, 0, none⟩)), (6, .pointer (some ⟨bm1, 0, none⟩))] (And.intro rfl (And.intro rfl trivial)) fun j => ?_
  obtain ⟨c4, h5, hF⟩ := bind_some hF
  have hO := hO.sel [2, 0, 1] (by decide)
  refine wpn_c (hs := [_]) (vs := [_, _]) hO (w_expr_stack_pop_op0q4 rm1_0 rm1_1 rm1_3 wm1_4 h5) rfl fun _ σ _ _ hO h6 h7 => ?_
  have hL := hL.trans h6
  obtain ⟨v8, v12, v16, v20, o23, rfl, rfl, r11, r15, r19, w24⟩ := h7
  obtain ⟨A9, c10, rfl, -⟩ := r11.form
  obtain ⟨A13, c14, rfl, -⟩ := r15.form
  obtain ⟨A17, c18, rfl, -⟩ := r19.form
  obtain ⟨A21, c22, rfl, -⟩ := w24.form
  have hO : Obs _ _ [_, _, _] := hO
  refine wpn_qa hO [] [(1, .pointer (some ⟨bm1, 0, none⟩)), (4, .int .i64 (IntKind.i64.wrap (0 - c4.1))), (5, .bool true)] (And.intro rfl (And.intro rfl (And.intro rfl trivial))) fun j => ?_
  refine wpn_r1 ?_
  injection hF with hF
  subst hF
  have hO := hO.sel [1, 2] (by decide)
  exact hQ _ _ _ _ _ rfl hO hL ⟨_, _, _, _, _, rfl, rfl, r11, r15, r19, w24⟩
theorem w_inv_I_expr_doer_lays_op1q4 {τ : Hp} {x : I_expr_doer} {q1 : S_expr_stack} {bm1 : Nat} {vm1_0 : Value} {vm1_1 : Value} {vm1_3 : Value} {vm1_4 : Value} {om1_4 : Ob} (rm1_0 : RdT Ty.bool τ vm1_0 q1.view.Known) (rm1_1 : RdT (Ty.int .i64) τ vm1_1 q1.view.Regs) (rm1_3 : RdT (Ty.int .i64) τ vm1_3 q1.view.Words) (wm1_4 : OwnO (Ty.int .i64) 2 τ vm1_4 q1.l om1_4) {rr : Int × Bool × S_expr_stack} (hF : F_inv_I_expr_doer_lays_op1q4 x q1 = some rr) :
    InvC Try.prog (vI_expr_doer x) "theodolite/expr.lays" #[.pointer (some ⟨bm1, 0, none⟩)] τ [some (bm1, ⟨[vm1_0, vm1_1, .int .i64 q1.view.Base, vm1_3, vm1_4], 65, 5, true⟩), om1_4] (fun v τ' vs' => ∃ (u0_0 : Value) (u0_1 : Value) (u0_3 : Value) (u0_4 : Value) (y0_4 : Ob), v = .tuple #[.int .i64 rr.1, .bool rr.2.1] ∧ vs' = [some (bm1, ⟨[u0_0, u0_1, .int .i64 rr.2.2.view.Base, u0_3, u0_4], 65, 5, true⟩), y0_4] ∧ RdT Ty.bool τ' u0_0 rr.2.2.view.Known ∧ RdT (Ty.int .i64) τ' u0_1 rr.2.2.view.Regs ∧ RdT (Ty.int .i64) τ' u0_3 rr.2.2.view.Words ∧ OwnO (Ty.int .i64) 2 τ' u0_4 rr.2.2.l y0_4) := by
  cases x with
  | nil => exact nomatch (show none = some rr from hF)
  | c_number a => exact ⟨86, _, 65, rfl, fun w => by kernel_rfl, by kernel_rfl, w_expr_number_lays_op1q4 (p0 := a) rm1_0 rm1_1 rm1_3 wm1_4 hF⟩
  | c_reg a => exact ⟨87, _, 67, rfl, fun w => by kernel_rfl, by kernel_rfl, w_expr_reg_lays_op1q4 (p0 := a) rm1_0 rm1_1 rm1_3 wm1_4 hF⟩
  | c_base a => exact ⟨88, _, 69, rfl, fun w => by kernel_rfl, by kernel_rfl, w_expr_base_lays_op1q4 (p0 := a) rm1_0 rm1_1 rm1_3 wm1_4 hF⟩
  | c_word a => exact ⟨90, _, 71, rfl, fun w => by kernel_rfl, by kernel_rfl, w_expr_word_lays_op1q4 (p0 := a) rm1_0 rm1_1 rm1_3 wm1_4 hF⟩
  | c_add a => exact ⟨91, _, 73, rfl, fun w => by kernel_rfl, by kernel_rfl, w_expr_add_lays_op1q4 (p0 := a) rm1_0 rm1_1 rm1_3 wm1_4 hF⟩
  | c_neg a => exact ⟨92, _, 75, rfl, fun w => by kernel_rfl, by kernel_rfl, w_expr_neg_lays_op1q4 (p0 := a) rm1_0 rm1_1 rm1_3 wm1_4 hF⟩
theorem w_expr_Eval {τ : Hp} {v0 : Value} {p0 : (List S_api_Loc)} {p1 : S_api_View} {v1_0 : Value} {v1_1 : Value} {v1_3 : Value} (r0 : RdT TyS_api_Loc τ v0 p0) (r1_0 : RdT Ty.bool τ v1_0 p1.Known) (r1_1 : RdT (Ty.int .i64) τ v1_1 p1.Regs) (r1_3 : RdT (Ty.int .i64) τ v1_3 p1.Words) {rr : Int × Int} (hF : F_expr_Eval p0 p1 = some rr) :
    Ctr Try.prog 22 #[v0, .agg #[v1_0, v1_1, .int .i64 p1.Base, v1_3]] τ [] (fun v τ' vs' => v = .tuple #[.int .i64 rr.1, .int .i64 rr.2] ∧ vs' = []) := by
  obtain ⟨A0, c0, rfl, -⟩ := r0.form
  obtain ⟨A1_0, c1_0, rfl, -⟩ := r1_0.form
  obtain ⟨A1_1, c1_1, rfl, -⟩ := r1_1.form
  obtain ⟨A1_3, c1_3, rfl, -⟩ := r1_3.form
  refine ctr_of (args := [.slice A0 p0.length c0, .agg #[(.slice A1_0 p1.Known.length c1_0), (.slice A1_1 p1.Regs.length c1_1), .int .i64 p1.Base, (.slice A1_3 p1.Words.length c1_3)]]) hm Try.func22 s22 rfl fun w0 σ hO Q hQ => ?_
  unfold F_expr_Eval at hF
  have hL := Hp.le.refl τ
  show wpn _ _ a22.body _ _ _
  unfold a22
  dsimp only
  refine wpn_bx (n := 4) hO rfl rfl fun b3 σ hO => ?_
  have hO : Obs _ _ [_] := hO
  refine wpn_qa hO [] [(0, .slice A0 p0.length c0), (3, .pointer (some ⟨b3, 0, none⟩))] (And.intro rfl (And.intro rfl trivial)) fun j => ?_
  refine wpn_q hO 1 [] [(3, .pointer (some ⟨b3, 0, none⟩)), (14, .slice A0 p0.length c0)] (And.intro rfl (And.intro rfl trivial)) fun j => ?_
  obtain ⟨c4, h5, hF⟩ := bind_some hF
  refine wpn_c0 hO (w_expr_doers r0 h5) rfl fun _ σ _ _ hO h6 h7 => ?_
  have hL := hL.trans h6
  have r0 := r0.le h6
  have r1_0 := r1_0.le h6
  have r1_1 := r1_1.le h6
  have r1_3 := r1_3.le h6
  obtain ⟨v8, o11, rfl, rfl, w12⟩ := h7
  obtain ⟨A9, c10, rfl, -⟩ := w12.form
  have hO : Obs _ _ [_, _] := hO
  refine wpn_qa hO [] [(3, .pointer (some ⟨b3, 0, none⟩)), (6, .slice A9 c4.1.length c10), (7, .bool c4.2)] (And.intro rfl (And.intro rfl (And.intro rfl trivial))) fun j => ?_
  refine wpn_assoc ?_
  refine wpn_qa hO [] [(3, .pointer (some ⟨b3, 0, none⟩)), (6, .slice A9 c4.1.length c10), (19, .bool (!c4.2))] (And.intro rfl (And.intro rfl (And.intro rfl trivial))) fun j => ?_
  rcases ite_some hF with ⟨hb13, hF⟩ | ⟨hb13, hF⟩
  · refine wpn_cT (congrArg Value.bool hb13) ?_
    refine wpn_assoc ?_
    refine wpn_qa hO [] [(4, .int .i64 0), (5, .int .i64 1)] (And.intro rfl (And.intro rfl trivial)) fun j => ?_
    refine wpn_rt ?_
    injection hF with hF
    subst hF
    have hO := hO.sel [] (by decide)
    exact hQ _ _ _ _ _ rfl hO hL ⟨rfl, rfl⟩
  · refine wpn_cF (congrArg Value.bool hb13) ?_
    refine wpn_sk ?_
    refine wpn_q hO 2 [0] [(6, .slice A9 c4.1.length c10), (21, .agg #[(.slice A1_0 p1.Known.length c1_0), (.slice A1_1 p1.Regs.length c1_1), (.int .i64 p1.Base), (.slice A1_3 p1.Words.length c1_3), (.slice none 0 0)])] (And.intro (And.intro rfl rfl) (And.intro rfl (And.intro rfl trivial))) fun j => ?_
    refine wpn_bx (n := 5) hO rfl rfl fun b14 σ hO => ?_
    have hO : Obs _ _ [_, _, _] := hO
    refine wpn_qa hO [] [(6, .slice A9 c4.1.length c10), (8, .pointer (some ⟨b14, 0, none⟩))] (And.intro rfl (And.intro rfl trivial)) fun j => ?_
    refine wpn_assoc ?_
    refine wpn_qa hO [] [(8, .pointer (some ⟨b14, 0, none⟩)), (23, .slice A9 c4.1.length c10), (24, .int .i64 (c4.1.length : Int)), (25, .int .i64 0)] (And.intro rfl (And.intro rfl (And.intro rfl (And.intro rfl trivial)))) fun j => ?_
    refine wpn_bl ?_
    have hO := hO.no
    have hO : Obs _ _ [_, _, _, _] := hO
    have hO := hO.sel [2, 3, 1] (by decide)
    refine wpn_lp (fun (n : Nat) e' σ' => ∃ (A81 : Option Addr) (c82 : Nat) (x83 : List Bool) (A85 : Option Addr) (c86 : Nat) (x87 : List Int) (x89 : Int) (A90 : Option Addr) (c91 : Nat) (x92 : List Int) (A94 : Option Addr) (c95 : Nat) (o96 : Ob) (x97 : List Int) (A99 : Option Addr) (c100 : Nat) (o101 : Ob) (x102 : List I_expr_doer) (x104 : Int) (τ' : Hp), agr [(8, .pointer (some ⟨b14, 0, none⟩)), (23, .slice A99 x102.length c100), (24, .int .i64 (c4.1.length : Int)), (25, .int .i64 x104)] e' ∧ Obs τ' σ' [some (b14, ⟨[.slice A81 x83.length c82, .slice A85 x87.length c86, .int .i64 x89, .slice A90 x92.length c91, .slice A94 x97.length c95], 65, 5, true⟩), o96, o101] ∧ Hp.le τ τ' ∧ RdT Ty.bool τ' (.slice A81 x83.length c82) x83 ∧ RdT (Ty.int .i64) τ' (.slice A85 x87.length c86) x87 ∧ RdT (Ty.int .i64) τ' (.slice A90 x92.length c91) x92 ∧ OwnO (Ty.int .i64) 2 τ' (.slice A94 x97.length c95) x97 o96 ∧ OwnO TyI_expr_doer 67 τ' (.slice A99 x102.length c100) x102 o101 ∧ F_expr_Eval_l3 c4 n x83 x87 x89 x92 x97 x102 x104 = some rr) big ⟨A1_0, c1_0, p1.Known, A1_1, c1_1, p1.Regs, p1.Base, A1_3, c1_3, p1.Words, none, 0, none, [], A9, c10, o11, c4.1, 0, _, And.intro rfl (And.intro rfl (And.intro rfl (And.intro rfl trivial))), hO, hL, r1_0, r1_1, r1_3, OwnO.nil _ _ _, w12, hF⟩ ?_
    clear hF hO hL
    rintro n161 e σ ⟨A81, c82, x83, A85, c86, x87, x89, A90, c91, x92, A94, c95, o96, x97, A99, c100, o101, x102, x104, _, hA, hO, hL, r84, r88, r93, w98, w103, hF⟩
    rw [← sets_agr _ _ hA]
    cases n161 with
    | zero => exact nomatch (show none = some rr from hF)
    | succ n161 =>
      replace hF : F_expr_Eval_l3B (F_expr_Eval_l3 c4 n161) c4 x83 x87 x89 x92 x97 x102 x104 = some rr := hF
      unfold F_expr_Eval_l3B at hF
      refine wpn_qa hO [] [(8, .pointer (some ⟨b14, 0, none⟩)), (23, .slice A99 x102.length c100), (24, .int .i64 (c4.1.length : Int)), (25, .int .i64 x104), (26, .bool (decide (x104 < (c4.1.length : Int))))] (And.intro rfl (And.intro rfl (And.intro rfl (And.intro rfl (And.intro rfl trivial))))) fun j => ?_
      rcases ite_some hF with ⟨hb162, hF⟩ | ⟨hb162, hF⟩
      · refine wpn_cT (congrArg Value.bool hb162) ?_
        refine wpn_sk ?_
        refine wpn_bl ?_
        obtain ⟨y163, g164, hF⟩ := bind_some hF
        refine wpn_ido (T := TyI_expr_doer) hO w103 (i := 2) rfl rfl rfl g164 (by decide) fun a165 _ k166 m167 i168 => ?_
        have k169 := k166
        obtain rfl : _ = ([vI_expr_doer y163] : List Value) := k169
        refine wpn_ld rfl m167.fst ?_
        refine wpn_qa hO [] [(8, .pointer (some ⟨b14, 0, none⟩)), (10, vI_expr_doer y163), (23, .slice A99 x102.length c100), (24, .int .i64 (c4.1.length : Int)), (25, .int .i64 x104)] (And.intro rfl (And.intro rfl (And.intro rfl (And.intro rfl (And.intro rfl trivial))))) fun j => ?_
        refine wpn_q hO 2 [] [(8, .pointer (some ⟨b14, 0, none⟩)), (23, .slice A99 x102.length c100), (24, .int .i64 (c4.1.length : Int)), (25, .int .i64 x104), (30, vI_expr_doer y163), (31, .pointer (some ⟨b14, 0, none⟩))] (And.intro rfl (And.intro rfl (And.intro rfl (And.intro rfl (And.intro rfl (And.intro rfl trivial)))))) fun j => ?_
        obtain ⟨c170, h171, hF⟩ := bind_some hF
        have hO := hO.sel [2, 0, 1] (by decide)
        refine wpn_iv (hs := [_]) (vs := [_, _]) rfl hO (w_inv_I_expr_doer_lays_op1q4 r84 r88 r93 w98 h171) rfl fun _ σ _ _ hO h172 h173 => ?_
        have hL := hL.trans h172
        have w103 := w103.le h172
        obtain ⟨v174, v178, v182, v186, o189, rfl, rfl, r177, r181, r185, w190⟩ := h173
        obtain ⟨A175, c176, rfl, -⟩ := r177.form
        obtain ⟨A179, c180, rfl, -⟩ := r181.form
        obtain ⟨A183, c184, rfl, -⟩ := r185.form
        obtain ⟨A187, c188, rfl, -⟩ := w190.form
        have hO : Obs _ _ [_, _, _] := hO
        refine wpn_qa hO [] [(8, .pointer (some ⟨b14, 0, none⟩)), (11, .int .i64 c170.1), (12, .bool c170.2.1), (23, .slice A99 x102.length c100), (24, .int .i64 (c4.1.length : Int)), (25, .int .i64 x104)] (And.intro rfl (And.intro rfl (And.intro rfl (And.intro rfl (And.intro rfl (And.intro rfl trivial)))))) fun j => ?_
        refine wpn_assoc ?_
        refine wpn_qa hO [] [(8, .pointer (some ⟨b14, 0, none⟩)), (11, .int .i64 c170.1), (23, .slice A99 x102.length c100), (24, .int .i64 (c4.1.length : Int)), (25, .int .i64 x104), (36, .bool (!c170.2.1))] (And.intro rfl (And.intro rfl (And.intro rfl (And.intro rfl (And.intro rfl (And.intro rfl trivial)))))) fun j => ?_
        rcases ite_some hF with ⟨hb191, hF⟩ | ⟨hb191, hF⟩
        · refine wpn_cT (congrArg Value.bool hb191) ?_
          refine wpn_assoc ?_
          refine wpn_qa hO [] [(4, .int .i64 0), (5, .int .i64 4)] (And.intro rfl (And.intro rfl trivial)) fun j => ?_
          refine wpn_rt ?_
          refine inb_r1 ?_
          refine thn_r1 ?_
          refine thn_r1 ?_
          refine inb_r1 ?_
          refine thn_r1 ?_
          injection hF with hF
          subst hF
          have hO := hO.sel [] (by decide)
          exact hQ _ _ _ _ _ rfl hO hL ⟨rfl, rfl⟩
        · refine wpn_cF (congrArg Value.bool hb191) ?_
          refine wpn_sk ?_
          refine wpn_rlast ?_
          refine wpn_q hO 6 [1] [(8, .pointer (some ⟨b14, 0, none⟩)), (23, .slice A99 x102.length c100), (24, .int .i64 (c4.1.length : Int)), (25, .int .i64 x104), (37, .pointer (some ⟨b14, 0, none⟩)), (41, .slice A187 c170.2.2.l.length c188), (42, .int .i64 c170.1)] (And.intro (And.intro rfl rfl) (And.intro rfl (And.intro rfl (And.intro rfl (And.intro rfl (And.intro rfl (And.intro rfl (And.intro rfl trivial)))))))) fun j => ?_
          obtain ⟨_, hr, hF⟩ := bind_some hF
          refine wpn_ap1 (T := (Ty.int .i64)) (y := c170.1) hO w190 (i := 2) rfl rfl (fun _ => rfl) rfl rfl rfl hr (by decide) fun u _ σ o194 w195 hO => ?_
          obtain ⟨A192, c193, rfl, -⟩ := w195.form
          have hO : Obs _ _ [_, _, _] := hO
          refine wpn_q hO 2 [] [(8, .pointer (some ⟨b14, 0, none⟩)), (23, .slice A99 x102.length c100), (24, .int .i64 (c4.1.length : Int)), (25, .int .i64 x104), (44, .slice A192 (c170.2.2.l ++ [c170.1]).length c193), (46, .pointer (some ⟨b14, 4, none⟩))] (And.intro rfl (And.intro rfl (And.intro rfl (And.intro rfl (And.intro rfl (And.intro rfl trivial)))))) fun j => ?_
          refine wpn_st hO (i := 1) rfl (off := 4) rfl rfl rfl rfl (Nat.le_of_ble_eq_true rfl) rfl fun σ hO => ?_
          have hO : Obs _ _ [_, _, _] := hO
          refine wpn_nil ?_
          refine wpn_end ?_
          refine inb_i ?_
          refine thn_i ?_
          refine wpn_rlast ?_
          refine wpn_qa hO [] [(8, .pointer (some ⟨b14, 0, none⟩)), (23, .slice A99 x102.length c100), (24, .int .i64 (c4.1.length : Int)), (25, .int .i64 (IntKind.i64.wrap (x104 + 1)))] (And.intro rfl (And.intro rfl (And.intro rfl (And.intro rfl trivial)))) fun j => ?_
          refine wpn_end ?_
          refine thn_i ?_
          have hO := hO.sel [1, 2, 0] (by decide)
          exact ⟨n161, Nat.lt_succ_self _, A175, c176, c170.2.2.view.Known, A179, c180, c170.2.2.view.Regs, c170.2.2.view.Base, A183, c184, c170.2.2.view.Words, A192, c193, o194, (c170.2.2.l ++ [c170.1]), A99, c100, o101, x102, (IntKind.i64.wrap (x104 + 1)), _, And.intro rfl (And.intro rfl (And.intro rfl (And.intro rfl trivial))), hO, hL, r177, r181, r185, w195, w103, hF⟩
      · refine wpn_cF (congrArg Value.bool hb162) ?_
        refine wpn_ex ?_
        refine thn_x ?_
        refine inb_x ?_
        refine thn_i ?_
        refine wpn_assoc ?_
        refine wpn_qa hO [0] [(8, .pointer (some ⟨b14, 0, none⟩)), (53, .bool ((x97.length : Int) == 0))] (And.intro (And.intro rfl rfl) (And.intro rfl (And.intro rfl trivial))) fun j => ?_
        rcases ite_some hF with ⟨hb196, hF⟩ | ⟨hb196, hF⟩
        · refine wpn_cT (congrArg Value.bool hb196) ?_
          refine wpn_assoc ?_
          refine wpn_qa hO [] [(4, .int .i64 0), (5, .int .i64 4)] (And.intro rfl (And.intro rfl trivial)) fun j => ?_
          refine wpn_rt ?_
          injection hF with hF
          subst hF
          have hO := hO.sel [] (by decide)
          exact hQ _ _ _ _ _ rfl hO hL ⟨rfl, rfl⟩
        · refine wpn_cF (congrArg Value.bool hb196) ?_
          refine wpn_sk ?_
          refine wpn_q hO 1 [] [(54, .pointer (some ⟨b14, 0, none⟩))] (And.intro rfl trivial) fun j => ?_
          obtain ⟨c197, h198, hF⟩ := bind_some hF
          have hO := hO.sel [2, 0, 1] (by decide)
          refine wpn_c (hs := [_]) (vs := [_, _]) hO (w_expr_stack_pop_op0q4 r84 r88 r93 w98 h198) rfl fun _ σ _ _ hO h199 h200 => ?_
          have hL := hL.trans h199
          obtain ⟨v201, v205, v209, v213, o216, rfl, rfl, r204, r208, r212, w217⟩ := h200
          obtain ⟨A202, c203, rfl, -⟩ := r204.form
          obtain ⟨A206, c207, rfl, -⟩ := r208.form
          obtain ⟨A210, c211, rfl, -⟩ := r212.form
          obtain ⟨A214, c215, rfl, -⟩ := w217.form
          have hO : Obs _ _ [_, _, _] := hO
          refine wpn_qa hO [] [(4, .int .i64 c197.1), (5, .int .i64 0)] (And.intro rfl (And.intro rfl trivial)) fun j => ?_
          refine wpn_r1 ?_
          injection hF with hF
          subst hF
          have hO := hO.sel [] (by decide)
          exact hQ _ _ _ _ _ rfl hO hL ⟨rfl, rfl⟩
theorem w_law06_works {τ : Hp}   {rr : Bool} (hF : F_law06_works  = some rr) :
    Ctr Try.prog 7 #[] τ [] (fun v τ' vs' => v = .bool rr ∧ vs' = []) := by
  refine ctr_of (args := []) hm Try.func7 s7 rfl fun w0 σ hO Q hQ => ?_
  unfold F_law06_works at hF
  have hL := Hp.le.refl τ
  show wpn _ _ a7.body _ _ _
  unfold a7
  dsimp only
  refine wpn_qa hO [] [] (trivial) fun j => ?_
  refine wpn_q hO 2 [] [(9, .agg #[(.int .u8 3), (.int .i64 (-3))]), (10, .agg #[(.int .u8 4), (.int .i64 0)])] (And.intro rfl (And.intro rfl trivial)) fun j => ?_
  refine wpn_lit (T := TyS_api_Loc) (l := ([(⟨(3 : UInt8), (-3)⟩ : S_api_Loc), (⟨(4 : UInt8), 0⟩ : S_api_Loc)] : List S_api_Loc)) (cs := [.int .u8 3, .int .i64 (-3), .int .u8 4, .int .i64 0]) hO rfl ⟨[.int .u8 3, .int .i64 (-3)], _, rfl, rfl, ⟨[.int .u8 4, .int .i64 0], _, rfl, rfl, rfl⟩⟩ rfl (by decide) fun _ σ o3 w4 hO => ?_
  obtain ⟨A1, c2, rfl, -⟩ := w4.form
  have hO : Obs _ _ [_] := hO
  refine wpn_qa hO [] [(1, .slice A1 ([(⟨(3 : UInt8), (-3)⟩ : S_api_Loc), (⟨(4 : UInt8), 0⟩ : S_api_Loc)] : List S_api_Loc).length c2)] (And.intro rfl trivial) fun j => ?_
  refine wpn_q hO 1 [] [(1, .slice A1 ([(⟨(3 : UInt8), (-3)⟩ : S_api_Loc), (⟨(4 : UInt8), 0⟩ : S_api_Loc)] : List S_api_Loc).length c2), (13, .slice A1 ([(⟨(3 : UInt8), (-3)⟩ : S_api_Loc), (⟨(4 : UInt8), 0⟩ : S_api_Loc)] : List S_api_Loc).length c2)] (And.intro rfl (And.intro rfl trivial)) fun j => ?_
  obtain ⟨_, h6, r5, hO⟩ := w4.share hO (i := 0) rfl
  have hL := hL.trans h6
  have hO : Obs _ _ [_] := hO
  obtain ⟨c7, h8, hF⟩ := bind_some hF
  refine wpn_c0 hO (w_expr_Put (RdT.nil Ty.u8 _) r5 h8) rfl fun _ σ _ _ hO h9 h10 => ?_
  have hL := hL.trans h9
  have r5 := r5.le h9
  obtain ⟨v11, o14, rfl, rfl, w15⟩ := h10
  obtain ⟨A12, c13, rfl, -⟩ := w15.form
  have hO : Obs _ _ [_, _] := hO
  refine wpn_qa hO [] [(1, .slice A1 ([(⟨(3 : UInt8), (-3)⟩ : S_api_Loc), (⟨(4 : UInt8), 0⟩ : S_api_Loc)] : List S_api_Loc).length c2), (2, .slice A12 c7.1.length c13), (3, .int .i64 c7.2)] (And.intro rfl (And.intro rfl (And.intro rfl trivial))) fun j => ?_
  refine wpn_q hO 1 [] [(1, .slice A1 ([(⟨(3 : UInt8), (-3)⟩ : S_api_Loc), (⟨(4 : UInt8), 0⟩ : S_api_Loc)] : List S_api_Loc).length c2), (2, .slice A12 c7.1.length c13), (3, .int .i64 c7.2), (18, .slice A12 c7.1.length c13)] (And.intro rfl (And.intro rfl (And.intro rfl (And.intro rfl trivial)))) fun j => ?_
  obtain ⟨_, h17, r16, hO⟩ := w15.share hO (i := 1) rfl
  have hL := hL.trans h17
  have r5 := r5.le h17
  have hO : Obs _ _ [_, _] := hO
  obtain ⟨c18, h19, hF⟩ := bind_some hF
  refine wpn_c0 hO (w_expr_Get r16 h19) rfl fun _ σ _ _ hO h20 h21 => ?_
  have hL := hL.trans h20
  have r5 := r5.le h20
  have r16 := r16.le h20
  obtain ⟨v22, rfl, rfl, r25⟩ := h21
  obtain ⟨A23, c24, rfl, -⟩ := r25.form
  have hO : Obs _ _ [_, _] := hO
  refine wpn_qa hO [] [(1, .slice A1 ([(⟨(3 : UInt8), (-3)⟩ : S_api_Loc), (⟨(4 : UInt8), 0⟩ : S_api_Loc)] : List S_api_Loc).length c2), (2, .slice A12 c7.1.length c13), (3, .int .i64 c7.2), (4, .slice A23 c18.1.length c24), (5, .int .i64 c18.2.1), (6, .int .i64 c18.2.2)] (And.intro rfl (And.intro rfl (And.intro rfl (And.intro rfl (And.intro rfl (And.intro rfl trivial)))))) fun j => ?_
  refine wpn_q hO 1 [] [(1, .slice A1 ([(⟨(3 : UInt8), (-3)⟩ : S_api_Loc), (⟨(4 : UInt8), 0⟩ : S_api_Loc)] : List S_api_Loc).length c2), (2, .slice A12 c7.1.length c13), (3, .int .i64 c7.2), (4, .slice A23 c18.1.length c24), (5, .int .i64 c18.2.1), (6, .int .i64 c18.2.2), (24, .slice A23 c18.1.length c24)] (And.intro rfl (And.intro rfl (And.intro rfl (And.intro rfl (And.intro rfl (And.intro rfl (And.intro rfl trivial))))))) fun j => ?_
  refine wpn_lit (T := (Ty.int .i64)) (l := ([10, 11] : List Int)) (cs := [.int .i64 10, .int .i64 11]) hO rfl ⟨[.int .i64 10], _, rfl, rfl, ⟨[.int .i64 11], _, rfl, rfl, rfl⟩⟩ rfl (by decide) fun _ σ o28 w29 hO => ?_
  obtain ⟨A26, c27, rfl, -⟩ := w29.form
  have hO : Obs _ _ [_, _, _] := hO
  refine wpn_q hO 1 [] [(1, .slice A1 ([(⟨(3 : UInt8), (-3)⟩ : S_api_Loc), (⟨(4 : UInt8), 0⟩ : S_api_Loc)] : List S_api_Loc).length c2), (2, .slice A12 c7.1.length c13), (3, .int .i64 c7.2), (4, .slice A23 c18.1.length c24), (5, .int .i64 c18.2.1), (6, .int .i64 c18.2.2), (24, .slice A23 c18.1.length c24), (26, .agg #[(.slice none 0 0), (.slice none 0 0), (.int .i64 4), (.slice A26 ([10, 11] : List Int).length c27)])] (And.intro rfl (And.intro rfl (And.intro rfl (And.intro rfl (And.intro rfl (And.intro rfl (And.intro rfl (And.intro rfl trivial)))))))) fun j => ?_
  obtain ⟨_, h31, r30, hO⟩ := w29.share hO (i := 2) rfl
  have hL := hL.trans h31
  have r5 := r5.le h31
  have r16 := r16.le h31
  have r25 := r25.le h31
  have hO : Obs _ _ [_, _, _] := hO
  obtain ⟨c32, h33, hF⟩ := bind_some hF
  refine wpn_c0 hO (w_expr_Eval r25 (RdT.nil _ _) (RdT.nil _ _) r30 h33) rfl fun _ σ _ _ hO h34 h35 => ?_
  have hL := hL.trans h34
  have r5 := r5.le h34
  have r16 := r16.le h34
  have r25 := r25.le h34
  have r30 := r30.le h34
  obtain ⟨rfl, rfl⟩ := h35
  have hO : Obs _ _ [_, _, _] := hO
  refine wpn_qa hO [] [(1, .slice A1 ([(⟨(3 : UInt8), (-3)⟩ : S_api_Loc), (⟨(4 : UInt8), 0⟩ : S_api_Loc)] : List S_api_Loc).length c2), (2, .slice A12 c7.1.length c13), (3, .int .i64 c7.2), (4, .slice A23 c18.1.length c24), (5, .int .i64 c18.2.1), (6, .int .i64 c18.2.2), (7, .int .i64 c32.1), (8, .int .i64 c32.2)] (And.intro rfl (And.intro rfl (And.intro rfl (And.intro rfl (And.intro rfl (And.intro rfl (And.intro rfl (And.intro rfl trivial)))))))) fun j => ?_
  refine wpn_q hO 12 [] [(1, .slice A1 ([(⟨(3 : UInt8), (-3)⟩ : S_api_Loc), (⟨(4 : UInt8), 0⟩ : S_api_Loc)] : List S_api_Loc).length c2), (4, .slice A23 c18.1.length c24), (7, .int .i64 c32.1), (8, .int .i64 c32.2), (45, .bool ((((c7.2 == 0) && ((c7.1.length : Int) == 4)) && (c18.2.2 == 0)) && (c18.2.1 == 4)))] (And.intro (And.intro rfl rfl) (fun _ => And.intro (And.intro rfl rfl) (fun _ => And.intro (And.intro rfl rfl) (fun _ => And.intro rfl (And.intro rfl (And.intro rfl (And.intro rfl (And.intro rfl trivial)))))))) fun j => ?_
  have hO := hO.sel [] (by decide)
  have hO : Obs _ _ [] := hO
  obtain ⟨c36, h37, hF⟩ := bind_some hF
  refine wpn_mid 2 (fun e' σ' => ∃ (τ' : Hp), agr [(49, .bool c36), (7, .int .i64 c32.1), (8, .int .i64 c32.2)] e' ∧ Obs τ' σ' [] ∧ Hp.le τ τ') ?_ ?_
  · have hF := h37
    rcases ite_some hF with ⟨hb38, hF⟩ | ⟨hb38, hF⟩
    · refine wpn_gT (congrArg (fun x => isB (.bool x) true) hb38) ?_
      refine wpn_q hO 2 [] [(7, .int .i64 c32.1), (8, .int .i64 c32.2), (45, .bool ((((c7.2 == 0) && ((c7.1.length : Int) == 4)) && (c18.2.2 == 0)) && (c18.2.1 == 4))), (46, .slice A1 ([(⟨(3 : UInt8), (-3)⟩ : S_api_Loc), (⟨(4 : UInt8), 0⟩ : S_api_Loc)] : List S_api_Loc).length c2), (47, .slice A23 c18.1.length c24)] (And.intro rfl (And.intro rfl (And.intro rfl (And.intro rfl (And.intro rfl trivial))))) fun j => ?_
      obtain ⟨c39, h40, hF⟩ := bind_some hF
      refine wpn_c0 hO (w_ref06_Same r5 r25 h40) rfl fun _ σ _ _ hO h41 h42 => ?_
      have hL := hL.trans h41
      have r5 := r5.le h41
      have r25 := r25.le h41
      obtain ⟨rfl, rfl⟩ := h42
      have hO : Obs _ _ [] := hO
      refine wpn_pk (congrArg Value.bool hb38) ?_
      refine wpn_nil ?_
      injection hF with hF
      subst hF
      refine wpn_end ?_
      exact ⟨rfl, _, And.intro rfl (And.intro rfl (And.intro rfl trivial)), hO, hL⟩
    · refine wpn_gF (congrArg (fun x => isB (.bool x) true) hb38) ?_
      refine wpn_pk (congrArg Value.bool hb38) ?_
      refine wpn_nil ?_
      injection hF with hF
      subst hF
      refine wpn_end ?_
      exact ⟨rfl, _, And.intro rfl (And.intro rfl (And.intro rfl trivial)), hO, hL⟩
  · rintro e σ ⟨_, hA, hO, hL⟩
    rw [← sets_agr _ _ hA]
    refine wpn_q hO 7 [] [(58, .bool ((c36 && (c32.2 == 0)) && (c32.1 == 11)))] (And.intro (And.intro rfl rfl) (fun _ => And.intro (And.intro rfl rfl) (fun _ => And.intro rfl trivial))) fun j => ?_
    obtain ⟨c43, h44, hF⟩ := bind_some hF
    refine wpn_mid 2 (fun e' σ' => ∃ (τ' : Hp), agr [(60, .bool c43)] e' ∧ Obs τ' σ' [] ∧ Hp.le τ τ') ?_ ?_
    · have hF := h44
      rcases ite_some hF with ⟨hb45, hF⟩ | ⟨hb45, hF⟩
      · refine wpn_gT (congrArg (fun x => isB (.bool x) true) hb45) ?_
        obtain ⟨c46, h47, hF⟩ := bind_some hF
        refine wpn_c0 hO (w_expr_Right (RdT.nil TyS_api_Loc _) h47) rfl fun _ σ _ _ hO h48 h49 => ?_
        have hL := hL.trans h48
        obtain ⟨rfl, rfl⟩ := h49
        have hO : Obs _ _ [] := hO
        refine wpn_pk (congrArg Value.bool hb45) ?_
        refine wpn_nil ?_
        injection hF with hF
        subst hF
        refine wpn_end ?_
        exact ⟨rfl, _, And.intro rfl (trivial), hO, hL⟩
      · refine wpn_gF (congrArg (fun x => isB (.bool x) true) hb45) ?_
        refine wpn_pk (congrArg Value.bool hb45) ?_
        refine wpn_nil ?_
        injection hF with hF
        subst hF
        refine wpn_end ?_
        exact ⟨rfl, _, And.intro rfl (trivial), hO, hL⟩
    · rintro e σ ⟨_, hA, hO, hL⟩
      rw [← sets_agr _ _ hA]
      refine wpn_q hO 1 [] [(61, .bool c43)] (And.intro rfl trivial) fun j => ?_
      obtain ⟨c50, h51, hF⟩ := bind_some hF
      refine wpn_mid 2 (fun e' σ' => ∃ (τ' : Hp), agr [(66, .bool c50)] e' ∧ Obs τ' σ' [] ∧ Hp.le τ τ') ?_ ?_
      · have hF := h51
        rcases ite_some hF with ⟨hb52, hF⟩ | ⟨hb52, hF⟩
        · refine wpn_gT (congrArg (fun x => isB (.bool x) true) hb52) ?_
          refine wpn_q hO 1 [] [(61, .bool c43), (62, .agg #[(.int .u8 4), (.int .i64 0)])] (And.intro rfl (And.intro rfl trivial)) fun j => ?_
          refine wpn_lit (T := TyS_api_Loc) (l := ([(⟨(4 : UInt8), 0⟩ : S_api_Loc)] : List S_api_Loc)) (cs := [.int .u8 4, .int .i64 0]) hO rfl ⟨[.int .u8 4, .int .i64 0], _, rfl, rfl, rfl⟩ rfl (by decide) fun _ σ o55 w56 hO => ?_
          obtain ⟨A53, c54, rfl, -⟩ := w56.form
          have hO : Obs _ _ [_] := hO
          obtain ⟨_, h58, r57, hO⟩ := w56.share hO (i := 0) rfl
          have hL := hL.trans h58
          have hO : Obs _ _ [_] := hO
          obtain ⟨c59, h60, hF⟩ := bind_some hF
          refine wpn_c0 hO (w_expr_Right r57 h60) rfl fun _ σ _ _ hO h61 h62 => ?_
          have hL := hL.trans h61
          have r57 := r57.le h61
          obtain ⟨rfl, rfl⟩ := h62
          have hO : Obs _ _ [_] := hO
          refine wpn_q hO 1 [] [(61, .bool c43), (65, .bool (!c59))] (And.intro rfl (And.intro rfl trivial)) fun j => ?_
          refine wpn_pk (congrArg Value.bool hb52) ?_
          refine wpn_nil ?_
          injection hF with hF
          subst hF
          refine wpn_end ?_
          have hO := hO.sel [] (by decide)
          exact ⟨rfl, _, And.intro rfl (trivial), hO, hL⟩
        · refine wpn_gF (congrArg (fun x => isB (.bool x) true) hb52) ?_
          refine wpn_pk (congrArg Value.bool hb52) ?_
          refine wpn_nil ?_
          injection hF with hF
          subst hF
          refine wpn_end ?_
          exact ⟨rfl, _, And.intro rfl (trivial), hO, hL⟩
      · rintro e σ ⟨_, hA, hO, hL⟩
        rw [← sets_agr _ _ hA]
        refine wpn_qa hO [] [(0, .bool c50)] (And.intro rfl trivial) fun j => ?_
        refine wpn_r1 ?_
        injection hF with hF
        subst hF
        exact hQ _ _ _ _ _ rfl hO hL ⟨rfl, rfl⟩
theorem w_ref06_Right {τ : Hp} {v0 : Value} {p0 : (List S_api_Loc)} (r0 : RdT TyS_api_Loc τ v0 p0) {rr : Bool} (hF : F_ref06_Right p0 = some rr) :
    Ctr Try.prog 16 #[v0] τ [] (fun v τ' vs' => v = .bool rr ∧ vs' = []) := by
  obtain ⟨A0, c0, rfl, -⟩ := r0.form
  refine ctr_of (args := [.slice A0 p0.length c0]) hm Try.func16 s16 rfl fun w0 σ hO Q hQ => ?_
  unfold F_ref06_Right at hF
  have hL := Hp.le.refl τ
  show wpn _ _ a16.body _ _ _
  unfold a16
  dsimp only
  refine wpn_qa hO [] [(0, .slice A0 p0.length c0)] (And.intro rfl trivial) fun j => ?_
  refine wpn_qa hO [] [(0, .slice A0 p0.length c0), (3, .int .i64 0)] (And.intro rfl (And.intro rfl trivial)) fun j => ?_
  refine wpn_assoc ?_
  refine wpn_qa hO [] [(0, .slice A0 p0.length c0), (3, .int .i64 0), (4, .int .i64 0)] (And.intro rfl (And.intro rfl (And.intro rfl trivial))) fun j => ?_
  refine wpn_bl ?_
  refine wpn_lp (fun (n : Nat) e' σ' => ∃ (x78 : Int) (x79 : Int) (τ' : Hp), agr [(0, .slice A0 p0.length c0), (3, .int .i64 x78), (4, .int .i64 x79)] e' ∧ Obs τ' σ' [] ∧ Hp.le τ τ' ∧ RdT TyS_api_Loc τ' (.slice A0 p0.length c0) p0 ∧ F_ref06_Right_l28 p0 n x78 x79 = some rr) big ⟨0, 0, _, And.intro rfl (And.intro rfl (And.intro rfl trivial)), hO, hL, r0, hF⟩ ?_
  clear hF hO hL
  rintro n154 e σ ⟨x78, x79, _, hA, hO, hL, r77, hF⟩
  rw [← sets_agr _ _ hA]
  cases n154 with
  | zero => exact nomatch (show none = some rr from hF)
  | succ n154 =>
    replace hF : F_ref06_Right_l28B (F_ref06_Right_l28 p0 n154) p0 x78 x79 = some rr := hF
    unfold F_ref06_Right_l28B at hF
    refine wpn_assoc ?_
    refine wpn_qa hO [] [(0, .slice A0 p0.length c0), (3, .int .i64 x78), (4, .int .i64 x79), (9, .bool (decide (x79 < (p0.length : Int))))] (And.intro rfl (And.intro rfl (And.intro rfl (And.intro rfl trivial)))) fun j => ?_
    rcases ite_some hF with ⟨hb155, hF⟩ | ⟨hb155, hF⟩
    · refine wpn_cT (congrArg Value.bool hb155) ?_
      refine wpn_sk ?_
      refine wpn_bl ?_
      refine wpn_qa hO [] [(0, .slice A0 p0.length c0), (3, .int .i64 x78), (4, .int .i64 x79), (5, .int .i64 0)] (And.intro rfl (And.intro rfl (And.intro rfl (And.intro rfl trivial)))) fun j => ?_
      refine wpn_assoc ?_
      refine wpn_q hO 2 [] [(0, .slice A0 p0.length c0), (3, .int .i64 x78), (4, .int .i64 x79), (5, .int .i64 0), (12, .slice A0 p0.length c0), (13, .int .i64 x79)] (And.intro rfl (And.intro rfl (And.intro rfl (And.intro rfl (And.intro rfl (And.intro rfl trivial)))))) fun j => ?_
      obtain ⟨y156, g157, hF⟩ := bind_some hF
      refine wpn_idx (T := TyS_api_Loc) r77 hO.base rfl rfl g157 (by decide) fun a158 _ k159 m160 => ?_
      obtain rfl : _ = ([.int .u8 y156.Kind.toNat, .int .i64 y156.N] : List Value) := k159
      refine wpn_q hO 1 [] [(0, .slice A0 p0.length c0), (3, .int .i64 x78), (4, .int .i64 x79), (5, .int .i64 0), (15, .pointer (some a158))] (And.intro rfl (And.intro rfl (And.intro rfl (And.intro rfl (And.intro rfl trivial))))) fun j => ?_
      refine wpn_ld rfl (m160.le hO.base).fst ?_
      refine wpn_nil ?_
      refine wpn_cutb (fun e' σ' => ∃ (x188 : Int) (τ' : Hp), agr [(0, .slice A0 p0.length c0), (3, .int .i64 x78), (4, .int .i64 x79), (5, .int .i64 x188)] e' ∧ Obs τ' σ' [] ∧ Hp.le τ τ' ∧ RdT TyS_api_Loc τ' (.slice A0 p0.length c0) p0 ∧ F_ref06_Right_k33 (F_ref06_Right_l28 p0 n154) p0 x78 x79 x188 = some rr) ?_ ?_
      · refine wpn_assoc ?_
        refine wpn_qa hO [] [(0, .slice A0 p0.length c0), (3, .int .i64 x78), (4, .int .i64 x79), (5, .int .i64 0), (16, .int .u8 (y156.Kind.toNat : Int)), (17, .bool ((y156.Kind.toNat : Int) == 1))] (And.intro rfl (And.intro rfl (And.intro rfl (And.intro rfl (And.intro rfl (And.intro rfl trivial)))))) fun j => ?_
        refine wpn_cut (fun e' σ' => ∃ (x201 : Bool) (τ' : Hp), agr [(0, .slice A0 p0.length c0), (3, .int .i64 x78), (4, .int .i64 x79), (5, .int .i64 0), (16, .int .u8 (y156.Kind.toNat : Int)), (17, .bool x201)] e' ∧ Obs τ' σ' [] ∧ Hp.le τ τ' ∧ RdT TyS_api_Loc τ' (.slice A0 p0.length c0) p0 ∧ F_ref06_Right_k35 (F_ref06_Right_l28 p0 n154) p0 x78 x79 y156 x201 = some rr) ?_ ?_
        · refine wpn_clast ?_
          rcases ite_some hF with ⟨hb224, hF⟩ | ⟨hb224, hF⟩
          · refine wpn_cT (congrArg Value.bool hb224) ?_
            refine wpn_sk ?_
            refine wpn_end ?_
            refine thn_i ?_
            exact ⟨((y156.Kind.toNat : Int) == 1), _, And.intro rfl (And.intro rfl (And.intro rfl (And.intro rfl (And.intro rfl (And.intro rfl trivial))))), hO, hL, r77, hF⟩
          · refine wpn_cF (congrArg Value.bool hb224) ?_
            refine wpn_qa hO [] [(0, .slice A0 p0.length c0), (3, .int .i64 x78), (4, .int .i64 x79), (5, .int .i64 0), (16, .int .u8 (y156.Kind.toNat : Int)), (17, .bool ((y156.Kind.toNat : Int) == 3))] (And.intro rfl (And.intro rfl (And.intro rfl (And.intro rfl (And.intro rfl (And.intro rfl trivial)))))) fun j => ?_
            refine wpn_end ?_
            refine thn_i ?_
            exact ⟨((y156.Kind.toNat : Int) == 3), _, And.intro rfl (And.intro rfl (And.intro rfl (And.intro rfl (And.intro rfl (And.intro rfl trivial))))), hO, hL, r77, hF⟩
        · rintro e σ ⟨x201, _, hA, hO, hL, r200, hF⟩
          rw [← sets_agr _ _ hA]
          unfold F_ref06_Right_k35 at hF
          refine wpn_clast ?_
          rcases ite_some hF with ⟨hb202, hF⟩ | ⟨hb202, hF⟩
          · refine wpn_cT (congrArg Value.bool hb202) ?_
            refine wpn_sk ?_
            refine wpn_end ?_
            refine inb_i ?_
            refine thn_i ?_
            exact ⟨0, _, And.intro rfl (And.intro rfl (And.intro rfl (And.intro rfl trivial))), hO, hL, r200, hF⟩
          · refine wpn_cF (congrArg Value.bool hb202) ?_
            refine wpn_assoc ?_
            refine wpn_qa hO [] [(0, .slice A0 p0.length c0), (3, .int .i64 x78), (4, .int .i64 x79), (5, .int .i64 0), (16, .int .u8 (y156.Kind.toNat : Int)), (20, .bool ((y156.Kind.toNat : Int) == 2))] (And.intro rfl (And.intro rfl (And.intro rfl (And.intro rfl (And.intro rfl (And.intro rfl trivial)))))) fun j => ?_
            rcases ite_some hF with ⟨hb203, hF⟩ | ⟨hb203, hF⟩
            · refine wpn_cT (congrArg Value.bool hb203) ?_
              refine wpn_assoc ?_
              refine wpn_q hO 2 [] [(0, .slice A0 p0.length c0), (3, .int .i64 x78), (4, .int .i64 x79), (5, .int .i64 0), (22, .slice A0 p0.length c0), (23, .int .i64 x79)] (And.intro rfl (And.intro rfl (And.intro rfl (And.intro rfl (And.intro rfl (And.intro rfl trivial)))))) fun j => ?_
              obtain ⟨y204, g205, hF⟩ := bind_some hF
              refine wpn_idx (T := TyS_api_Loc) r200 hO.base rfl rfl g205 (by decide) fun a206 _ k207 m208 => ?_
              obtain rfl : _ = ([.int .u8 y204.Kind.toNat, .int .i64 y204.N] : List Value) := k207
              refine wpn_q hO 1 [] [(0, .slice A0 p0.length c0), (3, .int .i64 x78), (4, .int .i64 x79), (5, .int .i64 0), (25, .pointer (some (a206.add 1)))] (And.intro rfl (And.intro rfl (And.intro rfl (And.intro rfl (And.intro rfl trivial))))) fun j => ?_
              refine wpn_ld rfl ((m208.le hO.base).one 1 rfl) ?_
              refine wpn_q hO 2 [] [(0, .slice A0 p0.length c0), (3, .int .i64 x78), (4, .int .i64 x79), (5, .int .i64 0), (28, .bool (decide (y204.N < 0)))] (And.intro rfl (And.intro rfl (And.intro rfl (And.intro rfl (And.intro rfl trivial))))) fun j => ?_
              obtain ⟨c209, h210, hF⟩ := bind_some hF
              refine wpn_midq 2 [(35, .bool c209), (0, .slice A0 p0.length c0), (3, .int .i64 x78), (4, .int .i64 x79), (5, .int .i64 0)] (fun Q hQ => ?_) fun j => ?_
              · have hF := h210
                rcases ite_some hF with ⟨hb211, hF⟩ | ⟨hb211, hF⟩
                · refine wpn_gF (congrArg (fun x => isB (.bool x) false) hb211) ?_
                  refine wpn_pk (congrArg Value.bool hb211) ?_
                  refine wpn_nil ?_
                  injection hF with hF
                  subst hF
                  refine wpn_end ?_
                  exact hQ _ (And.intro rfl (And.intro rfl (And.intro rfl (And.intro rfl (And.intro rfl trivial)))))
                · refine wpn_gT (congrArg (fun x => isB (.bool x) false) hb211) ?_
                  refine wpn_q hO 2 [] [(0, .slice A0 p0.length c0), (3, .int .i64 x78), (4, .int .i64 x79), (5, .int .i64 0), (28, .bool (decide (y204.N < 0))), (29, .slice A0 p0.length c0), (30, .int .i64 x79)] (And.intro rfl (And.intro rfl (And.intro rfl (And.intro rfl (And.intro rfl (And.intro rfl (And.intro rfl trivial))))))) fun j => ?_
                  obtain ⟨y212, g213, hF⟩ := bind_some hF
                  refine wpn_idx (T := TyS_api_Loc) r200 hO.base rfl rfl g213 (by decide) fun a214 _ k215 m216 => ?_
                  obtain rfl : _ = ([.int .u8 y212.Kind.toNat, .int .i64 y212.N] : List Value) := k215
                  refine wpn_q hO 1 [] [(0, .slice A0 p0.length c0), (3, .int .i64 x78), (4, .int .i64 x79), (5, .int .i64 0), (28, .bool (decide (y204.N < 0))), (32, .pointer (some (a214.add 1)))] (And.intro rfl (And.intro rfl (And.intro rfl (And.intro rfl (And.intro rfl (And.intro rfl trivial)))))) fun j => ?_
                  refine wpn_ld rfl ((m216.le hO.base).one 1 rfl) ?_
                  refine wpn_q hO 1 [] [(0, .slice A0 p0.length c0), (3, .int .i64 x78), (4, .int .i64 x79), (5, .int .i64 0), (28, .bool (decide (y204.N < 0))), (34, .bool (decide (y212.N > 15)))] (And.intro rfl (And.intro rfl (And.intro rfl (And.intro rfl (And.intro rfl (And.intro rfl trivial)))))) fun j => ?_
                  refine wpn_pk (congrArg Value.bool hb211) ?_
                  refine wpn_nil ?_
                  injection hF with hF
                  subst hF
                  refine wpn_end ?_
                  exact hQ _ (And.intro rfl (And.intro rfl (And.intro rfl (And.intro rfl (And.intro rfl trivial)))))
              · refine wpn_nil ?_
                rcases ite_some hF with ⟨hb217, hF⟩ | ⟨hb217, hF⟩
                · refine wpn_cT (congrArg Value.bool hb217) ?_
                  refine wpn_assoc ?_
                  refine wpn_qa hO [] [(2, .bool false)] (And.intro rfl trivial) fun j => ?_
                  refine wpn_rt ?_
                  refine inb_r1 ?_
                  refine thn_r1 ?_
                  refine inb_r1 ?_
                  refine thn_r1 ?_
                  refine thn_r1 ?_
                  refine inb_r1 ?_
                  refine thn_r1 ?_
                  injection hF with hF
                  subst hF
                  exact hQ _ _ _ _ _ rfl hO hL ⟨rfl, rfl⟩
                · refine wpn_cF (congrArg Value.bool hb217) ?_
                  refine wpn_sk ?_
                  refine wpn_end ?_
                  refine inb_i ?_
                  refine thn_i ?_
                  exact ⟨0, _, And.intro rfl (And.intro rfl (And.intro rfl (And.intro rfl trivial))), hO, hL, r200, hF⟩
            · refine wpn_cF (congrArg Value.bool hb203) ?_
              refine wpn_assoc ?_
              refine wpn_assoc ?_
              refine wpn_qa hO [] [(0, .slice A0 p0.length c0), (3, .int .i64 x78), (4, .int .i64 x79), (16, .int .u8 (y156.Kind.toNat : Int)), (36, .bool ((y156.Kind.toNat : Int) == 4))] (And.intro rfl (And.intro rfl (And.intro rfl (And.intro rfl (And.intro rfl trivial))))) fun j => ?_
              refine wpn_cut (fun e' σ' => ∃ (x220 : Bool) (τ' : Hp), agr [(0, .slice A0 p0.length c0), (3, .int .i64 x78), (4, .int .i64 x79), (16, .int .u8 (y156.Kind.toNat : Int)), (36, .bool x220)] e' ∧ Obs τ' σ' [] ∧ Hp.le τ τ' ∧ RdT TyS_api_Loc τ' (.slice A0 p0.length c0) p0 ∧ F_ref06_Right_k36 (F_ref06_Right_l28 p0 n154) p0 x78 x79 y156 x220 = some rr) ?_ ?_
              · refine wpn_clast ?_
                rcases ite_some hF with ⟨hb223, hF⟩ | ⟨hb223, hF⟩
                · refine wpn_cT (congrArg Value.bool hb223) ?_
                  refine wpn_sk ?_
                  refine wpn_end ?_
                  refine thn_i ?_
                  exact ⟨((y156.Kind.toNat : Int) == 4), _, And.intro rfl (And.intro rfl (And.intro rfl (And.intro rfl (And.intro rfl trivial)))), hO, hL, r200, hF⟩
                · refine wpn_cF (congrArg Value.bool hb223) ?_
                  refine wpn_qa hO [] [(0, .slice A0 p0.length c0), (3, .int .i64 x78), (4, .int .i64 x79), (16, .int .u8 (y156.Kind.toNat : Int)), (36, .bool ((y156.Kind.toNat : Int) == 6))] (And.intro rfl (And.intro rfl (And.intro rfl (And.intro rfl (And.intro rfl trivial))))) fun j => ?_
                  refine wpn_end ?_
                  refine thn_i ?_
                  exact ⟨((y156.Kind.toNat : Int) == 6), _, And.intro rfl (And.intro rfl (And.intro rfl (And.intro rfl (And.intro rfl trivial)))), hO, hL, r200, hF⟩
              · rintro e σ ⟨x220, _, hA, hO, hL, r219, hF⟩
                rw [← sets_agr _ _ hA]
                unfold F_ref06_Right_k36 at hF
                rcases ite_some hF with ⟨hb221, hF⟩ | ⟨hb221, hF⟩
                · refine wpn_cT (congrArg Value.bool hb221) ?_
                  refine wpn_qa hO [] [(0, .slice A0 p0.length c0), (3, .int .i64 x78), (4, .int .i64 x79), (5, .int .i64 1)] (And.intro rfl (And.intro rfl (And.intro rfl (And.intro rfl trivial)))) fun j => ?_
                  refine wpn_end ?_
                  refine inb_i ?_
                  refine thn_i ?_
                  exact ⟨1, _, And.intro rfl (And.intro rfl (And.intro rfl (And.intro rfl trivial))), hO, hL, r219, hF⟩
                · refine wpn_cF (congrArg Value.bool hb221) ?_
                  refine wpn_assoc ?_
                  refine wpn_qa hO [] [(0, .slice A0 p0.length c0), (3, .int .i64 x78), (4, .int .i64 x79), (39, .bool ((y156.Kind.toNat : Int) == 5))] (And.intro rfl (And.intro rfl (And.intro rfl (And.intro rfl trivial)))) fun j => ?_
                  rcases ite_some hF with ⟨hb222, hF⟩ | ⟨hb222, hF⟩
                  · refine wpn_cT (congrArg Value.bool hb222) ?_
                    refine wpn_qa hO [] [(0, .slice A0 p0.length c0), (3, .int .i64 x78), (4, .int .i64 x79), (5, .int .i64 2)] (And.intro rfl (And.intro rfl (And.intro rfl (And.intro rfl trivial)))) fun j => ?_
                    refine wpn_end ?_
                    refine inb_i ?_
                    refine thn_i ?_
                    exact ⟨2, _, And.intro rfl (And.intro rfl (And.intro rfl (And.intro rfl trivial))), hO, hL, r219, hF⟩
                  · refine wpn_cF (congrArg Value.bool hb222) ?_
                    refine wpn_assoc ?_
                    refine wpn_qa hO [] [(2, .bool false)] (And.intro rfl trivial) fun j => ?_
                    refine wpn_rt ?_
                    refine inb_r1 ?_
                    refine thn_r1 ?_
                    refine inb_r1 ?_
                    refine thn_r1 ?_
                    refine thn_r1 ?_
                    refine inb_r1 ?_
                    refine thn_r1 ?_
                    injection hF with hF
                    subst hF
                    exact hQ _ _ _ _ _ rfl hO hL ⟨rfl, rfl⟩
      · rintro e σ ⟨x188, _, hA, hO, hL, r187, hF⟩
        rw [← sets_agr _ _ hA]
        unfold F_ref06_Right_k33 at hF
        refine wpn_assoc ?_
        refine wpn_q hO 3 [] [(0, .slice A0 p0.length c0), (3, .int .i64 x78), (4, .int .i64 x79), (5, .int .i64 x188), (43, .bool (decide (x188 > 0)))] (And.intro rfl (And.intro rfl (And.intro rfl (And.intro rfl (And.intro rfl trivial))))) fun j => ?_
        obtain ⟨c189, h190, hF⟩ := bind_some hF
        refine wpn_midq 2 [(50, .bool c189), (0, .slice A0 p0.length c0), (3, .int .i64 x78), (4, .int .i64 x79), (5, .int .i64 x188)] (fun Q hQ => ?_) fun j => ?_
        · have hF := h190
          rcases ite_some hF with ⟨hb191, hF⟩ | ⟨hb191, hF⟩
          · refine wpn_gT (congrArg (fun x => isB (.bool x) true) hb191) ?_
            refine wpn_q hO 2 [] [(0, .slice A0 p0.length c0), (3, .int .i64 x78), (4, .int .i64 x79), (5, .int .i64 x188), (43, .bool (decide (x188 > 0))), (44, .slice A0 p0.length c0), (45, .int .i64 x79)] (And.intro rfl (And.intro rfl (And.intro rfl (And.intro rfl (And.intro rfl (And.intro rfl (And.intro rfl trivial))))))) fun j => ?_
            obtain ⟨y192, g193, hF⟩ := bind_some hF
            refine wpn_idx (T := TyS_api_Loc) r187 hO.base rfl rfl g193 (by decide) fun a194 _ k195 m196 => ?_
            obtain rfl : _ = ([.int .u8 y192.Kind.toNat, .int .i64 y192.N] : List Value) := k195
            refine wpn_q hO 1 [] [(0, .slice A0 p0.length c0), (3, .int .i64 x78), (4, .int .i64 x79), (5, .int .i64 x188), (43, .bool (decide (x188 > 0))), (47, .pointer (some (a194.add 1)))] (And.intro rfl (And.intro rfl (And.intro rfl (And.intro rfl (And.intro rfl (And.intro rfl trivial)))))) fun j => ?_
            refine wpn_ld rfl ((m196.le hO.base).one 1 rfl) ?_
            refine wpn_q hO 1 [] [(0, .slice A0 p0.length c0), (3, .int .i64 x78), (4, .int .i64 x79), (5, .int .i64 x188), (43, .bool (decide (x188 > 0))), (49, .bool (y192.N != 0))] (And.intro rfl (And.intro rfl (And.intro rfl (And.intro rfl (And.intro rfl (And.intro rfl trivial)))))) fun j => ?_
            refine wpn_pk (congrArg Value.bool hb191) ?_
            refine wpn_nil ?_
            injection hF with hF
            subst hF
            refine wpn_end ?_
            exact hQ _ (And.intro rfl (And.intro rfl (And.intro rfl (And.intro rfl (And.intro rfl trivial)))))
          · refine wpn_gF (congrArg (fun x => isB (.bool x) true) hb191) ?_
            refine wpn_pk (congrArg Value.bool hb191) ?_
            refine wpn_nil ?_
            injection hF with hF
            subst hF
            refine wpn_end ?_
            exact hQ _ (And.intro rfl (And.intro rfl (And.intro rfl (And.intro rfl (And.intro rfl trivial)))))
        · refine wpn_qa hO [] [(0, .slice A0 p0.length c0), (3, .int .i64 x78), (4, .int .i64 x79), (5, .int .i64 x188), (55, .bool (c189 || (decide (x188 > x78))))] (And.intro (And.intro rfl rfl) (fun _ => And.intro rfl (And.intro rfl (And.intro rfl (And.intro rfl (And.intro rfl trivial)))))) fun j => ?_
          rcases ite_some hF with ⟨hb197, hF⟩ | ⟨hb197, hF⟩
          · refine wpn_cT (congrArg Value.bool hb197) ?_
            refine wpn_assoc ?_
            refine wpn_qa hO [] [(2, .bool false)] (And.intro rfl trivial) fun j => ?_
            refine wpn_rt ?_
            refine inb_r1 ?_
            refine thn_r1 ?_
            refine thn_r1 ?_
            refine inb_r1 ?_
            refine thn_r1 ?_
            injection hF with hF
            subst hF
            exact hQ _ _ _ _ _ rfl hO hL ⟨rfl, rfl⟩
          · refine wpn_cF (congrArg Value.bool hb197) ?_
            refine wpn_sk ?_
            refine wpn_qa hO [] [(0, .slice A0 p0.length c0), (3, .int .i64 (IntKind.i64.wrap ((IntKind.i64.wrap (x78 - x188)) + 1))), (4, .int .i64 x79)] (And.intro rfl (And.intro rfl (And.intro rfl trivial))) fun j => ?_
            refine wpn_qa hO [] [(0, .slice A0 p0.length c0), (3, .int .i64 (IntKind.i64.wrap ((IntKind.i64.wrap (x78 - x188)) + 1))), (4, .int .i64 x79), (61, .bool (decide ((IntKind.i64.wrap ((IntKind.i64.wrap (x78 - x188)) + 1)) > 8)))] (And.intro rfl (And.intro rfl (And.intro rfl (And.intro rfl trivial)))) fun j => ?_
            refine wpn_clast ?_
            rcases ite_some hF with ⟨hb198, hF⟩ | ⟨hb198, hF⟩
            · refine wpn_cT (congrArg Value.bool hb198) ?_
              refine wpn_assoc ?_
              refine wpn_qa hO [] [(2, .bool false)] (And.intro rfl trivial) fun j => ?_
              refine wpn_rt ?_
              refine inb_r1 ?_
              refine thn_r1 ?_
              refine thn_r1 ?_
              refine inb_r1 ?_
              refine thn_r1 ?_
              injection hF with hF
              subst hF
              exact hQ _ _ _ _ _ rfl hO hL ⟨rfl, rfl⟩
            · refine wpn_cF (congrArg Value.bool hb198) ?_
              refine wpn_sk ?_
              refine wpn_end ?_
              refine inb_i ?_
              refine thn_i ?_
              refine wpn_rlast ?_
              refine wpn_qa hO [] [(0, .slice A0 p0.length c0), (3, .int .i64 (IntKind.i64.wrap ((IntKind.i64.wrap (x78 - x188)) + 1))), (4, .int .i64 (IntKind.i64.wrap (x79 + 1)))] (And.intro rfl (And.intro rfl (And.intro rfl trivial))) fun j => ?_
              refine wpn_end ?_
              refine thn_i ?_
              exact ⟨n154, Nat.lt_succ_self _, (IntKind.i64.wrap ((IntKind.i64.wrap (x78 - x188)) + 1)), (IntKind.i64.wrap (x79 + 1)), _, And.intro rfl (And.intro rfl (And.intro rfl trivial)), hO, hL, r187, hF⟩
    · refine wpn_cF (congrArg Value.bool hb155) ?_
      refine wpn_ex ?_
      refine thn_x ?_
      refine inb_x ?_
      refine thn_i ?_
      refine wpn_q hO 4 [] [(0, .slice A0 p0.length c0), (3, .int .i64 x78), (65, .bool (decide ((p0.length : Int) ≤ 16)))] (And.intro rfl (And.intro rfl (And.intro rfl trivial))) fun j => ?_
      obtain ⟨c225, h226, hF⟩ := bind_some hF
      refine wpn_midq 4 [(73, .bool c225)] (fun Q hQ => ?_) fun j => ?_
      · have hF := h226
        rcases ite_some hF with ⟨hb227, hF⟩ | ⟨hb227, hF⟩
        · refine wpn_gT (congrArg (fun x => isB (.bool x) true) hb227) ?_
          refine wpn_q hO 4 [] [(3, .int .i64 x78), (65, .bool (decide ((p0.length : Int) ≤ 16))), (69, .bool ((p0.length : Int) == 0))] (And.intro rfl (And.intro rfl (And.intro rfl trivial))) fun j => ?_
          rcases ite_some hF with ⟨hb228, hF⟩ | ⟨hb228, hF⟩
          · refine wpn_gF (congrArg (fun x => isB (.bool x) false) hb228) ?_
            refine wpn_gT (congrArg (fun x => isB (.bool x) true) hb227) ?_
            refine wpn_pk (congrArg Value.bool hb228) ?_
            refine wpn_pk (congrArg Value.bool hb227) ?_
            refine wpn_nil ?_
            injection hF with hF
            subst hF
            refine wpn_end ?_
            exact hQ _ (And.intro rfl (trivial))
          · refine wpn_gT (congrArg (fun x => isB (.bool x) false) hb228) ?_
            refine wpn_q hO 2 [] [(65, .bool (decide ((p0.length : Int) ≤ 16))), (69, .bool ((p0.length : Int) == 0)), (71, .bool (x78 == 1))] (And.intro rfl (And.intro rfl (And.intro rfl trivial))) fun j => ?_
            refine wpn_gT (congrArg (fun x => isB (.bool x) true) hb227) ?_
            refine wpn_pk (congrArg Value.bool hb228) ?_
            refine wpn_pk (congrArg Value.bool hb227) ?_
            refine wpn_nil ?_
            injection hF with hF
            subst hF
            refine wpn_end ?_
            exact hQ _ (And.intro rfl (trivial))
        · refine wpn_gF (congrArg (fun x => isB (.bool x) true) hb227) ?_
          refine wpn_gF rfl ?_
          refine wpn_gF (congrArg (fun x => isB (.bool x) true) hb227) ?_
          refine wpn_pk (congrArg Value.bool hb227) ?_
          refine wpn_nil ?_
          injection hF with hF
          subst hF
          refine wpn_end ?_
          exact hQ _ (And.intro rfl (trivial))
      · refine wpn_qa hO [] [(2, .bool c225)] (And.intro rfl trivial) fun j => ?_
        refine wpn_r1 ?_
        injection hF with hF
        subst hF
        exact hQ _ _ _ _ _ rfl hO hL ⟨rfl, rfl⟩
end Go.Proofs.Ytpmlbgaigjdmjaa
