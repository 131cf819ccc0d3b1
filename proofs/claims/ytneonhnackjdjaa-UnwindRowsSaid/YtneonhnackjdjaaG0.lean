import Derived.Test.YtneonhnackjdjaaF
import Derived.Test.YtneonhnackjdjaaAc0
import Derived.Test.YtneonhnackjdjaaM00
import Derived.Test.YtneonhnackjdjaaM01
namespace Go.Proofs.Ytneonhnackjdjaa
open Go.Ab Go.RowKit
set_option linter.unusedVariables false
set_option linter.unusedSimpArgs false
set_option maxRecDepth 10000
theorem zcc {τ : Hp} {v0 : Value} {p0 : (List zb)} (r0 : RdT zf τ v0 p0) {rr : Bool} (hF : zbs p0 = some rr) :
    Ctr Try.prog 28 #[v0] τ [] (fun v τ' vs' => v = .bool rr ∧ vs' = []) := by
  obtain ⟨A0, c0, rfl, -⟩ := r0.form
  refine ctr_of (args := [.slice A0 p0.length c0]) hm Try.func28 s28 rfl fun w0 σ hO Q hQ => ?_
  unfold zbs at hF
  have hL := Hp.le.refl τ
  show wpn _ _ a28.body _ _ _
  unfold a28
  dsimp only
  refine wpn_qa hO [] [(0, .slice A0 p0.length c0)] (ar trivial) fun j => ?_
  refine wpn_qa hO [] [(0, .slice A0 p0.length c0), (3, .int .i64 5)] (ar (ar trivial)) fun j => ?_
  refine wpn_assoc ?_
  refine wpn_qa hO [] [(3, .int .i64 5), (6, .slice A0 p0.length c0), (7, .int .i64 (p0.length : Int)), (8, .int .i64 0)] (ar (ar (ar (ar trivial)))) fun j => ?_
  refine wpn_bl ?_
  refine wpn_lp (fun (n : Nat) e' σ' => ∃ (x11 : Int) (x13 : Int) (τ' : Hp), agr [(3, .int .i64 x11), (6, .slice A0 p0.length c0), (7, .int .i64 (p0.length : Int)), (8, .int .i64 x13)] e' ∧ Obs τ' σ' [] ∧ Hp.le τ τ' ∧ RdT zf τ' (.slice A0 p0.length c0) p0 ∧ zD p0 n x11 x13 = some rr) big ⟨5, 0, _, ar (ar (ar (ar trivial))), hO, hL, r0, hF⟩ ?_
  clear hF hO hL
  rintro n22 e σ ⟨x11, x13, _, hA, hO, hL, r12, hF⟩
  rw [← sets_agr _ _ hA]
  cases n22 with
  | zero => exact nomatch (show none = some rr from hF)
  | succ n22 =>
    replace hF : zH (zD p0 n22) p0 x11 x13 = some rr := hF
    unfold zH at hF
    refine wpn_qa hO [] [(3, .int .i64 x11), (6, .slice A0 p0.length c0), (7, .int .i64 (p0.length : Int)), (8, .int .i64 x13), (9, .bool (decide (x13 < (p0.length : Int))))] (ar (ar (ar (ar (ar trivial))))) fun j => ?_
    rcases ite_some hF with ⟨hb23, hF⟩ | ⟨hb23, hF⟩
    · refine wpn_cT (congrArg Value.bool hb23) ?_
      refine wpn_sk ?_
      refine wpn_bl ?_
      obtain ⟨y24, g25, hF⟩ := bind_some hF
      refine wpn_idx (T := zf) r12 hO.base rfl rfl g25 (by decide) fun a26 _ k27 m28 => ?_
      obtain rfl : _ = ([.int .i64 y24.Reg, .int .i64 y24.At] : List Value) := k27
      refine wpn_ld rfl ((m28.le hO.base).all rfl) ?_
      refine wpn_al hO fun b29 σ hO => ?_
      have hO : Obs _ _ [_] := hO
      refine wpn_st hO (i := 0) rfl (off := 0) rfl rfl rfl rfl (Nat.le_of_ble_eq_true rfl) rfl fun σ hO => ?_
      have hO : Obs _ _ [_] := hO
      refine wpn_nil ?_
      refine wpn_assoc ?_
      refine wpn_qa hO [0, 0, 0, 0] [(5, .pointer (some ⟨b29, 0, none⟩)), (6, .slice A0 p0.length c0), (7, .int .i64 (p0.length : Int)), (8, .int .i64 x13), (30, .bool ((((decide (y24.Reg ≤ x11)) || (decide (y24.Reg > 11))) || (decide (y24.At > (-2)))) || (decide (y24.At < (-65536)))))] (And.intro (And.intro rfl rfl) (And.intro (And.intro rfl rfl) (And.intro (And.intro rfl rfl) (fun _ => And.intro (And.intro rfl rfl) (And.intro (And.intro rfl rfl) (fun _ => And.intro (And.intro rfl rfl) (And.intro (And.intro rfl rfl) (fun _ => ar (ar (ar (ar (ar trivial)))))))))))) fun j => ?_
      rcases ite_some hF with ⟨hb30, hF⟩ | ⟨hb30, hF⟩
      · refine wpn_cT (congrArg Value.bool hb30) ?_
        refine wpn_assoc ?_
        refine wpn_qa hO [] [(2, .bool false)] (ar trivial) fun j => ?_
        refine wpn_rt ?_
        refine inb_r1 ?_
        refine thn_r1 ?_
        refine thn_r1 ?_
        refine inb_r1 ?_
        refine thn_r1 ?_
        injection hF with hF
        subst hF
        have hO := hO.sel [] (by decide)
        exact hQ _ _ _ _ _ rfl hO hL ⟨rfl, rfl⟩
      · refine wpn_cF (congrArg Value.bool hb30) ?_
        refine wpn_sk ?_
        refine wpn_rlast ?_
        refine wpn_qa hO [0] [(3, .int .i64 y24.Reg), (6, .slice A0 p0.length c0), (7, .int .i64 (p0.length : Int)), (8, .int .i64 x13)] (And.intro (And.intro rfl rfl) (ar (ar (ar (ar trivial))))) fun j => ?_
        refine wpn_end ?_
        refine inb_i ?_
        refine thn_i ?_
        refine wpn_rlast ?_
        refine wpn_qa hO [] [(3, .int .i64 y24.Reg), (6, .slice A0 p0.length c0), (7, .int .i64 (p0.length : Int)), (8, .int .i64 (IntKind.i64.wrap (x13 + 1)))] (ar (ar (ar (ar trivial)))) fun j => ?_
        refine wpn_end ?_
        refine thn_i ?_
        have hO := hO.sel [] (by decide)
        exact ⟨n22, Nat.lt_succ_self _, y24.Reg, (IntKind.i64.wrap (x13 + 1)), _, ar (ar (ar (ar trivial))), hO, hL, r12, hF⟩
    · refine wpn_cF (congrArg Value.bool hb23) ?_
      refine wpn_ex ?_
      refine thn_x ?_
      refine inb_x ?_
      refine thn_i ?_
      refine wpn_qa hO [] [(2, .bool true)] (ar trivial) fun j => ?_
      refine wpn_r1 ?_
      injection hF with hF
      subst hF
      exact hQ _ _ _ _ _ rfl hO hL ⟨rfl, rfl⟩
theorem zbA {τ : Hp} {v0 : Value} {p0 : (List za)} (r0 : RdT zd τ v0 p0) {rr : Bool} (hF : zl p0 = some rr) :
    Ctr Try.prog 16 #[v0] τ [] (fun v τ' vs' => v = .bool rr ∧ vs' = []) := by
  obtain ⟨A0, c0, rfl, -⟩ := r0.form
  refine ctr_of (args := [.slice A0 p0.length c0]) hm Try.func16 s16 rfl fun w0 σ hO Q hQ => ?_
  unfold zl at hF
  have hL := Hp.le.refl τ
  show wpn _ _ a16.body _ _ _
  unfold a16
  dsimp only
  refine wpn_qa hO [] [(0, .slice A0 p0.length c0)] (ar trivial) fun j => ?_
  refine wpn_qa hO [] [(0, .slice A0 p0.length c0), (3, .int .i64 0)] (ar (ar trivial)) fun j => ?_
  refine wpn_assoc ?_
  refine wpn_qa hO [] [(0, .slice A0 p0.length c0), (3, .int .i64 0), (6, .slice A0 p0.length c0), (7, .int .i64 (p0.length : Int)), (8, .int .i64 0)] (ar (ar (ar (ar (ar trivial))))) fun j => ?_
  refine wpn_bl ?_
  refine wpn_lp (fun (n : Nat) e' σ' => ∃ (x24 : Int) (x26 : Int) (τ' : Hp), agr [(0, .slice A0 p0.length c0), (3, .int .i64 x24), (6, .slice A0 p0.length c0), (7, .int .i64 (p0.length : Int)), (8, .int .i64 x26)] e' ∧ Obs τ' σ' [] ∧ Hp.le τ τ' ∧ RdT zd τ' (.slice A0 p0.length c0) p0 ∧ RdT zd τ' (.slice A0 p0.length c0) p0 ∧ zP p0 n x24 x26 = some rr) big ⟨0, 0, _, ar (ar (ar (ar (ar trivial)))), hO, hL, r0, r0, hF⟩ ?_
  clear hF hO hL
  rintro n46 e σ ⟨x24, x26, _, hA, hO, hL, r23, r25, hF⟩
  rw [← sets_agr _ _ hA]
  cases n46 with
  | zero => exact nomatch (show none = some rr from hF)
  | succ n46 =>
    replace hF : z9 (zP p0 n46) p0 x24 x26 = some rr := hF
    unfold z9 at hF
    refine wpn_qa hO [] [(0, .slice A0 p0.length c0), (3, .int .i64 x24), (6, .slice A0 p0.length c0), (7, .int .i64 (p0.length : Int)), (8, .int .i64 x26), (9, .bool (decide (x26 < (p0.length : Int))))] (ar (ar (ar (ar (ar (ar trivial)))))) fun j => ?_
    rcases ite_some hF with ⟨hb47, hF⟩ | ⟨hb47, hF⟩
    · refine wpn_cT (congrArg Value.bool hb47) ?_
      refine wpn_sk ?_
      refine wpn_bl ?_
      obtain ⟨y48, g49, hF⟩ := bind_some hF
      refine wpn_idx (T := zd) r25 hO.base rfl rfl g49 (by decide) fun a50 _ k51 m52 => ?_
      obtain ⟨v53, rfl, r54⟩ := k51
      obtain ⟨A55, c56, rfl, -⟩ := r54.form
      refine wpn_ld rfl ((m52.le hO.base).all rfl) ?_
      refine wpn_al hO fun b57 σ hO => ?_
      have hO : Obs _ _ [_] := hO
      refine wpn_st hO (i := 0) rfl (off := 0) rfl rfl rfl rfl (Nat.le_of_ble_eq_true rfl) rfl fun σ hO => ?_
      have hO : Obs _ _ [_] := hO
      refine wpn_nil ?_
      refine wpn_assoc ?_
      refine wpn_q hO 17 [0, 0, 0, 0, 0, 0] [(0, .slice A0 p0.length c0), (5, .pointer (some ⟨b57, 0, none⟩)), (6, .slice A0 p0.length c0), (7, .int .i64 (p0.length : Int)), (8, .int .i64 x26), (38, .bool (((((decide (y48.From < x24)) || (decide (y48.To ≤ y48.From))) || (decide (y48.To > 16777216))) || (decide (y48.Up < 0))) || (decide (y48.Up > 65536))))] (And.intro (And.intro rfl rfl) (And.intro (And.intro rfl rfl) (And.intro (And.intro rfl rfl) (And.intro (And.intro rfl rfl) (fun _ => And.intro (And.intro rfl rfl) (And.intro (And.intro rfl rfl) (fun _ => And.intro (And.intro rfl rfl) (And.intro (And.intro rfl rfl) (fun _ => And.intro (And.intro rfl rfl) (And.intro (And.intro rfl rfl) (fun _ => ar (ar (ar (ar (ar (ar trivial)))))))))))))))) fun j => ?_
      obtain ⟨c58, h59, hF⟩ := bind_some hF
      refine wpn_mid 2 (fun e' σ' => ∃ (τ' : Hp), agr [(43, .bool c58), (0, .slice A0 p0.length c0), (5, .pointer (some ⟨b57, 0, none⟩)), (6, .slice A0 p0.length c0), (7, .int .i64 (p0.length : Int)), (8, .int .i64 x26)] e' ∧ Obs τ' σ' [some (b57, ⟨[.int .i64 y48.From, .int .i64 y48.To, .int .i64 y48.Up, .slice A55 y48.Regs.length c56], 48, 4, true⟩)] ∧ Hp.le τ τ' ∧ RdT zd τ' (.slice A0 p0.length c0) p0 ∧ RdT zd τ' (.slice A0 p0.length c0) p0 ∧ RdT zf τ' (.slice A55 y48.Regs.length c56) y48.Regs) ?_ ?_
      · have hF := h59
        rcases ite_some hF with ⟨hb60, hF⟩ | ⟨hb60, hF⟩
        · refine wpn_gF (congrArg (fun x => isB (.bool x) false) hb60) ?_
          refine wpn_pk (congrArg Value.bool hb60) ?_
          refine wpn_nil ?_
          injection hF with hF
          subst hF
          refine wpn_end ?_
          exact ⟨rfl, _, ar (ar (ar (ar (ar (ar trivial))))), hO, hL, r23, r25, r54⟩
        · refine wpn_gT (congrArg (fun x => isB (.bool x) false) hb60) ?_
          refine wpn_q hO 2 [0] [(0, .slice A0 p0.length c0), (5, .pointer (some ⟨b57, 0, none⟩)), (6, .slice A0 p0.length c0), (7, .int .i64 (p0.length : Int)), (8, .int .i64 x26), (38, .bool (((((decide (y48.From < x24)) || (decide (y48.To ≤ y48.From))) || (decide (y48.To > 16777216))) || (decide (y48.Up < 0))) || (decide (y48.Up > 65536)))), (40, .slice A55 y48.Regs.length c56)] (And.intro (And.intro rfl rfl) (ar (ar (ar (ar (ar (ar (ar trivial)))))))) fun j => ?_
          obtain ⟨c61, h62, hF⟩ := bind_some hF
          refine wpn_c0 hO (zcc r54 h62) rfl fun _ σ _ _ hO h63 h64 => ?_
          have hL := hL.trans h63
          have r23 := r23.le h63
          have r25 := r25.le h63
          have r54 := r54.le h63
          obtain ⟨rfl, rfl⟩ := h64
          have hO : Obs _ _ [_] := hO
          refine wpn_q hO 1 [] [(0, .slice A0 p0.length c0), (5, .pointer (some ⟨b57, 0, none⟩)), (6, .slice A0 p0.length c0), (7, .int .i64 (p0.length : Int)), (8, .int .i64 x26), (38, .bool (((((decide (y48.From < x24)) || (decide (y48.To ≤ y48.From))) || (decide (y48.To > 16777216))) || (decide (y48.Up < 0))) || (decide (y48.Up > 65536)))), (42, .bool (!c61))] (ar (ar (ar (ar (ar (ar (ar trivial))))))) fun j => ?_
          refine wpn_pk (congrArg Value.bool hb60) ?_
          refine wpn_nil ?_
          injection hF with hF
          subst hF
          refine wpn_end ?_
          exact ⟨rfl, _, ar (ar (ar (ar (ar (ar trivial))))), hO, hL, r23, r25, r54⟩
      · rintro e σ ⟨_, hA, hO, hL, r23, r25, r54⟩
        rw [← sets_agr _ _ hA]
        refine wpn_nil ?_
        rcases ite_some hF with ⟨hb65, hF⟩ | ⟨hb65, hF⟩
        · refine wpn_cT (congrArg Value.bool hb65) ?_
          refine wpn_assoc ?_
          refine wpn_qa hO [] [(2, .bool false)] (ar trivial) fun j => ?_
          refine wpn_rt ?_
          refine inb_r1 ?_
          refine thn_r1 ?_
          refine thn_r1 ?_
          refine inb_r1 ?_
          refine thn_r1 ?_
          injection hF with hF
          subst hF
          have hO := hO.sel [] (by decide)
          exact hQ _ _ _ _ _ rfl hO hL ⟨rfl, rfl⟩
        · refine wpn_cF (congrArg Value.bool hb65) ?_
          refine wpn_sk ?_
          refine wpn_rlast ?_
          refine wpn_qa hO [0] [(0, .slice A0 p0.length c0), (3, .int .i64 y48.To), (6, .slice A0 p0.length c0), (7, .int .i64 (p0.length : Int)), (8, .int .i64 x26)] (And.intro (And.intro rfl rfl) (ar (ar (ar (ar (ar trivial)))))) fun j => ?_
          refine wpn_end ?_
          refine inb_i ?_
          refine thn_i ?_
          refine wpn_rlast ?_
          refine wpn_qa hO [] [(0, .slice A0 p0.length c0), (3, .int .i64 y48.To), (6, .slice A0 p0.length c0), (7, .int .i64 (p0.length : Int)), (8, .int .i64 (IntKind.i64.wrap (x26 + 1)))] (ar (ar (ar (ar (ar trivial))))) fun j => ?_
          refine wpn_end ?_
          refine thn_i ?_
          have hO := hO.sel [] (by decide)
          exact ⟨n46, Nat.lt_succ_self _, y48.To, (IntKind.i64.wrap (x26 + 1)), _, ar (ar (ar (ar (ar trivial)))), hO, hL, r23, r25, hF⟩
    · refine wpn_cF (congrArg Value.bool hb47) ?_
      refine wpn_ex ?_
      refine thn_x ?_
      refine inb_x ?_
      refine thn_i ?_
      refine wpn_qa hO [] [(2, .bool (decide ((p0.length : Int) ≤ 4000)))] (ar trivial) fun j => ?_
      refine wpn_r1 ?_
      injection hF with hF
      subst hF
      exact hQ _ _ _ _ _ rfl hO hL ⟨rfl, rfl⟩
theorem zbP {τ : Hp} {v0 : Value} {p0 : (List UInt8)} (r0 : RdT Ty.u8 τ v0 p0) {rr : (List UInt8)} (hF : zbq p0 = some rr) :
    Ctr Try.prog 45 #[v0] τ [] (fun v τ' vs' => ∃ (v0 : Value) (o0 : Ob), v = v0 ∧ vs' = [o0] ∧ OwnO Ty.u8 5 τ' v0 rr o0) := by
  obtain ⟨A0, c0, rfl, -⟩ := r0.form
  refine ctr_of (args := [.slice A0 p0.length c0]) hm Try.func45 s45 rfl fun w0 σ hO Q hQ => ?_
  unfold zbq at hF
  obtain ⟨_, hr, hF⟩ := bind_some hF
  injection hF with hF
  subst hF
  have hL := Hp.le.refl τ
  show wpn _ _ a45.body _ _ _
  unfold a45
  dsimp only
  refine wpn_qa hO [] [(0, .slice A0 p0.length c0)] (ar trivial) fun j => ?_
  refine wpn_assoc ?_
  refine wpn_qa hO [] [(0, .slice A0 p0.length c0), (4, .bool A0.isNone)] (ar (ar trivial)) fun j => ?_
  rcases (Bool.eq_false_or_eq_true A0.isNone).symm with hA | hA
  · refine wpn_cF (congrArg Value.bool hA) ?_
    refine wpn_sk ?_
    refine wpn_lit (T := Ty.u8) (l := []) (cs := []) hO rfl rfl rfl (by decide) fun _ σ o1 w1 hO => ?_
    obtain ⟨A1, c1, rfl, -⟩ := w1.form
    refine wpn_q hO 1 [] [(5, .slice A1 0 c1), (6, .slice A0 p0.length c0)] (ar (ar trivial)) fun j => ?_
    refine wpn_apl (T := Ty.u8) hO w1 (i := 0) rfl rfl rfl r0 (by simpa using hr) (by decide) fun _ σ o2 w2 hO => ?_
    refine wpn_qa hO [] [(2, _)] (ar trivial) fun j => ?_
    refine wpn_r1 ?_
    exact hQ _ _ _ _ _ rfl hO hL ⟨_, _, rfl, rfl, w2⟩
  · refine wpn_cT (congrArg Value.bool hA) ?_
    have := r0.empty (by decide) hA
    subst this
    refine wpn_assoc ?_
    refine wpn_qa hO [] [(2, .slice none 0 0)] (ar trivial) fun j => ?_
    refine wpn_rt ?_
    have hO := hO.no
    exact hQ _ _ _ _ _ rfl hO hL ⟨_, _, rfl, rfl, OwnO.nil _ _ _⟩
theorem zbC {τ : Hp} {v0 : Value} {p0 : (List UInt8)} {p1 : Int} (r0 : RdT Ty.u8 τ v0 p0) {rr : (List UInt8)} (hF : zo p0 p1 = some rr) :
    Ctr Try.prog 38 #[v0, .int .u64 p1] τ [] (fun v τ' vs' => ∃ (v0 : Value) (o0 : Ob), v = v0 ∧ vs' = [o0] ∧ OwnO Ty.u8 5 τ' v0 rr o0) := by
  obtain ⟨A0, c0, rfl, -⟩ := r0.form
  refine ctr_of (args := [.slice A0 p0.length c0, .int .u64 p1]) hm Try.func38 s38 rfl fun w0 σ hO Q hQ => ?_
  unfold zo at hF
  have hL := Hp.le.refl τ
  show wpn _ _ a38.body _ _ _
  unfold a38
  dsimp only
  refine wpn_qa hO [] [(0, .slice A0 p0.length c0), (1, .int .u64 p1)] (ar (ar trivial)) fun j => ?_
  refine wpn_q hO 1 [] [(1, .int .u64 p1), (6, .slice A0 p0.length c0)] (ar (ar trivial)) fun j => ?_
  obtain ⟨c3, h4, hF⟩ := bind_some hF
  refine wpn_c0 hO (zbP r0 h4) rfl fun _ σ _ _ hO h5 h6 => ?_
  have hL := hL.trans h5
  have r0 := r0.le h5
  obtain ⟨v7, o10, rfl, rfl, w11⟩ := h6
  obtain ⟨A8, c9, rfl, -⟩ := w11.form
  have hO : Obs _ _ [_] := hO
  refine wpn_qa hO [] [(1, .int .u64 p1), (5, .slice A8 c3.length c9)] (ar (ar trivial)) fun j => ?_
  refine wpn_bl ?_
  refine wpn_lp (fun (n : Nat) e' σ' => ∃ (x28 : Int) (A29 : Option Addr) (c30 : Nat) (o31 : Ob) (x32 : List UInt8) (τ' : Hp), agr [(1, .int .u64 x28), (5, .slice A29 x32.length c30)] e' ∧ Obs τ' σ' [o31] ∧ Hp.le τ τ' ∧ OwnO Ty.u8 5 τ' (.slice A29 x32.length c30) x32 o31 ∧ zR  n x28 x32 = some rr) big ⟨p1, A8, c9, o10, c3, _, ar (ar trivial), hO, hL, w11, hF⟩ ?_
  clear hF hO hL
  rintro n45 e σ ⟨x28, A29, c30, o31, x32, _, hA, hO, hL, w33, hF⟩
  rw [← sets_agr _ _ hA]
  cases n45 with
  | zero => exact nomatch (show none = some rr from hF)
  | succ n45 =>
    replace hF : zbb (zR  n45) x28 x32 = some rr := hF
    unfold zbb at hF
    refine wpn_assoc ?_
    refine wpn_qa hO [] [(1, .int .u64 x28), (5, .slice A29 x32.length c30), (9, .bool (decide (x28 > 127)))] (ar (ar (ar trivial))) fun j => ?_
    rcases ite_some hF with ⟨hb46, hF⟩ | ⟨hb46, hF⟩
    · refine wpn_cT (congrArg Value.bool hb46) ?_
      refine wpn_sk ?_
      refine wpn_blast ?_
      refine wpn_bl ?_
      refine wpn_q hO 4 [] [(1, .int .u64 x28), (10, .slice A29 x32.length c30), (13, .int .u8 (orI .u8 (IntKind.u8.wrap x28) 128))] (ar (ar (ar trivial))) fun j => ?_
      obtain ⟨z47, hz47, hF⟩ := bind_some hF
      obtain ⟨_, hr, hF⟩ := bind_some hF
      refine wpn_ap1 (T := Ty.u8) (y := z47) hO w33 (i := 0) rfl rfl (fun _ => rfl) rfl (u8R hz47) rfl hr (by decide) fun u _ σ o50 w51 hO => ?_
      obtain ⟨A48, c49, rfl, -⟩ := w51.form
      have hO : Obs _ _ [_] := hO
      refine wpn_qa hO [] [(1, .int .u64 x28), (5, .slice A48 (x32 ++ [z47]).length c49)] (ar (ar trivial)) fun j => ?_
      refine wpn_rlast ?_
      refine wpn_qa hO [] [(1, .int .u64 (shrI .u64 x28 7)), (5, .slice A48 (x32 ++ [z47]).length c49)] (ar (ar trivial)) fun j => ?_
      refine wpn_end ?_
      refine inb_i ?_
      refine thn_i ?_
      refine wpn_end ?_
      refine thn_i ?_
      exact ⟨n45, Nat.lt_succ_self _, (shrI .u64 x28 7), A48, c49, o50, (x32 ++ [z47]), _, ar (ar trivial), hO, hL, w51, hF⟩
    · refine wpn_cF (congrArg Value.bool hb46) ?_
      refine wpn_ex ?_
      refine thn_x ?_
      refine inb_x ?_
      refine thn_i ?_
      refine wpn_q hO 3 [] [(18, .slice A29 x32.length c30), (20, .int .u8 (IntKind.u8.wrap x28))] (ar (ar trivial)) fun j => ?_
      obtain ⟨z52, hz52, hF⟩ := bind_some hF
      obtain ⟨_, hr, hF⟩ := bind_some hF
      refine wpn_ap1 (T := Ty.u8) (y := z52) hO w33 (i := 0) rfl rfl (fun _ => rfl) rfl (u8R hz52) rfl hr (by decide) fun u _ σ o55 w56 hO => ?_
      obtain ⟨A53, c54, rfl, -⟩ := w56.form
      have hO : Obs _ _ [_] := hO
      refine wpn_qa hO [] [(4, .slice A53 (x32 ++ [z52]).length c54)] (ar trivial) fun j => ?_
      refine wpn_r1 ?_
      injection hF with hF
      subst hF
      exact hQ _ _ _ _ _ rfl hO hL ⟨_, _, rfl, rfl, w56⟩
theorem zX {τ : Hp} {v0 : Value} {p0 : (List UInt8)} {v1 : Value} {p1 : (List Int)} (r0 : RdT Ty.u8 τ v0 p0) (r1 : RdT (Ty.int .i64) τ v1 p1) {rr : (List UInt8)} (hF : zn p0 p1 = some rr) :
    Ctr Try.prog 25 #[v0, v1] τ [] (fun v τ' vs' => ∃ (v0 : Value) (o0 : Ob), v = v0 ∧ vs' = [o0] ∧ OwnO Ty.u8 5 τ' v0 rr o0) := by
  obtain ⟨A0, c0, rfl, -⟩ := r0.form
  obtain ⟨A1, c1, rfl, -⟩ := r1.form
  refine ctr_of (args := [.slice A0 p0.length c0, .slice A1 p1.length c1]) hm Try.func25 s25 rfl fun w0 σ hO Q hQ => ?_
  unfold zn at hF
  have hL := Hp.le.refl τ
  show wpn _ _ a25.body _ _ _
  unfold a25
  dsimp only
  refine wpn_qa hO [] [(0, .slice A0 p0.length c0), (1, .slice A1 p1.length c1)] (ar (ar trivial)) fun j => ?_
  refine wpn_assoc ?_
  refine wpn_qa hO [] [(0, .slice A0 p0.length c0), (7, .slice A1 p1.length c1), (8, .int .i64 (p1.length : Int)), (9, .int .i64 0)] (ar (ar (ar (ar trivial)))) fun j => ?_
  refine wpn_bl ?_
  refine wpn_lpp (fun (n : Nat) e' σ' => ∃ (A58 : Option Addr) (c59 : Nat) (o60 : Ob) (x61 : List UInt8) (x64 : Int) (τ' : Hp), agr [(0, .slice A58 x61.length c59), (7, .slice A1 p1.length c1), (8, .int .i64 (p1.length : Int)), (9, .int .i64 x64)] e' ∧ Obs τ' σ' [o60] ∧ Hp.le τ τ' ∧ OwnO Ty.u8 5 τ' (.slice A58 x61.length c59) x61 o60 ∧ RdT (Ty.int .i64) τ' (.slice A1 p1.length c1) p1 ∧ zbl p1 n x61 x64 = some rr) big ?_ ?_
  · refine wpn_qa hO [] [(0, .slice A0 p0.length c0), (7, .slice A1 p1.length c1), (8, .int .i64 (p1.length : Int)), (9, .int .i64 0), (10, .bool (decide (0 < (p1.length : Int))))] (ar (ar (ar (ar (ar trivial))))) fun j => ?_
    rcases ite_some hF with ⟨hb100, hF⟩ | ⟨hb100, hF⟩
    · refine wpn_cT (congrArg Value.bool hb100) ?_
      refine wpn_sk ?_
      refine wpn_bl ?_
      obtain ⟨y101, g102, hF⟩ := bind_some hF
      refine wpn_idx (T := (Ty.int .i64)) r1 hO.base rfl rfl g102 (by decide) fun a103 _ k104 m105 => ?_
      obtain rfl : _ = ([.int .i64 y101] : List Value) := k104
      refine wpn_ld rfl (m105.le hO.base).fst ?_
      refine wpn_qa hO [] [(0, .slice A0 p0.length c0), (6, .int .i64 y101), (7, .slice A1 p1.length c1), (8, .int .i64 (p1.length : Int)), (9, .int .i64 0)] (ar (ar (ar (ar (ar trivial))))) fun j => ?_
      refine wpn_rlast ?_
      refine wpn_q hO 3 [] [(7, .slice A1 p1.length c1), (8, .int .i64 (p1.length : Int)), (9, .int .i64 0), (13, .slice A0 p0.length c0), (15, .int .u64 (IntKind.u64.wrap y101))] (ar (ar (ar (ar (ar trivial))))) fun j => ?_
      obtain ⟨c106, h107, hF⟩ := bind_some hF
      refine wpn_c0 hO (zbC r0 h107) rfl fun _ σ _ _ hO h108 h109 => ?_
      have hL := hL.trans h108
      have r1 := r1.le h108
      have r0 := r0.le h108
      obtain ⟨v110, o113, rfl, rfl, w114⟩ := h109
      obtain ⟨A111, c112, rfl, -⟩ := w114.form
      have hO : Obs _ _ [_] := hO
      refine wpn_qa hO [] [(0, .slice A111 c106.length c112), (7, .slice A1 p1.length c1), (8, .int .i64 (p1.length : Int)), (9, .int .i64 0)] (ar (ar (ar (ar trivial)))) fun j => ?_
      refine wpn_end ?_
      refine inb_i ?_
      refine thn_i ?_
      refine wpn_rlast ?_
      refine wpn_qa hO [] [(0, .slice A111 c106.length c112), (7, .slice A1 p1.length c1), (8, .int .i64 (p1.length : Int)), (9, .int .i64 (IntKind.i64.wrap (0 + 1)))] (ar (ar (ar (ar trivial)))) fun j => ?_
      refine wpn_end ?_
      refine thn_i ?_
      exact ⟨A111, c112, o113, c106, (IntKind.i64.wrap (0 + 1)), _, ar (ar (ar (ar trivial))), hO, hL, w114, r1, hF⟩
    · refine wpn_cF (congrArg Value.bool hb100) ?_
      refine wpn_ex ?_
      refine thn_x ?_
      refine inb_x ?_
      refine thn_i ?_
      refine wpn_qa hO [] [(4, .slice A0 p0.length c0)] (ar trivial) fun j => ?_
      refine wpn_r1 ?_
      exact nomatch (show none = some _ from hF)
  · clear hF hO hL
    rintro n82 e σ ⟨A58, c59, o60, x61, x64, _, hA, hO, hL, w62, r63, hF⟩
    rw [← sets_agr _ _ hA]
    cases n82 with
    | zero => exact nomatch (show none = some rr from hF)
    | succ n82 =>
      replace hF : zY (zbl p1 n82) p1 x61 x64 = some rr := hF
      unfold zY at hF
      refine wpn_qa hO [] [(0, .slice A58 x61.length c59), (7, .slice A1 p1.length c1), (8, .int .i64 (p1.length : Int)), (9, .int .i64 x64), (10, .bool (decide (x64 < (p1.length : Int))))] (ar (ar (ar (ar (ar trivial))))) fun j => ?_
      rcases ite_some hF with ⟨hb83, hF⟩ | ⟨hb83, hF⟩
      · refine wpn_cT (congrArg Value.bool hb83) ?_
        refine wpn_sk ?_
        refine wpn_bl ?_
        obtain ⟨y84, g85, hF⟩ := bind_some hF
        refine wpn_idx (T := (Ty.int .i64)) r63 hO.base rfl rfl g85 (by decide) fun a86 _ k87 m88 => ?_
        obtain rfl : _ = ([.int .i64 y84] : List Value) := k87
        refine wpn_ld rfl (m88.le hO.base).fst ?_
        refine wpn_qa hO [] [(0, .slice A58 x61.length c59), (6, .int .i64 y84), (7, .slice A1 p1.length c1), (8, .int .i64 (p1.length : Int)), (9, .int .i64 x64)] (ar (ar (ar (ar (ar trivial))))) fun j => ?_
        refine wpn_rlast ?_
        refine wpn_q hO 3 [] [(7, .slice A1 p1.length c1), (8, .int .i64 (p1.length : Int)), (9, .int .i64 x64), (13, .slice A58 x61.length c59), (15, .int .u64 (IntKind.u64.wrap y84))] (ar (ar (ar (ar (ar trivial))))) fun j => ?_
        obtain ⟨_, h90, r89, hO⟩ := w62.share hO (i := 0) rfl
        have hL := hL.trans h90
        have r63 := r63.le h90
        have hO : Obs _ _ [_] := hO
        obtain ⟨c91, h92, hF⟩ := bind_some hF
        refine wpn_c0 hO (zbC r89 h92) rfl fun _ σ _ _ hO h93 h94 => ?_
        have hL := hL.trans h93
        have r63 := r63.le h93
        have r89 := r89.le h93
        obtain ⟨v95, o98, rfl, rfl, w99⟩ := h94
        obtain ⟨A96, c97, rfl, -⟩ := w99.form
        have hO : Obs _ _ [_, _] := hO
        refine wpn_qa hO [] [(0, .slice A96 c91.length c97), (7, .slice A1 p1.length c1), (8, .int .i64 (p1.length : Int)), (9, .int .i64 x64)] (ar (ar (ar (ar trivial)))) fun j => ?_
        refine wpn_end ?_
        refine inb_i ?_
        refine thn_i ?_
        refine wpn_rlast ?_
        refine wpn_qa hO [] [(0, .slice A96 c91.length c97), (7, .slice A1 p1.length c1), (8, .int .i64 (p1.length : Int)), (9, .int .i64 (IntKind.i64.wrap (x64 + 1)))] (ar (ar (ar (ar trivial)))) fun j => ?_
        refine wpn_end ?_
        refine thn_i ?_
        have hO := hO.sel [1] (by decide)
        exact ⟨n82, Nat.lt_succ_self _, A96, c97, o98, c91, (IntKind.i64.wrap (x64 + 1)), _, ar (ar (ar (ar trivial))), hO, hL, w99, r63, hF⟩
      · refine wpn_cF (congrArg Value.bool hb83) ?_
        refine wpn_ex ?_
        refine thn_x ?_
        refine inb_x ?_
        refine thn_i ?_
        refine wpn_qa hO [] [(4, .slice A58 x61.length c59)] (ar trivial) fun j => ?_
        refine wpn_r1 ?_
        injection hF with hF
        subst hF
        exact hQ _ _ _ _ _ rfl hO hL ⟨_, _, rfl, rfl, w62⟩
theorem zca {τ : Hp} {v0 : Value} {p0 : (List UInt8)} {v1 : Value} {p1 : (List za)} (r0 : RdT Ty.u8 τ v0 p0) (r1 : RdT zd τ v1 p1) {rr : (List UInt8) × Int} (hF : zw p0 p1 = some rr) :
    Ctr Try.prog 11 #[v0, v1] τ [] (fun v τ' vs' => ∃ (v0 : Value) (o0 : Ob), v = .tuple #[v0, .int .i64 rr.2] ∧ vs' = [o0] ∧ OwnO Ty.u8 5 τ' v0 rr.1 o0) := by
  obtain ⟨A0, c0, rfl, -⟩ := r0.form
  obtain ⟨A1, c1, rfl, -⟩ := r1.form
  refine ctr_of (args := [.slice A0 p0.length c0, .slice A1 p1.length c1]) hm Try.func11 s11 rfl fun w0 σ hO Q hQ => ?_
  unfold zw at hF
  have hL := Hp.le.refl τ
  show wpn _ _ a11.body _ _ _
  unfold a11
  dsimp only
  refine wpn_qa hO [] [(0, .slice A0 p0.length c0), (1, .slice A1 p1.length c1)] (ar (ar trivial)) fun j => ?_
  refine wpn_assoc ?_
  refine wpn_q hO 1 [] [(0, .slice A0 p0.length c0), (1, .slice A1 p1.length c1), (12, .slice A1 p1.length c1)] (ar (ar (ar trivial))) fun j => ?_
  obtain ⟨c3, h4, hF⟩ := bind_some hF
  refine wpn_c0 hO (zbA r1 h4) rfl fun _ σ _ _ hO h5 h6 => ?_
  have hL := hL.trans h5
  have r0 := r0.le h5
  have r1 := r1.le h5
  obtain ⟨rfl, rfl⟩ := h6
  have hO : Obs _ _ [] := hO
  refine wpn_qa hO [] [(0, .slice A0 p0.length c0), (1, .slice A1 p1.length c1), (14, .bool (!c3))] (ar (ar (ar trivial))) fun j => ?_
  rcases ite_some hF with ⟨hb7, hF⟩ | ⟨hb7, hF⟩
  · refine wpn_cT (congrArg Value.bool hb7) ?_
    refine wpn_assoc ?_
    refine wpn_qa hO [] [(4, .slice none 0 0), (5, .int .i64 1)] (ar (ar trivial)) fun j => ?_
    refine wpn_rt ?_
    have hO := hO.no
    have hO : Obs _ _ [_] := hO
    injection hF with hF
    subst hF
    exact hQ _ _ _ _ _ rfl hO hL ⟨_, _, rfl, rfl, (OwnO.nil _ _ _)⟩
  · refine wpn_cF (congrArg Value.bool hb7) ?_
    refine wpn_sk ?_
    refine wpn_q hO 3 [] [(1, .slice A1 p1.length c1), (15, .slice A0 p0.length c0), (17, .int .i64 (p1.length : Int))] (ar (ar (ar trivial))) fun j => ?_
    refine wpn_lit (T := (Ty.int .i64)) (l := ([(p1.length : Int)] : List Int)) (cs := [.int .i64 (p1.length : Int)]) hO rfl ⟨[.int .i64 (p1.length : Int)], _, rfl, rfl, rfl⟩ rfl (by decide) fun _ σ o10 w11 hO => ?_
    obtain ⟨A8, c9, rfl, -⟩ := w11.form
    have hO : Obs _ _ [_] := hO
    obtain ⟨_, h13, r12, hO⟩ := w11.share hO (i := 0) rfl
    have hL := hL.trans h13
    have r1 := r1.le h13
    have r0 := r0.le h13
    have hO : Obs _ _ [_] := hO
    obtain ⟨c14, h15, hF⟩ := bind_some hF
    refine wpn_c0 hO (zX r0 r12 h15) rfl fun _ σ _ _ hO h16 h17 => ?_
    have hL := hL.trans h16
    have r1 := r1.le h16
    have r0 := r0.le h16
    have r12 := r12.le h16
    obtain ⟨v18, o21, rfl, rfl, w22⟩ := h17
    obtain ⟨A19, c20, rfl, -⟩ := w22.form
    have hO : Obs _ _ [_, _] := hO
    refine wpn_qa hO [] [(1, .slice A1 p1.length c1), (6, .slice A19 c14.length c20)] (ar (ar trivial)) fun j => ?_
    refine wpn_qa hO [] [(1, .slice A1 p1.length c1), (6, .slice A19 c14.length c20), (7, .int .i64 0)] (ar (ar (ar trivial))) fun j => ?_
    refine wpn_assoc ?_
    refine wpn_qa hO [] [(6, .slice A19 c14.length c20), (7, .int .i64 0), (20, .slice A1 p1.length c1), (21, .int .i64 (p1.length : Int)), (22, .int .i64 0)] (ar (ar (ar (ar (ar trivial))))) fun j => ?_
    refine wpn_bl ?_
    have hO := hO.sel [1] (by decide)
    refine wpn_lp (fun (n : Nat) e' σ' => ∃ (A174 : Option Addr) (c175 : Nat) (o176 : Ob) (x177 : List UInt8) (x179 : Int) (x181 : Int) (τ' : Hp), agr [(6, .slice A174 x177.length c175), (7, .int .i64 x179), (20, .slice A1 p1.length c1), (21, .int .i64 (p1.length : Int)), (22, .int .i64 x181)] e' ∧ Obs τ' σ' [o176] ∧ Hp.le τ τ' ∧ OwnO Ty.u8 5 τ' (.slice A174 x177.length c175) x177 o176 ∧ RdT zd τ' (.slice A1 p1.length c1) p1 ∧ zj p1 n x177 x179 x181 = some rr) big ⟨A19, c20, o21, c14, 0, 0, _, ar (ar (ar (ar (ar trivial)))), hO, hL, w22, r1, hF⟩ ?_
    clear hF hO hL
    rintro n327 e σ ⟨A174, c175, o176, x177, x179, x181, _, hA, hO, hL, w178, r180, hF⟩
    rw [← sets_agr _ _ hA]
    cases n327 with
    | zero => exact nomatch (show none = some rr from hF)
    | succ n327 =>
      replace hF : z1 (zj p1 n327) p1 x177 x179 x181 = some rr := hF
      unfold z1 at hF
      refine wpn_qa hO [] [(6, .slice A174 x177.length c175), (7, .int .i64 x179), (20, .slice A1 p1.length c1), (21, .int .i64 (p1.length : Int)), (22, .int .i64 x181), (23, .bool (decide (x181 < (p1.length : Int))))] (ar (ar (ar (ar (ar (ar trivial)))))) fun j => ?_
      rcases ite_some hF with ⟨hb328, hF⟩ | ⟨hb328, hF⟩
      · refine wpn_cT (congrArg Value.bool hb328) ?_
        refine wpn_sk ?_
        refine wpn_bl ?_
        obtain ⟨y329, g330, hF⟩ := bind_some hF
        refine wpn_idx (T := zd) r180 hO.base rfl rfl g330 (by decide) fun a331 _ k332 m333 => ?_
        obtain ⟨v334, rfl, r335⟩ := k332
        obtain ⟨A336, c337, rfl, -⟩ := r335.form
        refine wpn_ld rfl ((m333.le hO.base).all rfl) ?_
        refine wpn_al hO fun b338 σ hO => ?_
        have hO : Obs _ _ [_, _] := hO
        refine wpn_st hO (i := 1) rfl (off := 0) rfl rfl rfl rfl (Nat.le_of_ble_eq_true rfl) rfl fun σ hO => ?_
        have hO : Obs _ _ [_, _] := hO
        refine wpn_nil ?_
        refine wpn_q hO 15 [1, 1, 1, 1, 1] [(9, .pointer (some ⟨b338, 0, none⟩)), (20, .slice A1 p1.length c1), (21, .int .i64 (p1.length : Int)), (22, .int .i64 x181), (26, .slice A174 x177.length c175), (30, .int .i64 (IntKind.i64.wrap (y329.From - x179))), (35, .int .i64 (IntKind.i64.wrap (y329.To - y329.From))), (37, .int .i64 y329.Up), (40, .int .i64 (y329.Regs.length : Int))] (And.intro (And.intro rfl rfl) (And.intro (And.intro rfl rfl) (And.intro (And.intro rfl rfl) (And.intro (And.intro rfl rfl) (And.intro (And.intro rfl rfl) (ar (ar (ar (ar (ar (ar (ar (ar (ar trivial)))))))))))))) fun j => ?_
        refine wpn_lit (T := (Ty.int .i64)) (l := ([(IntKind.i64.wrap (y329.From - x179)), (IntKind.i64.wrap (y329.To - y329.From)), y329.Up, (y329.Regs.length : Int)] : List Int)) (cs := [.int .i64 (IntKind.i64.wrap (y329.From - x179)), .int .i64 (IntKind.i64.wrap (y329.To - y329.From)), .int .i64 y329.Up, .int .i64 (y329.Regs.length : Int)]) hO rfl ⟨[.int .i64 (IntKind.i64.wrap (y329.From - x179))], _, rfl, rfl, ⟨[.int .i64 (IntKind.i64.wrap (y329.To - y329.From))], _, rfl, rfl, ⟨[.int .i64 y329.Up], _, rfl, rfl, ⟨[.int .i64 (y329.Regs.length : Int)], _, rfl, rfl, rfl⟩⟩⟩⟩ rfl (by decide) fun _ σ o341 w342 hO => ?_
        obtain ⟨A339, c340, rfl, -⟩ := w342.form
        have hO : Obs _ _ [_, _, _] := hO
        obtain ⟨_, h344, r343, hO⟩ := w178.share hO (i := 0) rfl
        have hL := hL.trans h344
        have r180 := r180.le h344
        have w342 := w342.le h344
        have r335 := r335.le h344
        have hO : Obs _ _ [_, _, _] := hO
        obtain ⟨_, h346, r345, hO⟩ := w342.share hO (i := 2) rfl
        have hL := hL.trans h346
        have r180 := r180.le h346
        have r343 := r343.le h346
        have r335 := r335.le h346
        have hO : Obs _ _ [_, _, _] := hO
        obtain ⟨c347, h348, hF⟩ := bind_some hF
        refine wpn_c0 hO (zX r343 r345 h348) rfl fun _ σ _ _ hO h349 h350 => ?_
        have hL := hL.trans h349
        have r180 := r180.le h349
        have r343 := r343.le h349
        have r345 := r345.le h349
        have r335 := r335.le h349
        obtain ⟨v351, o354, rfl, rfl, w355⟩ := h350
        obtain ⟨A352, c353, rfl, -⟩ := w355.form
        have hO : Obs _ _ [_, _, _, _] := hO
        refine wpn_qa hO [] [(6, .slice A352 c347.length c353), (9, .pointer (some ⟨b338, 0, none⟩)), (20, .slice A1 p1.length c1), (21, .int .i64 (p1.length : Int)), (22, .int .i64 x181)] (ar (ar (ar (ar (ar trivial))))) fun j => ?_
        refine wpn_assoc ?_
        refine wpn_qa hO [1] [(6, .slice A352 c347.length c353), (9, .pointer (some ⟨b338, 0, none⟩)), (20, .slice A1 p1.length c1), (21, .int .i64 (p1.length : Int)), (22, .int .i64 x181), (44, .slice A336 y329.Regs.length c337), (45, .int .i64 (y329.Regs.length : Int)), (46, .int .i64 0)] (And.intro (And.intro rfl rfl) (ar (ar (ar (ar (ar (ar (ar (ar trivial))))))))) fun j => ?_
        refine wpn_bl ?_
        have hO := hO.sel [3, 1] (by decide)
        refine wpn_lp (fun (n : Nat) e' σ' => ∃ (A397 : Option Addr) (c398 : Nat) (o399 : Ob) (x400 : List UInt8) (x405 : Int) (τ' : Hp), agr [(6, .slice A397 x400.length c398), (9, .pointer (some ⟨b338, 0, none⟩)), (20, .slice A1 p1.length c1), (21, .int .i64 (p1.length : Int)), (22, .int .i64 x181), (44, .slice A336 y329.Regs.length c337), (45, .int .i64 (y329.Regs.length : Int)), (46, .int .i64 x405)] e' ∧ Obs τ' σ' [o399, some (b338, ⟨[.int .i64 y329.From, .int .i64 y329.To, .int .i64 y329.Up, .slice A336 y329.Regs.length c337], 48, 4, true⟩)] ∧ Hp.le τ τ' ∧ OwnO Ty.u8 5 τ' (.slice A397 x400.length c398) x400 o399 ∧ RdT zf τ' (.slice A336 y329.Regs.length c337) y329.Regs ∧ RdT zd τ' (.slice A1 p1.length c1) p1 ∧ RdT zf τ' (.slice A336 y329.Regs.length c337) y329.Regs ∧ z0 (zj p1 n327) x181 y329 n x400 x405 = some rr) big ⟨A352, c353, o354, c347, 0, _, ar (ar (ar (ar (ar (ar (ar (ar trivial))))))), hO, hL, w355, r335, r180, r335, hF⟩ ?_
        clear hF hO hL
        rintro n439 e σ ⟨A397, c398, o399, x400, x405, _, hA, hO, hL, w401, r402, r403, r404, hF⟩
        rw [← sets_agr _ _ hA]
        cases n439 with
        | zero => exact nomatch (show none = some rr from hF)
        | succ n439 =>
          replace hF : zbd (z0 (zj p1 n327) x181 y329 n439) (zj p1 n327) x181 y329 x400 x405 = some rr := hF
          unfold zbd at hF
          refine wpn_qa hO [] [(6, .slice A397 x400.length c398), (9, .pointer (some ⟨b338, 0, none⟩)), (20, .slice A1 p1.length c1), (21, .int .i64 (p1.length : Int)), (22, .int .i64 x181), (44, .slice A336 y329.Regs.length c337), (45, .int .i64 (y329.Regs.length : Int)), (46, .int .i64 x405), (47, .bool (decide (x405 < (y329.Regs.length : Int))))] (ar (ar (ar (ar (ar (ar (ar (ar (ar trivial))))))))) fun j => ?_
          rcases ite_some hF with ⟨hb440, hF⟩ | ⟨hb440, hF⟩
          · refine wpn_cT (congrArg Value.bool hb440) ?_
            refine wpn_sk ?_
            refine wpn_bl ?_
            obtain ⟨y441, g442, hF⟩ := bind_some hF
            refine wpn_idx (T := zf) r404 hO.base rfl rfl g442 (by decide) fun a443 _ k444 m445 => ?_
            obtain rfl : _ = ([.int .i64 y441.Reg, .int .i64 y441.At] : List Value) := k444
            refine wpn_ld rfl ((m445.le hO.base).all rfl) ?_
            refine wpn_al hO fun b446 σ hO => ?_
            have hO : Obs _ _ [_, _, _] := hO
            refine wpn_st hO (i := 2) rfl (off := 0) rfl rfl rfl rfl (Nat.le_of_ble_eq_true rfl) rfl fun σ hO => ?_
            have hO : Obs _ _ [_, _, _] := hO
            refine wpn_nil ?_
            refine wpn_ptl ?_
            refine wpn_pq ?_
            refine wpn_qa hO [] [(9, .pointer (some ⟨b338, 0, none⟩)), (11, .pointer (some ⟨b446, 0, none⟩)), (20, .slice A1 p1.length c1), (21, .int .i64 (p1.length : Int)), (22, .int .i64 x181), (44, .slice A336 y329.Regs.length c337), (45, .int .i64 (y329.Regs.length : Int)), (46, .int .i64 x405), (50, .slice A397 x400.length c398)] (ar (ar (ar (ar (ar (ar (ar (ar (ar trivial))))))))) fun j => ?_
            refine wpn_pq ?_
            refine wpn_qa hO [] [(9, .pointer (some ⟨b338, 0, none⟩)), (11, .pointer (some ⟨b446, 0, none⟩)), (20, .slice A1 p1.length c1), (21, .int .i64 (p1.length : Int)), (22, .int .i64 x181), (44, .slice A336 y329.Regs.length c337), (45, .int .i64 (y329.Regs.length : Int)), (46, .int .i64 x405), (50, .slice A397 x400.length c398), (51, .pointer (some ⟨b446, 0, none⟩))] (ar (ar (ar (ar (ar (ar (ar (ar (ar (ar trivial)))))))))) fun j => ?_
            refine wpn_pq ?_
            refine wpn_qa hO [2] [(9, .pointer (some ⟨b338, 0, none⟩)), (11, .pointer (some ⟨b446, 0, none⟩)), (20, .slice A1 p1.length c1), (21, .int .i64 (p1.length : Int)), (22, .int .i64 x181), (44, .slice A336 y329.Regs.length c337), (45, .int .i64 (y329.Regs.length : Int)), (46, .int .i64 x405), (50, .slice A397 x400.length c398), (51, .pointer (some ⟨b446, 0, none⟩)), (52, .int .i64 y441.Reg)] (And.intro (And.intro rfl rfl) (ar (ar (ar (ar (ar (ar (ar (ar (ar (ar (ar trivial)))))))))))) fun j => ?_
            refine wpn_pq ?_
            refine wpn_qa hO [] [(9, .pointer (some ⟨b338, 0, none⟩)), (11, .pointer (some ⟨b446, 0, none⟩)), (20, .slice A1 p1.length c1), (21, .int .i64 (p1.length : Int)), (22, .int .i64 x181), (44, .slice A336 y329.Regs.length c337), (45, .int .i64 (y329.Regs.length : Int)), (46, .int .i64 x405), (50, .slice A397 x400.length c398), (51, .pointer (some ⟨b446, 0, none⟩)), (52, .int .i64 y441.Reg), (53, .int .u8 (IntKind.u8.wrap y441.Reg))] (ar (ar (ar (ar (ar (ar (ar (ar (ar (ar (ar (ar trivial)))))))))))) fun j => ?_
            refine wpn_pq ?_
            refine wpn_qa hO [] [(9, .pointer (some ⟨b338, 0, none⟩)), (20, .slice A1 p1.length c1), (21, .int .i64 (p1.length : Int)), (22, .int .i64 x181), (44, .slice A336 y329.Regs.length c337), (45, .int .i64 (y329.Regs.length : Int)), (46, .int .i64 x405), (50, .slice A397 x400.length c398), (51, .pointer (some ⟨b446, 0, none⟩)), (52, .int .i64 y441.Reg), (53, .int .u8 (IntKind.u8.wrap y441.Reg)), (56, .pointer (some ⟨b446, 1, none⟩))] (ar (ar (ar (ar (ar (ar (ar (ar (ar (ar (ar (ar trivial)))))))))))) fun j => ?_
            refine wpn_pq ?_
            refine wpn_qa hO [2] [(9, .pointer (some ⟨b338, 0, none⟩)), (20, .slice A1 p1.length c1), (21, .int .i64 (p1.length : Int)), (22, .int .i64 x181), (44, .slice A336 y329.Regs.length c337), (45, .int .i64 (y329.Regs.length : Int)), (46, .int .i64 x405), (50, .slice A397 x400.length c398), (51, .pointer (some ⟨b446, 0, none⟩)), (52, .int .i64 y441.Reg), (53, .int .u8 (IntKind.u8.wrap y441.Reg)), (56, .pointer (some ⟨b446, 1, none⟩)), (57, .int .i64 y441.At)] (And.intro (And.intro rfl rfl) (ar (ar (ar (ar (ar (ar (ar (ar (ar (ar (ar (ar (ar trivial)))))))))))))) fun j => ?_
            refine wpn_pq ?_
            refine wpn_qa hO [] [(9, .pointer (some ⟨b338, 0, none⟩)), (20, .slice A1 p1.length c1), (21, .int .i64 (p1.length : Int)), (22, .int .i64 x181), (44, .slice A336 y329.Regs.length c337), (45, .int .i64 (y329.Regs.length : Int)), (46, .int .i64 x405), (50, .slice A397 x400.length c398), (51, .pointer (some ⟨b446, 0, none⟩)), (52, .int .i64 y441.Reg), (53, .int .u8 (IntKind.u8.wrap y441.Reg)), (56, .pointer (some ⟨b446, 1, none⟩)), (57, .int .i64 y441.At), (58, .int .i64 (IntKind.i64.wrap (0 - y441.At)))] (ar (ar (ar (ar (ar (ar (ar (ar (ar (ar (ar (ar (ar (ar trivial)))))))))))))) fun j => ?_
            obtain ⟨z447, hz447, hF⟩ := bind_some hF
            obtain ⟨_, hr, hF⟩ := bind_some hF
            obtain ⟨c464, h465, hF⟩ := bind_some hF
            refine wpn_pb ?_ ?_
            · refine wpn_pe ?_
              refine wpn_late ?_
              refine wpn_lit (T := Ty.u8) (l := ([z447] : List UInt8)) (cs := [.int .u8 (IntKind.u8.wrap y441.Reg)]) hO rfl ⟨[.int .u8 (IntKind.u8.wrap y441.Reg)], _, rfl, (u8R hz447), rfl⟩ rfl (by decide) fun _ σ o450 w451 hO => ?_
              obtain ⟨A448, c449, rfl, -⟩ := w451.form
              have hO : Obs _ _ [_, _, _, _] := hO
              refine wpn_nil ?_
              refine wpn_ag ⟨(again_ld rfl (hO.val (i := 2) (off := 1) (agg := false) (n := 1) rfl rfl) rfl), trivial⟩ ?_
              refine wpn_nil ?_
              refine wpn_pb ?_ ?_
              · refine wpn_pe ?_
                refine wpn_late ?_
                refine wpn_apf (T := Ty.u8) u8_flat hO w401 (i := 0) rfl rfl rfl (w451.rd hO (i := 3) rfl) hr (by decide) fun _ σ o454 w455 hO => ?_
                obtain ⟨A452, c453, rfl, -⟩ := w455.form
                have hO : Obs _ _ [_, _, _, _] := hO
                refine wpn_nil ?_
                refine wpn_ag ⟨(again_ld rfl (hO.val (i := 2) (off := 1) (agg := false) (n := 1) rfl rfl) rfl), trivial⟩ ?_
                refine wpn_nil ?_
                refine wpn_pe ?_
                refine wpn_late ?_
                refine wpn_lit (T := (Ty.int .i64)) (l := ([(IntKind.i64.wrap (0 - y441.At))] : List Int)) (cs := [.int .i64 (IntKind.i64.wrap (0 - y441.At))]) hO rfl ⟨[.int .i64 (IntKind.i64.wrap (0 - y441.At))], _, rfl, rfl, rfl⟩ rfl (by decide) fun _ σ o458 w459 hO => ?_
                obtain ⟨A456, c457, rfl, -⟩ := w459.form
                have hO : Obs _ _ [_, _, _, _, _] := hO
                refine wpn_nil ?_
                refine wpn_ag ⟨(again_ld rfl (hO.val (i := 2) (off := 0) (agg := false) (n := 1) rfl rfl) rfl), trivial⟩ ?_
                refine wpn_nil ?_
                refine wpn_pe ?_
                obtain ⟨_, h461, r460, hO⟩ := w455.share hO (i := 0) rfl
                have hL := hL.trans h461
                have r403 := r403.le h461
                have r404 := r404.le h461
                have w451 := w451.le h461
                have w459 := w459.le h461
                have r402 := r402.le h461
                have hO : Obs _ _ [_, _, _, _, _] := hO
                obtain ⟨_, h463, r462, hO⟩ := w459.share hO (i := 4) rfl
                have hL := hL.trans h463
                have r403 := r403.le h463
                have r404 := r404.le h463
                have w451 := w451.le h463
                have r460 := r460.le h463
                have r402 := r402.le h463
                have hO : Obs _ _ [_, _, _, _, _] := hO
                refine wpn_c0 hO (zX r460 r462 h465) rfl fun _ σ _ _ hO h466 h467 => ?_
                have hL := hL.trans h466
                have r403 := r403.le h466
                have r404 := r404.le h466
                have w451 := w451.le h466
                have r460 := r460.le h466
                have r462 := r462.le h466
                have r402 := r402.le h466
                obtain ⟨v468, o471, rfl, rfl, w472⟩ := h467
                obtain ⟨A469, c470, rfl, -⟩ := w472.form
                have hO : Obs _ _ [_, _, _, _, _, _] := hO
                refine wpn_nil ?_
                refine wpn_pq ?_
                refine wpn_qa hO [] [(6, .slice A469 c464.length c470), (9, .pointer (some ⟨b338, 0, none⟩)), (20, .slice A1 p1.length c1), (21, .int .i64 (p1.length : Int)), (22, .int .i64 x181), (44, .slice A336 y329.Regs.length c337), (45, .int .i64 (y329.Regs.length : Int)), (46, .int .i64 x405)] (ar (ar (ar (ar (ar (ar (ar (ar trivial)))))))) fun j => ?_
                refine wpn_pd ?_
                refine wpn_end ?_
                refine inb_i ?_
                refine thn_i ?_
                refine wpn_rlast ?_
                refine wpn_qa hO [] [(6, .slice A469 c464.length c470), (9, .pointer (some ⟨b338, 0, none⟩)), (20, .slice A1 p1.length c1), (21, .int .i64 (p1.length : Int)), (22, .int .i64 x181), (44, .slice A336 y329.Regs.length c337), (45, .int .i64 (y329.Regs.length : Int)), (46, .int .i64 (IntKind.i64.wrap (x405 + 1)))] (ar (ar (ar (ar (ar (ar (ar (ar trivial)))))))) fun j => ?_
                refine wpn_end ?_
                refine thn_i ?_
                have hO := hO.sel [5, 1] (by decide)
                exact ⟨n439, Nat.lt_succ_self _, A469, c470, o471, c464, (IntKind.i64.wrap (x405 + 1)), _, ar (ar (ar (ar (ar (ar (ar (ar trivial))))))), hO, hL, w472, r402, r403, r404, hF⟩
              · refine wpn_pe ?_
                refine wpn_late ?_
                refine wpn_lit (T := (Ty.int .i64)) (l := ([(IntKind.i64.wrap (0 - y441.At))] : List Int)) (cs := [.int .i64 (IntKind.i64.wrap (0 - y441.At))]) hO rfl ⟨[.int .i64 (IntKind.i64.wrap (0 - y441.At))], _, rfl, rfl, rfl⟩ rfl (by decide) fun _ σ o458 w459 hO => ?_
                obtain ⟨A456, c457, rfl, -⟩ := w459.form
                have hO : Obs _ _ [_, _, _, _, _] := hO
                refine wpn_nil ?_
                refine wpn_ag ⟨(again_ld rfl (hO.val (i := 2) (off := 0) (agg := false) (n := 1) rfl rfl) rfl), trivial⟩ ?_
                refine wpn_nil ?_
                refine wpn_pe ?_
                refine wpn_late ?_
                refine wpn_apf (T := Ty.u8) u8_flat hO w401 (i := 0) rfl rfl rfl (w451.rd hO (i := 3) rfl) hr (by decide) fun _ σ o454 w455 hO => ?_
                obtain ⟨A452, c453, rfl, -⟩ := w455.form
                have hO : Obs _ _ [_, _, _, _, _] := hO
                refine wpn_nil ?_
                refine wpn_ag ⟨(again_ld rfl (hO.val (i := 2) (off := 1) (agg := false) (n := 1) rfl rfl) rfl), trivial⟩ ?_
                refine wpn_nil ?_
                refine wpn_pe ?_
                obtain ⟨_, h461, r460, hO⟩ := w455.share hO (i := 0) rfl
                have hL := hL.trans h461
                have r403 := r403.le h461
                have r404 := r404.le h461
                have w451 := w451.le h461
                have w459 := w459.le h461
                have r402 := r402.le h461
                have hO : Obs _ _ [_, _, _, _, _] := hO
                obtain ⟨_, h463, r462, hO⟩ := w459.share hO (i := 4) rfl
                have hL := hL.trans h463
                have r403 := r403.le h463
                have r404 := r404.le h463
                have w451 := w451.le h463
                have r460 := r460.le h463
                have r402 := r402.le h463
                have hO : Obs _ _ [_, _, _, _, _] := hO
                refine wpn_c0 hO (zX r460 r462 h465) rfl fun _ σ _ _ hO h466 h467 => ?_
                have hL := hL.trans h466
                have r403 := r403.le h466
                have r404 := r404.le h466
                have w451 := w451.le h466
                have r460 := r460.le h466
                have r462 := r462.le h466
                have r402 := r402.le h466
                obtain ⟨v468, o471, rfl, rfl, w472⟩ := h467
                obtain ⟨A469, c470, rfl, -⟩ := w472.form
                have hO : Obs _ _ [_, _, _, _, _, _] := hO
                refine wpn_nil ?_
                refine wpn_pq ?_
                refine wpn_qa hO [] [(6, .slice A469 c464.length c470), (9, .pointer (some ⟨b338, 0, none⟩)), (20, .slice A1 p1.length c1), (21, .int .i64 (p1.length : Int)), (22, .int .i64 x181), (44, .slice A336 y329.Regs.length c337), (45, .int .i64 (y329.Regs.length : Int)), (46, .int .i64 x405)] (ar (ar (ar (ar (ar (ar (ar (ar trivial)))))))) fun j => ?_
                refine wpn_pd ?_
                refine wpn_end ?_
                refine inb_i ?_
                refine thn_i ?_
                refine wpn_rlast ?_
                refine wpn_qa hO [] [(6, .slice A469 c464.length c470), (9, .pointer (some ⟨b338, 0, none⟩)), (20, .slice A1 p1.length c1), (21, .int .i64 (p1.length : Int)), (22, .int .i64 x181), (44, .slice A336 y329.Regs.length c337), (45, .int .i64 (y329.Regs.length : Int)), (46, .int .i64 (IntKind.i64.wrap (x405 + 1)))] (ar (ar (ar (ar (ar (ar (ar (ar trivial)))))))) fun j => ?_
                refine wpn_end ?_
                refine thn_i ?_
                have hO := hO.sel [5, 1] (by decide)
                exact ⟨n439, Nat.lt_succ_self _, A469, c470, o471, c464, (IntKind.i64.wrap (x405 + 1)), _, ar (ar (ar (ar (ar (ar (ar (ar trivial))))))), hO, hL, w472, r402, r403, r404, hF⟩
            · refine wpn_pe ?_
              refine wpn_late ?_
              refine wpn_lit (T := (Ty.int .i64)) (l := ([(IntKind.i64.wrap (0 - y441.At))] : List Int)) (cs := [.int .i64 (IntKind.i64.wrap (0 - y441.At))]) hO rfl ⟨[.int .i64 (IntKind.i64.wrap (0 - y441.At))], _, rfl, rfl, rfl⟩ rfl (by decide) fun _ σ o458 w459 hO => ?_
              obtain ⟨A456, c457, rfl, -⟩ := w459.form
              have hO : Obs _ _ [_, _, _, _] := hO
              refine wpn_nil ?_
              refine wpn_ag ⟨(again_ld rfl (hO.val (i := 2) (off := 0) (agg := false) (n := 1) rfl rfl) rfl), trivial⟩ ?_
              refine wpn_nil ?_
              refine wpn_pe ?_
              refine wpn_late ?_
              refine wpn_lit (T := Ty.u8) (l := ([z447] : List UInt8)) (cs := [.int .u8 (IntKind.u8.wrap y441.Reg)]) hO rfl ⟨[.int .u8 (IntKind.u8.wrap y441.Reg)], _, rfl, (u8R hz447), rfl⟩ rfl (by decide) fun _ σ o450 w451 hO => ?_
              obtain ⟨A448, c449, rfl, -⟩ := w451.form
              have hO : Obs _ _ [_, _, _, _, _] := hO
              refine wpn_nil ?_
              refine wpn_ag ⟨(again_ld rfl (hO.val (i := 2) (off := 1) (agg := false) (n := 1) rfl rfl) rfl), trivial⟩ ?_
              refine wpn_nil ?_
              refine wpn_pe ?_
              refine wpn_late ?_
              refine wpn_apf (T := Ty.u8) u8_flat hO w401 (i := 0) rfl rfl rfl (w451.rd hO (i := 4) rfl) hr (by decide) fun _ σ o454 w455 hO => ?_
              obtain ⟨A452, c453, rfl, -⟩ := w455.form
              have hO : Obs _ _ [_, _, _, _, _] := hO
              refine wpn_nil ?_
              refine wpn_ag ⟨(again_ld rfl (hO.val (i := 2) (off := 1) (agg := false) (n := 1) rfl rfl) rfl), trivial⟩ ?_
              refine wpn_nil ?_
              refine wpn_pe ?_
              obtain ⟨_, h461, r460, hO⟩ := w455.share hO (i := 0) rfl
              have hL := hL.trans h461
              have r403 := r403.le h461
              have r404 := r404.le h461
              have w451 := w451.le h461
              have w459 := w459.le h461
              have r402 := r402.le h461
              have hO : Obs _ _ [_, _, _, _, _] := hO
              obtain ⟨_, h463, r462, hO⟩ := w459.share hO (i := 3) rfl
              have hL := hL.trans h463
              have r403 := r403.le h463
              have r404 := r404.le h463
              have w451 := w451.le h463
              have r460 := r460.le h463
              have r402 := r402.le h463
              have hO : Obs _ _ [_, _, _, _, _] := hO
              refine wpn_c0 hO (zX r460 r462 h465) rfl fun _ σ _ _ hO h466 h467 => ?_
              have hL := hL.trans h466
              have r403 := r403.le h466
              have r404 := r404.le h466
              have w451 := w451.le h466
              have r460 := r460.le h466
              have r462 := r462.le h466
              have r402 := r402.le h466
              obtain ⟨v468, o471, rfl, rfl, w472⟩ := h467
              obtain ⟨A469, c470, rfl, -⟩ := w472.form
              have hO : Obs _ _ [_, _, _, _, _, _] := hO
              refine wpn_nil ?_
              refine wpn_pq ?_
              refine wpn_qa hO [] [(6, .slice A469 c464.length c470), (9, .pointer (some ⟨b338, 0, none⟩)), (20, .slice A1 p1.length c1), (21, .int .i64 (p1.length : Int)), (22, .int .i64 x181), (44, .slice A336 y329.Regs.length c337), (45, .int .i64 (y329.Regs.length : Int)), (46, .int .i64 x405)] (ar (ar (ar (ar (ar (ar (ar (ar trivial)))))))) fun j => ?_
              refine wpn_pd ?_
              refine wpn_end ?_
              refine inb_i ?_
              refine thn_i ?_
              refine wpn_rlast ?_
              refine wpn_qa hO [] [(6, .slice A469 c464.length c470), (9, .pointer (some ⟨b338, 0, none⟩)), (20, .slice A1 p1.length c1), (21, .int .i64 (p1.length : Int)), (22, .int .i64 x181), (44, .slice A336 y329.Regs.length c337), (45, .int .i64 (y329.Regs.length : Int)), (46, .int .i64 (IntKind.i64.wrap (x405 + 1)))] (ar (ar (ar (ar (ar (ar (ar (ar trivial)))))))) fun j => ?_
              refine wpn_end ?_
              refine thn_i ?_
              have hO := hO.sel [5, 1] (by decide)
              exact ⟨n439, Nat.lt_succ_self _, A469, c470, o471, c464, (IntKind.i64.wrap (x405 + 1)), _, ar (ar (ar (ar (ar (ar (ar (ar trivial))))))), hO, hL, w472, r402, r403, r404, hF⟩
          · refine wpn_cF (congrArg Value.bool hb440) ?_
            refine wpn_ex ?_
            refine thn_x ?_
            refine inb_x ?_
            refine thn_i ?_
            refine wpn_rlast ?_
            refine wpn_qa hO [1] [(6, .slice A397 x400.length c398), (7, .int .i64 y329.To), (20, .slice A1 p1.length c1), (21, .int .i64 (p1.length : Int)), (22, .int .i64 x181)] (And.intro (And.intro rfl rfl) (ar (ar (ar (ar (ar trivial)))))) fun j => ?_
            refine wpn_end ?_
            refine inb_i ?_
            refine thn_i ?_
            refine wpn_rlast ?_
            refine wpn_qa hO [] [(6, .slice A397 x400.length c398), (7, .int .i64 y329.To), (20, .slice A1 p1.length c1), (21, .int .i64 (p1.length : Int)), (22, .int .i64 (IntKind.i64.wrap (x181 + 1)))] (ar (ar (ar (ar (ar trivial))))) fun j => ?_
            refine wpn_end ?_
            refine thn_i ?_
            have hO := hO.sel [0] (by decide)
            exact ⟨n327, Nat.lt_succ_self _, A397, c398, o399, x400, y329.To, (IntKind.i64.wrap (x181 + 1)), _, ar (ar (ar (ar (ar trivial)))), hO, hL, w401, r403, hF⟩
      · refine wpn_cF (congrArg Value.bool hb328) ?_
        refine wpn_ex ?_
        refine thn_x ?_
        refine inb_x ?_
        refine thn_i ?_
        refine wpn_qa hO [] [(4, .slice A174 x177.length c175), (5, .int .i64 0)] (ar (ar trivial)) fun j => ?_
        refine wpn_r1 ?_
        injection hF with hF
        subst hF
        exact hQ _ _ _ _ _ rfl hO hL ⟨_, _, rfl, rfl, w178⟩
theorem zbW {τ : Hp} {p0 : za} {v0_3 : Value} {p1 : za} {v1_3 : Value} (r0_3 : RdT zf τ v0_3 p0.Regs) (r1_3 : RdT zf τ v1_3 p1.Regs) {rr : Bool} (hF : zU p0 p1 = some rr) :
    Ctr Try.prog 27 #[.agg #[.int .i64 p0.From, .int .i64 p0.To, .int .i64 p0.Up, v0_3], .agg #[.int .i64 p1.From, .int .i64 p1.To, .int .i64 p1.Up, v1_3]] τ [] (fun v τ' vs' => v = .bool rr ∧ vs' = []) := by
  obtain ⟨A0_3, c0_3, rfl, -⟩ := r0_3.form
  obtain ⟨A1_3, c1_3, rfl, -⟩ := r1_3.form
  refine ctr_of (args := [.agg #[.int .i64 p0.From, .int .i64 p0.To, .int .i64 p0.Up, (.slice A0_3 p0.Regs.length c0_3)], .agg #[.int .i64 p1.From, .int .i64 p1.To, .int .i64 p1.Up, (.slice A1_3 p1.Regs.length c1_3)]]) hm Try.func27 s27 rfl fun w0 σ hO Q hQ => ?_
  unfold zU at hF
  have hL := Hp.le.refl τ
  show wpn _ _ a27.body _ _ _
  unfold a27
  dsimp only
  refine wpn_bx (n := 4) hO rfl rfl fun b3 σ hO => ?_
  have hO : Obs _ _ [_] := hO
  refine wpn_bx (n := 4) hO rfl rfl fun b4 σ hO => ?_
  have hO : Obs _ _ [_, _] := hO
  refine wpn_qa hO [] [(2, .pointer (some ⟨b3, 0, none⟩)), (3, .pointer (some ⟨b4, 0, none⟩))] (ar (ar trivial)) fun j => ?_
  refine wpn_assoc ?_
  refine wpn_qa hO [0, 1, 0, 1, 0, 1, 0, 1] [(2, .pointer (some ⟨b3, 0, none⟩)), (3, .pointer (some ⟨b4, 0, none⟩)), (33, .bool ((((p0.From != p1.From) || (p0.To != p1.To)) || (p0.Up != p1.Up)) || ((p0.Regs.length : Int) != (p1.Regs.length : Int))))] (And.intro (And.intro rfl rfl) (And.intro (And.intro rfl rfl) (And.intro (And.intro rfl rfl) (And.intro (And.intro rfl rfl) (And.intro (And.intro rfl rfl) (fun _ => And.intro (And.intro rfl rfl) (And.intro (And.intro rfl rfl) (And.intro (And.intro rfl rfl) (fun _ => And.intro (And.intro rfl rfl) (And.intro (And.intro rfl rfl) (And.intro (And.intro rfl rfl) (fun _ => ar (ar (ar trivial)))))))))))))) fun j => ?_
  rcases ite_some hF with ⟨hb5, hF⟩ | ⟨hb5, hF⟩
  · refine wpn_cT (congrArg Value.bool hb5) ?_
    refine wpn_assoc ?_
    refine wpn_qa hO [] [(4, .bool false)] (ar trivial) fun j => ?_
    refine wpn_rt ?_
    injection hF with hF
    subst hF
    have hO := hO.sel [] (by decide)
    exact hQ _ _ _ _ _ rfl hO hL ⟨rfl, rfl⟩
  · refine wpn_cF (congrArg Value.bool hb5) ?_
    refine wpn_sk ?_
    refine wpn_assoc ?_
    refine wpn_qa hO [] [(2, .pointer (some ⟨b3, 0, none⟩)), (3, .pointer (some ⟨b4, 0, none⟩)), (5, .int .i64 0)] (ar (ar (ar trivial))) fun j => ?_
    refine wpn_bl ?_
    refine wpn_lp (fun (n : Nat) e' σ' => ∃ (x22 : Int) (τ' : Hp), agr [(2, .pointer (some ⟨b3, 0, none⟩)), (3, .pointer (some ⟨b4, 0, none⟩)), (5, .int .i64 x22)] e' ∧ Obs τ' σ' [some (b3, ⟨[.int .i64 p0.From, .int .i64 p0.To, .int .i64 p0.Up, .slice A0_3 p0.Regs.length c0_3], 48, 4, true⟩), some (b4, ⟨[.int .i64 p1.From, .int .i64 p1.To, .int .i64 p1.Up, .slice A1_3 p1.Regs.length c1_3], 48, 4, true⟩)] ∧ Hp.le τ τ' ∧ RdT zf τ' (.slice A0_3 p0.Regs.length c0_3) p0.Regs ∧ RdT zf τ' (.slice A1_3 p1.Regs.length c1_3) p1.Regs ∧ zbe p0 p1 n x22 = some rr) big ⟨0, _, ar (ar (ar trivial)), hO, hL, r0_3, r1_3, hF⟩ ?_
    clear hF hO hL
    rintro n35 e σ ⟨x22, _, hA, hO, hL, r20, r21, hF⟩
    rw [← sets_agr _ _ hA]
    cases n35 with
    | zero => exact nomatch (show none = some rr from hF)
    | succ n35 =>
      replace hF : z4 (zbe p0 p1 n35) p0 p1 x22 = some rr := hF
      unfold z4 at hF
      refine wpn_assoc ?_
      refine wpn_qa hO [0] [(2, .pointer (some ⟨b3, 0, none⟩)), (3, .pointer (some ⟨b4, 0, none⟩)), (5, .int .i64 x22), (38, .bool (decide (x22 < (p0.Regs.length : Int))))] (And.intro (And.intro rfl rfl) (ar (ar (ar (ar trivial))))) fun j => ?_
      rcases ite_some hF with ⟨hb36, hF⟩ | ⟨hb36, hF⟩
      · refine wpn_cT (congrArg Value.bool hb36) ?_
        refine wpn_sk ?_
        refine wpn_bl ?_
        refine wpn_p2r ?_
        refine wpn_q hO 3 [0] [(2, .pointer (some ⟨b3, 0, none⟩)), (3, .pointer (some ⟨b4, 0, none⟩)), (5, .int .i64 x22), (42, .slice A0_3 p0.Regs.length c0_3), (43, .int .i64 x22)] (And.intro (And.intro rfl rfl) (ar (ar (ar (ar (ar trivial)))))) fun j => ?_
        obtain ⟨y37, g38, hF⟩ := bind_some hF
        refine wpn_idx (T := zf) r20 hO.base rfl rfl g38 (by decide) fun a39 _ k40 m41 => ?_
        obtain rfl : _ = ([.int .i64 y37.Reg, .int .i64 y37.At] : List Value) := k40
        refine wpn_ld rfl ((m41.le hO.base).all rfl) ?_
        refine wpn_q hO 3 [1] [(2, .pointer (some ⟨b3, 0, none⟩)), (3, .pointer (some ⟨b4, 0, none⟩)), (5, .int .i64 x22), (45, .agg #[(.int .i64 y37.Reg), (.int .i64 y37.At)]), (47, .slice A1_3 p1.Regs.length c1_3), (48, .int .i64 x22)] (And.intro (And.intro rfl rfl) (ar (ar (ar (ar (ar (ar trivial))))))) fun j => ?_
        obtain ⟨y42, g43, hF⟩ := bind_some hF
        refine wpn_idx (T := zf) r21 hO.base rfl rfl g43 (by decide) fun a44 _ k45 m46 => ?_
        obtain rfl : _ = ([.int .i64 y42.Reg, .int .i64 y42.At] : List Value) := k45
        refine wpn_ld rfl ((m46.le hO.base).all rfl) ?_
        refine wpn_qa hO [] [(2, .pointer (some ⟨b3, 0, none⟩)), (3, .pointer (some ⟨b4, 0, none⟩)), (5, .int .i64 x22), (51, .bool (!(( y37.Reg == y42.Reg) && (( y37.At == y42.At) && true))))] (ar (ar (ar (ar trivial)))) fun j => ?_
        refine wpn_clast ?_
        rcases ite_some hF with ⟨hb47, hF⟩ | ⟨hb47, hF⟩
        · refine wpn_cT (congrArg Value.bool hb47) ?_
          refine wpn_assoc ?_
          refine wpn_qa hO [] [(4, .bool false)] (ar trivial) fun j => ?_
          refine wpn_rt ?_
          refine inb_r1 ?_
          refine thn_r1 ?_
          refine thn_r1 ?_
          refine inb_r1 ?_
          refine thn_r1 ?_
          injection hF with hF
          subst hF
          have hO := hO.sel [] (by decide)
          exact hQ _ _ _ _ _ rfl hO hL ⟨rfl, rfl⟩
        · refine wpn_cF (congrArg Value.bool hb47) ?_
          refine wpn_sk ?_
          refine wpn_end ?_
          refine inb_i ?_
          refine thn_i ?_
          refine wpn_rlast ?_
          refine wpn_qa hO [] [(2, .pointer (some ⟨b3, 0, none⟩)), (3, .pointer (some ⟨b4, 0, none⟩)), (5, .int .i64 (IntKind.i64.wrap (x22 + 1)))] (ar (ar (ar trivial))) fun j => ?_
          refine wpn_end ?_
          refine thn_i ?_
          exact ⟨n35, Nat.lt_succ_self _, (IntKind.i64.wrap (x22 + 1)), _, ar (ar (ar trivial)), hO, hL, r20, r21, hF⟩
      · refine wpn_cF (congrArg Value.bool hb36) ?_
        refine wpn_ex ?_
        refine thn_x ?_
        refine inb_x ?_
        refine thn_i ?_
        refine wpn_qa hO [] [(4, .bool true)] (ar trivial) fun j => ?_
        refine wpn_r1 ?_
        injection hF with hF
        subst hF
        have hO := hO.sel [] (by decide)
        exact hQ _ _ _ _ _ rfl hO hL ⟨rfl, rfl⟩
theorem zcj {τ : Hp} {v0 : Value} {p0 : (List za)} {v1 : Value} {p1 : (List za)} (r0 : RdT zd τ v0 p0) (r1 : RdT zd τ v1 p1) {rr : Bool} (hF : zu p0 p1 = some rr) :
    Ctr Try.prog 15 #[v0, v1] τ [] (fun v τ' vs' => v = .bool rr ∧ vs' = []) := by
  obtain ⟨A0, c0, rfl, -⟩ := r0.form
  obtain ⟨A1, c1, rfl, -⟩ := r1.form
  refine ctr_of (args := [.slice A0 p0.length c0, .slice A1 p1.length c1]) hm Try.func15 s15 rfl fun w0 σ hO Q hQ => ?_
  unfold zu at hF
  have hL := Hp.le.refl τ
  show wpn _ _ a15.body _ _ _
  unfold a15
  dsimp only
  refine wpn_qa hO [] [(0, .slice A0 p0.length c0), (1, .slice A1 p1.length c1)] (ar (ar trivial)) fun j => ?_
  refine wpn_assoc ?_
  refine wpn_qa hO [] [(0, .slice A0 p0.length c0), (1, .slice A1 p1.length c1), (10, .bool ((p0.length : Int) != (p1.length : Int)))] (ar (ar (ar trivial))) fun j => ?_
  rcases ite_some hF with ⟨hb3, hF⟩ | ⟨hb3, hF⟩
  · refine wpn_cT (congrArg Value.bool hb3) ?_
    refine wpn_assoc ?_
    refine wpn_qa hO [] [(4, .bool false)] (ar trivial) fun j => ?_
    refine wpn_rt ?_
    injection hF with hF
    subst hF
    exact hQ _ _ _ _ _ rfl hO hL ⟨rfl, rfl⟩
  · refine wpn_cF (congrArg Value.bool hb3) ?_
    refine wpn_sk ?_
    refine wpn_assoc ?_
    refine wpn_qa hO [] [(0, .slice A0 p0.length c0), (1, .slice A1 p1.length c1), (5, .int .i64 0)] (ar (ar (ar trivial))) fun j => ?_
    refine wpn_bl ?_
    refine wpn_lp (fun (n : Nat) e' σ' => ∃ (x32 : Int) (τ' : Hp), agr [(0, .slice A0 p0.length c0), (1, .slice A1 p1.length c1), (5, .int .i64 x32)] e' ∧ Obs τ' σ' [] ∧ Hp.le τ τ' ∧ RdT zd τ' (.slice A0 p0.length c0) p0 ∧ RdT zd τ' (.slice A1 p1.length c1) p1 ∧ zO p0 p1 n x32 = some rr) big ⟨0, _, ar (ar (ar trivial)), hO, hL, r0, r1, hF⟩ ?_
    clear hF hO hL
    rintro n57 e σ ⟨x32, _, hA, hO, hL, r30, r31, hF⟩
    rw [← sets_agr _ _ hA]
    cases n57 with
    | zero => exact nomatch (show none = some rr from hF)
    | succ n57 =>
      replace hF : zV (zO p0 p1 n57) p0 p1 x32 = some rr := hF
      unfold zV at hF
      refine wpn_assoc ?_
      refine wpn_qa hO [] [(0, .slice A0 p0.length c0), (1, .slice A1 p1.length c1), (5, .int .i64 x32), (14, .bool (decide (x32 < (p0.length : Int))))] (ar (ar (ar (ar trivial)))) fun j => ?_
      rcases ite_some hF with ⟨hb58, hF⟩ | ⟨hb58, hF⟩
      · refine wpn_cT (congrArg Value.bool hb58) ?_
        refine wpn_sk ?_
        refine wpn_bl ?_
        refine wpn_p2r ?_
        refine wpn_q hO 2 [] [(0, .slice A0 p0.length c0), (1, .slice A1 p1.length c1), (5, .int .i64 x32), (17, .slice A0 p0.length c0), (18, .int .i64 x32)] (ar (ar (ar (ar (ar trivial))))) fun j => ?_
        obtain ⟨y59, g60, hF⟩ := bind_some hF
        refine wpn_idx (T := zd) r30 hO.base rfl rfl g60 (by decide) fun a61 _ k62 m63 => ?_
        obtain ⟨v64, rfl, r65⟩ := k62
        obtain ⟨A66, c67, rfl, -⟩ := r65.form
        refine wpn_ld rfl ((m63.le hO.base).all rfl) ?_
        refine wpn_q hO 2 [] [(0, .slice A0 p0.length c0), (1, .slice A1 p1.length c1), (5, .int .i64 x32), (20, .agg #[(.int .i64 y59.From), (.int .i64 y59.To), (.int .i64 y59.Up), (.slice A66 y59.Regs.length c67)]), (21, .slice A1 p1.length c1), (22, .int .i64 x32)] (ar (ar (ar (ar (ar (ar trivial)))))) fun j => ?_
        obtain ⟨y68, g69, hF⟩ := bind_some hF
        refine wpn_idx (T := zd) r31 hO.base rfl rfl g69 (by decide) fun a70 _ k71 m72 => ?_
        obtain ⟨v73, rfl, r74⟩ := k71
        obtain ⟨A75, c76, rfl, -⟩ := r74.form
        refine wpn_ld rfl ((m72.le hO.base).all rfl) ?_
        obtain ⟨c77, h78, hF⟩ := bind_some hF
        refine wpn_c0 hO (zbW r65 r74 h78) rfl fun _ σ _ _ hO h79 h80 => ?_
        have hL := hL.trans h79
        have r30 := r30.le h79
        have r31 := r31.le h79
        have r65 := r65.le h79
        have m72 := m72.le h79
        have r74 := r74.le h79
        obtain ⟨rfl, rfl⟩ := h80
        have hO : Obs _ _ [] := hO
        refine wpn_qa hO [] [(0, .slice A0 p0.length c0), (1, .slice A1 p1.length c1), (5, .int .i64 x32), (26, .bool (!c77))] (ar (ar (ar (ar trivial)))) fun j => ?_
        refine wpn_clast ?_
        rcases ite_some hF with ⟨hb81, hF⟩ | ⟨hb81, hF⟩
        · refine wpn_cT (congrArg Value.bool hb81) ?_
          refine wpn_assoc ?_
          refine wpn_qa hO [] [(4, .bool false)] (ar trivial) fun j => ?_
          refine wpn_rt ?_
          refine inb_r1 ?_
          refine thn_r1 ?_
          refine thn_r1 ?_
          refine inb_r1 ?_
          refine thn_r1 ?_
          injection hF with hF
          subst hF
          exact hQ _ _ _ _ _ rfl hO hL ⟨rfl, rfl⟩
        · refine wpn_cF (congrArg Value.bool hb81) ?_
          refine wpn_sk ?_
          refine wpn_end ?_
          refine inb_i ?_
          refine thn_i ?_
          refine wpn_rlast ?_
          refine wpn_qa hO [] [(0, .slice A0 p0.length c0), (1, .slice A1 p1.length c1), (5, .int .i64 (IntKind.i64.wrap (x32 + 1)))] (ar (ar (ar trivial))) fun j => ?_
          refine wpn_end ?_
          refine thn_i ?_
          exact ⟨n57, Nat.lt_succ_self _, (IntKind.i64.wrap (x32 + 1)), _, ar (ar (ar trivial)), hO, hL, r30, r31, hF⟩
      · refine wpn_cF (congrArg Value.bool hb58) ?_
        refine wpn_ex ?_
        refine thn_x ?_
        refine inb_x ?_
        refine thn_i ?_
        refine wpn_qa hO [] [(4, .bool true)] (ar trivial) fun j => ?_
        refine wpn_r1 ?_
        injection hF with hF
        subst hF
        exact hQ _ _ _ _ _ rfl hO hL ⟨rfl, rfl⟩
theorem zbX {τ : Hp} {v0 : Value} {p0 : (List UInt8)} (r0 : RdT Ty.u8 τ v0 p0) {rr : Int × Int} (hF : zbu p0 = some rr) :
    Ctr Try.prog 51 #[v0] τ [] (fun v τ' vs' => v = .tuple #[.int .u64 rr.1, .int .i64 rr.2] ∧ vs' = []) := by
  obtain ⟨A0, c0, rfl, -⟩ := r0.form
  refine ctr_of (args := [.slice A0 p0.length c0]) hm Try.func51 s51 rfl fun w0 σ hO Q hQ => ?_
  unfold zbu at hF
  have hL := Hp.le.refl τ
  show wpn _ _ a51.body _ _ _
  unfold a51
  dsimp only
  refine wpn_qa hO [] [(0, .slice A0 p0.length c0), (2, .int .u64 0)] (ar (ar trivial)) fun j => ?_
  refine wpn_assoc ?_
  refine wpn_qa hO [] [(0, .slice A0 p0.length c0), (2, .int .u64 0), (7, .int .i64 (minI (p0.length : Int) 10)), (8, .int .i64 0)] (ar (ar (ar (ar trivial)))) fun j => ?_
  refine wpn_bl ?_
  refine wpn_lp (fun (n : Nat) e' σ' => ∃ (x18 : Int) (x19 : Int) (τ' : Hp), agr [(0, .slice A0 p0.length c0), (2, .int .u64 x18), (7, .int .i64 (minI (p0.length : Int) 10)), (8, .int .i64 x19)] e' ∧ Obs τ' σ' [] ∧ Hp.le τ τ' ∧ RdT Ty.u8 τ' (.slice A0 p0.length c0) p0 ∧ z7 p0 n x18 x19 = some rr) big ⟨0, 0, _, ar (ar (ar (ar trivial))), hO, hL, r0, hF⟩ ?_
  clear hF hO hL
  rintro n34 e σ ⟨x18, x19, _, hA, hO, hL, r17, hF⟩
  rw [← sets_agr _ _ hA]
  cases n34 with
  | zero => exact nomatch (show none = some rr from hF)
  | succ n34 =>
    replace hF : zI (z7 p0 n34) p0 x18 x19 = some rr := hF
    unfold zI at hF
    refine wpn_qa hO [] [(0, .slice A0 p0.length c0), (2, .int .u64 x18), (7, .int .i64 (minI (p0.length : Int) 10)), (8, .int .i64 x19), (9, .bool (decide (x19 < (minI (p0.length : Int) 10))))] (ar (ar (ar (ar (ar trivial))))) fun j => ?_
    rcases ite_some hF with ⟨hb35, hF⟩ | ⟨hb35, hF⟩
    · refine wpn_cT (congrArg Value.bool hb35) ?_
      refine wpn_sk ?_
      refine wpn_bl ?_
      refine wpn_qa hO [] [(0, .slice A0 p0.length c0), (2, .int .u64 x18), (4, .int .i64 x19), (7, .int .i64 (minI (p0.length : Int) 10)), (8, .int .i64 x19)] (ar (ar (ar (ar (ar trivial))))) fun j => ?_
      refine wpn_q hO 3 [] [(0, .slice A0 p0.length c0), (4, .int .i64 x19), (7, .int .i64 (minI (p0.length : Int) 10)), (8, .int .i64 x19), (11, .int .u64 x18), (12, .slice A0 p0.length c0), (13, .int .i64 x19)] (ar (ar (ar (ar (ar (ar (ar trivial))))))) fun j => ?_
      obtain ⟨y36, g37, hF⟩ := bind_some hF
      refine wpn_idx (T := Ty.u8) r17 hO.base rfl rfl g37 (by decide) fun a38 _ k39 m40 => ?_
      obtain rfl : _ = ([.int .u8 y36.toNat] : List Value) := k39
      refine wpn_ld rfl (m40.le hO.base).fst ?_
      refine wpn_q hO 4 [] [(0, .slice A0 p0.length c0), (4, .int .i64 x19), (7, .int .i64 (minI (p0.length : Int) 10)), (8, .int .i64 x19), (11, .int .u64 x18), (17, .int .u64 (IntKind.u64.wrap (andI .u8 (y36.toNat : Int) 127))), (19, .int .i64 (IntKind.i64.wrap (7 * x19)))] (ar (ar (ar (ar (ar (ar (ar trivial))))))) fun j => ?_
      obtain ⟨y41, g42, hF⟩ := bind_some hF
      refine wpn_bn (shlO_bin g42) ?_
      refine wpn_qa hO [] [(0, .slice A0 p0.length c0), (2, .int .u64 (orI .u64 x18 y41)), (4, .int .i64 x19), (7, .int .i64 (minI (p0.length : Int) 10)), (8, .int .i64 x19)] (ar (ar (ar (ar (ar trivial))))) fun j => ?_
      refine wpn_q hO 2 [] [(0, .slice A0 p0.length c0), (2, .int .u64 (orI .u64 x18 y41)), (4, .int .i64 x19), (7, .int .i64 (minI (p0.length : Int) 10)), (8, .int .i64 x19), (22, .slice A0 p0.length c0), (23, .int .i64 x19)] (ar (ar (ar (ar (ar (ar (ar trivial))))))) fun j => ?_
      obtain ⟨y43, g44, hF⟩ := bind_some hF
      refine wpn_idx (T := Ty.u8) r17 hO.base rfl rfl g44 (by decide) fun a45 _ k46 m47 => ?_
      obtain rfl : _ = ([.int .u8 y43.toNat] : List Value) := k46
      refine wpn_ld rfl (m47.le hO.base).fst ?_
      refine wpn_qa hO [] [(0, .slice A0 p0.length c0), (2, .int .u64 (orI .u64 x18 y41)), (4, .int .i64 x19), (7, .int .i64 (minI (p0.length : Int) 10)), (8, .int .i64 x19), (26, .bool (decide ((y43.toNat : Int) < 128)))] (ar (ar (ar (ar (ar (ar trivial)))))) fun j => ?_
      refine wpn_clast ?_
      rcases ite_some hF with ⟨hb48, hF⟩ | ⟨hb48, hF⟩
      · refine wpn_cT (congrArg Value.bool hb48) ?_
        refine wpn_assoc ?_
        refine wpn_qa hO [] [(2, .int .u64 (orI .u64 x18 y41)), (3, .int .i64 (IntKind.i64.wrap (x19 + 1)))] (ar (ar trivial)) fun j => ?_
        refine wpn_rt ?_
        refine inb_r1 ?_
        refine thn_r1 ?_
        refine thn_r1 ?_
        refine inb_r1 ?_
        refine thn_r1 ?_
        injection hF with hF
        subst hF
        exact hQ _ _ _ _ _ rfl hO hL ⟨rfl, rfl⟩
      · refine wpn_cF (congrArg Value.bool hb48) ?_
        refine wpn_sk ?_
        refine wpn_end ?_
        refine inb_i ?_
        refine thn_i ?_
        refine wpn_rlast ?_
        refine wpn_qa hO [] [(0, .slice A0 p0.length c0), (2, .int .u64 (orI .u64 x18 y41)), (7, .int .i64 (minI (p0.length : Int) 10)), (8, .int .i64 (IntKind.i64.wrap (x19 + 1)))] (ar (ar (ar (ar trivial)))) fun j => ?_
        refine wpn_end ?_
        refine thn_i ?_
        exact ⟨n34, Nat.lt_succ_self _, (orI .u64 x18 y41), (IntKind.i64.wrap (x19 + 1)), _, ar (ar (ar (ar trivial))), hO, hL, r17, hF⟩
    · refine wpn_cF (congrArg Value.bool hb35) ?_
      refine wpn_ex ?_
      refine thn_x ?_
      refine inb_x ?_
      refine thn_i ?_
      refine wpn_qa hO [] [(2, .int .u64 0), (3, .int .i64 0)] (ar (ar trivial)) fun j => ?_
      refine wpn_r1 ?_
      injection hF with hF
      subst hF
      exact hQ _ _ _ _ _ rfl hO hL ⟨rfl, rfl⟩
theorem zcf {τ : Hp} {v0 : Value} {p0 : (List UInt8)} {v1 : Value} {p1 : (List UInt8)} (r0 : RdT Ty.u8 τ v0 p0) (r1 : RdT Ty.u8 τ v1 p1) {rr : Bool} (hF : zG p0 p1 = some rr) :
    Ctr Try.prog 52 #[v0, v1] τ [] (fun v τ' vs' => v = .bool rr ∧ vs' = []) := by
  obtain ⟨A0, c0, rfl, -⟩ := r0.form
  obtain ⟨A1, c1, rfl, -⟩ := r1.form
  refine ctr_of (args := [.slice A0 p0.length c0, .slice A1 p1.length c1]) hm Try.func52 s52 rfl fun w0 σ hO Q hQ => ?_
  unfold zG at hF
  have hL := Hp.le.refl τ
  show wpn _ _ a52.body _ _ _
  unfold a52
  dsimp only
  refine wpn_qa hO [] [(0, .slice A0 p0.length c0), (1, .slice A1 p1.length c1)] (ar (ar trivial)) fun j => ?_
  refine wpn_assoc ?_
  refine wpn_qa hO [] [(0, .slice A0 p0.length c0), (1, .slice A1 p1.length c1), (10, .bool ((p0.length : Int) != (p1.length : Int)))] (ar (ar (ar trivial))) fun j => ?_
  rcases ite_some hF with ⟨hb3, hF⟩ | ⟨hb3, hF⟩
  · refine wpn_cT (congrArg Value.bool hb3) ?_
    refine wpn_assoc ?_
    refine wpn_qa hO [] [(4, .bool false)] (ar trivial) fun j => ?_
    refine wpn_rt ?_
    injection hF with hF
    subst hF
    exact hQ _ _ _ _ _ rfl hO hL ⟨rfl, rfl⟩
  · refine wpn_cF (congrArg Value.bool hb3) ?_
    refine wpn_sk ?_
    refine wpn_assoc ?_
    refine wpn_qa hO [] [(0, .slice A0 p0.length c0), (1, .slice A1 p1.length c1), (12, .int .i64 (p0.length : Int)), (13, .int .i64 0)] (ar (ar (ar (ar trivial)))) fun j => ?_
    refine wpn_bl ?_
    refine wpn_lp (fun (n : Nat) e' σ' => ∃ (x20 : Int) (τ' : Hp), agr [(0, .slice A0 p0.length c0), (1, .slice A1 p1.length c1), (12, .int .i64 (p0.length : Int)), (13, .int .i64 x20)] e' ∧ Obs τ' σ' [] ∧ Hp.le τ τ' ∧ RdT Ty.u8 τ' (.slice A0 p0.length c0) p0 ∧ RdT Ty.u8 τ' (.slice A1 p1.length c1) p1 ∧ zE p0 p1 n x20 = some rr) big ⟨0, _, ar (ar (ar (ar trivial))), hO, hL, r0, r1, hF⟩ ?_
    clear hF hO hL
    rintro n33 e σ ⟨x20, _, hA, hO, hL, r18, r19, hF⟩
    rw [← sets_agr _ _ hA]
    cases n33 with
    | zero => exact nomatch (show none = some rr from hF)
    | succ n33 =>
      replace hF : zF (zE p0 p1 n33) p0 p1 x20 = some rr := hF
      unfold zF at hF
      refine wpn_qa hO [] [(0, .slice A0 p0.length c0), (1, .slice A1 p1.length c1), (12, .int .i64 (p0.length : Int)), (13, .int .i64 x20), (14, .bool (decide (x20 < (p0.length : Int))))] (ar (ar (ar (ar (ar trivial))))) fun j => ?_
      rcases ite_some hF with ⟨hb34, hF⟩ | ⟨hb34, hF⟩
      · refine wpn_cT (congrArg Value.bool hb34) ?_
        refine wpn_sk ?_
        refine wpn_bl ?_
        refine wpn_qa hO [] [(0, .slice A0 p0.length c0), (1, .slice A1 p1.length c1), (5, .int .i64 x20), (12, .int .i64 (p0.length : Int)), (13, .int .i64 x20)] (ar (ar (ar (ar (ar trivial))))) fun j => ?_
        refine wpn_p2r ?_
        refine wpn_q hO 2 [] [(0, .slice A0 p0.length c0), (1, .slice A1 p1.length c1), (5, .int .i64 x20), (12, .int .i64 (p0.length : Int)), (13, .int .i64 x20), (16, .slice A0 p0.length c0), (17, .int .i64 x20)] (ar (ar (ar (ar (ar (ar (ar trivial))))))) fun j => ?_
        obtain ⟨y35, g36, hF⟩ := bind_some hF
        refine wpn_idx (T := Ty.u8) r18 hO.base rfl rfl g36 (by decide) fun a37 _ k38 m39 => ?_
        obtain rfl : _ = ([.int .u8 y35.toNat] : List Value) := k38
        refine wpn_ld rfl (m39.le hO.base).fst ?_
        refine wpn_q hO 2 [] [(0, .slice A0 p0.length c0), (1, .slice A1 p1.length c1), (12, .int .i64 (p0.length : Int)), (13, .int .i64 x20), (19, .int .u8 (y35.toNat : Int)), (20, .slice A1 p1.length c1), (21, .int .i64 x20)] (ar (ar (ar (ar (ar (ar (ar trivial))))))) fun j => ?_
        obtain ⟨y40, g41, hF⟩ := bind_some hF
        refine wpn_idx (T := Ty.u8) r19 hO.base rfl rfl g41 (by decide) fun a42 _ k43 m44 => ?_
        obtain rfl : _ = ([.int .u8 y40.toNat] : List Value) := k43
        refine wpn_ld rfl (m44.le hO.base).fst ?_
        refine wpn_qa hO [] [(0, .slice A0 p0.length c0), (1, .slice A1 p1.length c1), (12, .int .i64 (p0.length : Int)), (13, .int .i64 x20), (24, .bool ((y35.toNat : Int) != (y40.toNat : Int)))] (ar (ar (ar (ar (ar trivial))))) fun j => ?_
        refine wpn_clast ?_
        rcases ite_some hF with ⟨hb45, hF⟩ | ⟨hb45, hF⟩
        · refine wpn_cT (congrArg Value.bool hb45) ?_
          refine wpn_assoc ?_
          refine wpn_qa hO [] [(4, .bool false)] (ar trivial) fun j => ?_
          refine wpn_rt ?_
          refine inb_r1 ?_
          refine thn_r1 ?_
          refine thn_r1 ?_
          refine inb_r1 ?_
          refine thn_r1 ?_
          injection hF with hF
          subst hF
          exact hQ _ _ _ _ _ rfl hO hL ⟨rfl, rfl⟩
        · refine wpn_cF (congrArg Value.bool hb45) ?_
          refine wpn_sk ?_
          refine wpn_end ?_
          refine inb_i ?_
          refine thn_i ?_
          refine wpn_rlast ?_
          refine wpn_qa hO [] [(0, .slice A0 p0.length c0), (1, .slice A1 p1.length c1), (12, .int .i64 (p0.length : Int)), (13, .int .i64 (IntKind.i64.wrap (x20 + 1)))] (ar (ar (ar (ar trivial)))) fun j => ?_
          refine wpn_end ?_
          refine thn_i ?_
          exact ⟨n33, Nat.lt_succ_self _, (IntKind.i64.wrap (x20 + 1)), _, ar (ar (ar (ar trivial))), hO, hL, r18, r19, hF⟩
      · refine wpn_cF (congrArg Value.bool hb34) ?_
        refine wpn_ex ?_
        refine thn_x ?_
        refine inb_x ?_
        refine thn_i ?_
        refine wpn_qa hO [] [(4, .bool true)] (ar trivial) fun j => ?_
        refine wpn_r1 ?_
        injection hF with hF
        subst hF
        exact hQ _ _ _ _ _ rfl hO hL ⟨rfl, rfl⟩
theorem zb6 {τ : Hp} {p0 : Int} {p1 : Int}  {rr : Int} (hF : zbp p0 p1 = some rr) :
    Ctr Try.prog 47 #[.int .u64 p0, .int .i64 p1] τ [] (fun v τ' vs' => v = .int .u64 rr ∧ vs' = []) := by
  refine ctr_of (args := [.int .u64 p0, .int .i64 p1]) hm Try.func47 s47 rfl fun w0 σ hO Q hQ => ?_
  unfold zbp at hF
  have hL := Hp.le.refl τ
  show wpn _ _ a47.body _ _ _
  unfold a47
  dsimp only
  refine wpn_qa hO [] [(0, .int .u64 p0)] (ar trivial) fun j => ?_
  refine wpn_qa hO [] [(4, .int .u64 p0)] (ar trivial) fun j => ?_
  refine wpn_r1 ?_
  injection hF with hF
  subst hF
  exact hQ _ _ _ _ _ rfl hO hL ⟨rfl, rfl⟩
theorem zb7 {τ : Hp} {v0 : Value} {p0 : (List UInt8)} {p1 : Int} (r0 : RdT Ty.u8 τ v0 p0) {rr : Int × Int × Int} (hF : zbn p0 p1 = some rr) :
    Ctr Try.prog 46 #[v0, .int .i64 p1, .func (.func 47) #[] #[], .func (.func 38) #[] #[]] τ [] (fun v τ' vs' => v = .tuple #[.int .u64 rr.1, .int .i64 rr.2.1, .int .i64 rr.2.2] ∧ vs' = []) := by
  obtain ⟨A0, c0, rfl, -⟩ := r0.form
  refine ctr_of (args := [.slice A0 p0.length c0, .int .i64 p1, .func (.func 47) #[] #[], .func (.func 38) #[] #[]]) hm Try.func46 s46 rfl fun w0 σ hO Q hQ => ?_
  unfold zbn at hF
  have hL := Hp.le.refl τ
  show wpn _ _ a46.body _ _ _
  unfold a46
  dsimp only
  refine wpn_qa hO [] [(0, .slice A0 p0.length c0), (1, .int .i64 p1), (2, .func (.func 47) #[] #[]), (3, .func (.func 38) #[] #[])] (ar (ar (ar (ar trivial)))) fun j => ?_
  refine wpn_assoc ?_
  refine wpn_qa hO [] [(0, .slice A0 p0.length c0), (1, .int .i64 p1), (2, .func (.func 47) #[] #[]), (3, .func (.func 38) #[] #[]), (21, .bool ((decide (p1 < 0)) || (decide (p1 > (p0.length : Int)))))] (And.intro (And.intro rfl rfl) (fun _ => ar (ar (ar (ar (ar trivial)))))) fun j => ?_
  rcases ite_some hF with ⟨hb5, hF⟩ | ⟨hb5, hF⟩
  · refine wpn_cT (congrArg Value.bool hb5) ?_
    refine wpn_assoc ?_
    refine wpn_qa hO [] [(8, .int .u64 0), (9, .int .i64 0), (10, .int .i64 1)] (ar (ar (ar trivial))) fun j => ?_
    refine wpn_rt ?_
    injection hF with hF
    subst hF
    exact hQ _ _ _ _ _ rfl hO hL ⟨rfl, rfl⟩
  · refine wpn_cF (congrArg Value.bool hb5) ?_
    refine wpn_sk ?_
    refine wpn_q hO 2 [] [(0, .slice A0 p0.length c0), (1, .int .i64 p1), (2, .func (.func 47) #[] #[]), (3, .func (.func 38) #[] #[]), (23, .slice A0 p0.length c0), (24, .int .i64 p1)] (ar (ar (ar (ar (ar (ar trivial)))))) fun j => ?_
    obtain ⟨y6, g7, hF⟩ := bind_some hF
    refine wpn_sl (T := Ty.u8) r0 rfl rfl rfl g7 fun _ r8 => ?_
    obtain ⟨A9, c10, rfl, -⟩ := r8.form
    obtain ⟨c11, h12, hF⟩ := bind_some hF
    refine wpn_c0 hO (zbX r8 h12) rfl fun _ σ _ _ hO h13 h14 => ?_
    have hL := hL.trans h13
    have r0 := r0.le h13
    have r8 := r8.le h13
    obtain ⟨rfl, rfl⟩ := h14
    have hO : Obs _ _ [] := hO
    refine wpn_qa hO [] [(0, .slice A0 p0.length c0), (1, .int .i64 p1), (2, .func (.func 47) #[] #[]), (3, .func (.func 38) #[] #[]), (11, .int .u64 c11.1), (12, .int .i64 c11.2)] (ar (ar (ar (ar (ar (ar trivial)))))) fun j => ?_
    refine wpn_q hO 3 [] [(0, .slice A0 p0.length c0), (1, .int .i64 p1), (3, .func (.func 38) #[] #[]), (12, .int .i64 c11.2), (29, .func (.func 47) #[] #[]), (30, .int .u64 c11.1), (31, .int .i64 c11.2)] (ar (ar (ar (ar (ar (ar (ar trivial))))))) fun j => ?_
    obtain ⟨c15, h16, hF⟩ := bind_some hF
    refine wpn_cv0 rfl (by kernel_rfl) hO (zb6 h16) rfl fun _ σ _ _ hO h17 h18 => ?_
    have hL := hL.trans h17
    have r0 := r0.le h17
    obtain ⟨rfl, rfl⟩ := h18
    have hO : Obs _ _ [] := hO
    refine wpn_qa hO [] [(0, .slice A0 p0.length c0), (1, .int .i64 p1), (3, .func (.func 38) #[] #[]), (12, .int .i64 c11.2), (13, .int .u64 c15)] (ar (ar (ar (ar (ar trivial))))) fun j => ?_
    refine wpn_assoc ?_
    refine wpn_p2r ?_
    refine wpn_q hO 3 [] [(0, .slice A0 p0.length c0), (1, .int .i64 p1), (3, .func (.func 38) #[] #[]), (12, .int .i64 c11.2), (13, .int .u64 c15), (35, .bool (c11.2 == 0))] (ar (ar (ar (ar (ar (ar trivial)))))) fun j => ?_
    obtain ⟨c19, h20, hF⟩ := bind_some hF
    refine wpn_mid 2 (fun e' σ' => ∃ (τ' : Hp), agr [(47, .bool c19), (1, .int .i64 p1), (12, .int .i64 c11.2), (13, .int .u64 c15)] e' ∧ Obs τ' σ' [] ∧ Hp.le τ τ') ?_ ?_
    · have hF := h20
      rcases ite_some hF with ⟨hb21, hF⟩ | ⟨hb21, hF⟩
      · refine wpn_gF (congrArg (fun x => isB (.bool x) false) hb21) ?_
        refine wpn_pk (congrArg Value.bool hb21) ?_
        refine wpn_nil ?_
        injection hF with hF
        subst hF
        refine wpn_end ?_
        exact ⟨rfl, _, ar (ar (ar (ar trivial))), hO, hL⟩
      · refine wpn_gT (congrArg (fun x => isB (.bool x) false) hb21) ?_
        refine wpn_q hO 7 [] [(1, .int .i64 p1), (12, .int .i64 c11.2), (13, .int .u64 c15), (35, .bool (c11.2 == 0)), (36, .func (.func 38) #[] #[]), (37, .int .u64 c15), (39, .slice A0 p0.length c0), (40, .int .i64 p1), (43, .int .i64 (IntKind.i64.wrap (p1 + c11.2)))] (ar (ar (ar (ar (ar (ar (ar (ar (ar trivial))))))))) fun j => ?_
        obtain ⟨y22, g23, hF⟩ := bind_some hF
        refine wpn_sl (T := Ty.u8) r0 rfl rfl rfl g23 fun _ r24 => ?_
        obtain ⟨A25, c26, rfl, -⟩ := r24.form
        obtain ⟨c27, h28, hF⟩ := bind_some hF
        refine wpn_cv0 rfl (by kernel_rfl) hO (zbC (RdT.nil Ty.u8 _) h28) rfl fun _ σ _ _ hO h29 h30 => ?_
        have hL := hL.trans h29
        have r0 := r0.le h29
        have r24 := r24.le h29
        obtain ⟨v31, o34, rfl, rfl, w35⟩ := h30
        obtain ⟨A32, c33, rfl, -⟩ := w35.form
        have hO : Obs _ _ [_] := hO
        obtain ⟨_, h37, r36, hO⟩ := w35.share hO (i := 0) rfl
        have hL := hL.trans h37
        have r0 := r0.le h37
        have r24 := r24.le h37
        have hO : Obs _ _ [_] := hO
        obtain ⟨c38, h39, hF⟩ := bind_some hF
        refine wpn_c0 hO (zcf r36 r24 h39) rfl fun _ σ _ _ hO h40 h41 => ?_
        have hL := hL.trans h40
        have r36 := r36.le h40
        have r0 := r0.le h40
        have r24 := r24.le h40
        obtain ⟨rfl, rfl⟩ := h41
        have hO : Obs _ _ [_] := hO
        refine wpn_q hO 1 [] [(1, .int .i64 p1), (12, .int .i64 c11.2), (13, .int .u64 c15), (35, .bool (c11.2 == 0)), (46, .bool (!c38))] (ar (ar (ar (ar (ar trivial))))) fun j => ?_
        refine wpn_pk (congrArg Value.bool hb21) ?_
        refine wpn_nil ?_
        injection hF with hF
        subst hF
        refine wpn_end ?_
        have hO := hO.sel [] (by decide)
        exact ⟨rfl, _, ar (ar (ar (ar trivial))), hO, hL⟩
    · rintro e σ ⟨_, hA, hO, hL⟩
      rw [← sets_agr _ _ hA]
      refine wpn_nil ?_
      rcases ite_some hF with ⟨hb42, hF⟩ | ⟨hb42, hF⟩
      · refine wpn_cT (congrArg Value.bool hb42) ?_
        refine wpn_assoc ?_
        refine wpn_qa hO [] [(8, .int .u64 0), (9, .int .i64 0), (10, .int .i64 5)] (ar (ar (ar trivial))) fun j => ?_
        refine wpn_rt ?_
        injection hF with hF
        subst hF
        exact hQ _ _ _ _ _ rfl hO hL ⟨rfl, rfl⟩
      · refine wpn_cF (congrArg Value.bool hb42) ?_
        refine wpn_sk ?_
        refine wpn_qa hO [] [(8, .int .u64 c15), (9, .int .i64 (IntKind.i64.wrap (p1 + c11.2))), (10, .int .i64 0)] (ar (ar (ar trivial))) fun j => ?_
        refine wpn_r1 ?_
        injection hF with hF
        subst hF
        exact hQ _ _ _ _ _ rfl hO hL ⟨rfl, rfl⟩
theorem zb8 {τ : Hp} {v0 : Value} {p0 : (List UInt8)} {p1 : Int} (r0 : RdT Ty.u8 τ v0 p0) {rr : Int × Int × Int} (hF : zW p0 p1 = some rr) :
    Ctr Try.prog 41 #[v0, .int .i64 p1] τ [] (fun v τ' vs' => v = .tuple #[.int .u64 rr.1, .int .i64 rr.2.1, .int .i64 rr.2.2] ∧ vs' = []) := by
  obtain ⟨A0, c0, rfl, -⟩ := r0.form
  refine ctr_of (args := [.slice A0 p0.length c0, .int .i64 p1]) hm Try.func41 s41 rfl fun w0 σ hO Q hQ => ?_
  unfold zW at hF
  have hL := Hp.le.refl τ
  show wpn _ _ a41.body _ _ _
  unfold a41
  dsimp only
  refine wpn_qa hO [] [(0, .slice A0 p0.length c0), (1, .int .i64 p1)] (ar (ar trivial)) fun j => ?_
  refine wpn_q hO 2 [] [(7, .slice A0 p0.length c0), (8, .int .i64 p1)] (ar (ar trivial)) fun j => ?_
  obtain ⟨c3, h4, hF⟩ := bind_some hF
  refine wpn_c0 hO (zb7 r0 h4) rfl fun _ σ _ _ hO h5 h6 => ?_
  have hL := hL.trans h5
  have r0 := r0.le h5
  obtain ⟨rfl, rfl⟩ := h6
  have hO : Obs _ _ [] := hO
  refine wpn_qa hO [] [(4, .int .u64 c3.1), (5, .int .i64 c3.2.1), (6, .int .i64 c3.2.2)] (ar (ar (ar trivial))) fun j => ?_
  refine wpn_r1 ?_
  injection hF with hF
  subst hF
  exact hQ _ _ _ _ _ rfl hO hL ⟨rfl, rfl⟩
theorem zv {τ : Hp} {q0 : ze} {bm0 : Nat} {vm0_0 : Value} {p1 : Int} (rm0_0 : RdT Ty.u8 τ vm0_0 q0.b) {rr : Int × ze} (hF : zh q0 p1 = some rr) :
    Ctr Try.prog 30 #[.pointer (some ⟨bm0, 0, none⟩), .int .i64 p1] τ [some (bm0, ⟨[vm0_0, .int .i64 q0.at_, .bool q0.failed], 66, 3, true⟩)] (fun v τ' vs' => ∃ (u0_0 : Value), v = .int .i64 rr.1 ∧ vs' = [some (bm0, ⟨[u0_0, .int .i64 rr.2.at_, .bool rr.2.failed], 66, 3, true⟩)] ∧ RdT Ty.u8 τ' u0_0 rr.2.b) := by
  obtain ⟨Am0_0, cm0_0, rfl, -⟩ := rm0_0.form
  refine ctr_of (args := [.pointer (some ⟨bm0, 0, none⟩), .int .i64 p1]) hm Try.func30 s30 rfl fun w0 σ hO Q hQ => ?_
  unfold zh at hF
  have hL := Hp.le.refl τ
  show wpn _ _ a30.body _ _ _
  unfold a30
  dsimp only
  refine wpn_qa hO [] [(0, .pointer (some ⟨bm0, 0, none⟩)), (1, .int .i64 p1)] (ar (ar trivial)) fun j => ?_
  refine wpn_p2r ?_
  refine wpn_q hO 8 [0, 0] [(0, .pointer (some ⟨bm0, 0, none⟩)), (1, .int .i64 p1), (12, .slice Am0_0 q0.b.length cm0_0), (16, .int .i64 q0.at_)] (And.intro (And.intro rfl rfl) (And.intro (And.intro rfl rfl) (ar (ar (ar (ar trivial)))))) fun j => ?_
  obtain ⟨c3, h4, hF⟩ := bind_some hF
  refine wpn_c0 hO (zb8 rm0_0 h4) rfl fun _ σ _ _ hO h5 h6 => ?_
  have hL := hL.trans h5
  have rm0_0 := rm0_0.le h5
  obtain ⟨rfl, rfl⟩ := h6
  have hO : Obs _ _ [_] := hO
  refine wpn_qa hO [] [(0, .pointer (some ⟨bm0, 0, none⟩)), (1, .int .i64 p1), (5, .int .u64 c3.1), (6, .int .i64 c3.2.1), (7, .int .i64 c3.2.2)] (ar (ar (ar (ar (ar trivial))))) fun j => ?_
  refine wpn_assoc ?_
  refine wpn_qa hO [0] [(0, .pointer (some ⟨bm0, 0, none⟩)), (5, .int .u64 c3.1), (6, .int .i64 c3.2.1), (34, .bool ((q0.failed || (c3.2.2 != 0)) || (decide (c3.1 > (IntKind.u64.wrap p1)))))] (And.intro (And.intro rfl rfl) (And.intro (And.intro rfl rfl) (fun _ => And.intro (And.intro rfl rfl) (fun _ => ar (ar (ar (ar trivial))))))) fun j => ?_
  rcases ite_some hF with ⟨hb7, hF⟩ | ⟨hb7, hF⟩
  · refine wpn_cT (congrArg Value.bool hb7) ?_
    refine wpn_assoc ?_
    refine wpn_q hO 3 [] [(0, .pointer (some ⟨bm0, 0, none⟩)), (37, .pointer (some ⟨bm0, 2, none⟩))] (ar (ar trivial)) fun j => ?_
    refine wpn_st hO (i := 0) rfl (off := 2) rfl rfl rfl rfl (Nat.le_of_ble_eq_true rfl) rfl fun σ hO => ?_
    have hO : Obs _ _ [_] := hO
    refine wpn_nil ?_
    refine wpn_assoc ?_
    refine wpn_qa hO [] [(0, .pointer (some ⟨bm0, 0, none⟩)), (4, .int .i64 0)] (ar (ar trivial)) fun j => ?_
    refine wpn_rt ?_
    injection hF with hF
    subst hF
    exact hQ _ _ _ _ _ rfl hO hL ⟨_, rfl, rfl, rm0_0⟩
  · refine wpn_cF (congrArg Value.bool hb7) ?_
    refine wpn_sk ?_
    refine wpn_q hO 4 [] [(0, .pointer (some ⟨bm0, 0, none⟩)), (5, .int .u64 c3.1), (39, .int .i64 c3.2.1), (41, .pointer (some ⟨bm0, 1, none⟩))] (ar (ar (ar (ar trivial)))) fun j => ?_
    refine wpn_st hO (i := 0) rfl (off := 1) rfl rfl rfl rfl (Nat.le_of_ble_eq_true rfl) rfl fun σ hO => ?_
    have hO : Obs _ _ [_] := hO
    refine wpn_nil ?_
    refine wpn_qa hO [] [(0, .pointer (some ⟨bm0, 0, none⟩)), (4, .int .i64 (IntKind.i64.wrap c3.1))] (ar (ar trivial)) fun j => ?_
    refine wpn_r1 ?_
    injection hF with hF
    subst hF
    exact hQ _ _ _ _ _ rfl hO hL ⟨_, rfl, rfl, rm0_0⟩
theorem zb1 {τ : Hp} {q0 : ze} {bm0 : Nat} {vm0_0 : Value} (rm0_0 : RdT Ty.u8 τ vm0_0 q0.b) {rr : Int × ze} (hF : z8 q0 = some rr) :
    Ctr Try.prog 42 #[.pointer (some ⟨bm0, 0, none⟩)] τ [some (bm0, ⟨[vm0_0, .int .i64 q0.at_, .bool q0.failed], 66, 3, true⟩)] (fun v τ' vs' => ∃ (u0_0 : Value), v = .int .u8 rr.1 ∧ vs' = [some (bm0, ⟨[u0_0, .int .i64 rr.2.at_, .bool rr.2.failed], 66, 3, true⟩)] ∧ RdT Ty.u8 τ' u0_0 rr.2.b) := by
  obtain ⟨Am0_0, cm0_0, rfl, -⟩ := rm0_0.form
  refine ctr_of (args := [.pointer (some ⟨bm0, 0, none⟩)]) hm Try.func42 s42 rfl fun w0 σ hO Q hQ => ?_
  unfold z8 at hF
  have hL := Hp.le.refl τ
  show wpn _ _ a42.body _ _ _
  unfold a42
  dsimp only
  refine wpn_qa hO [] [(0, .pointer (some ⟨bm0, 0, none⟩))] (ar trivial) fun j => ?_
  refine wpn_assoc ?_
  refine wpn_p2r ?_
  refine wpn_qa hO [0, 0, 0] [(0, .pointer (some ⟨bm0, 0, none⟩)), (18, .bool (q0.failed || (decide (q0.at_ ≥ (q0.b.length : Int)))))] (And.intro (And.intro rfl rfl) (And.intro (And.intro rfl rfl) (And.intro (And.intro rfl rfl) (And.intro (And.intro rfl rfl) (fun _ => ar (ar trivial)))))) fun j => ?_
  rcases ite_some hF with ⟨hb2, hF⟩ | ⟨hb2, hF⟩
  · refine wpn_cT (congrArg Value.bool hb2) ?_
    refine wpn_assoc ?_
    refine wpn_q hO 3 [] [(0, .pointer (some ⟨bm0, 0, none⟩)), (21, .pointer (some ⟨bm0, 2, none⟩))] (ar (ar trivial)) fun j => ?_
    refine wpn_st hO (i := 0) rfl (off := 2) rfl rfl rfl rfl (Nat.le_of_ble_eq_true rfl) rfl fun σ hO => ?_
    have hO : Obs _ _ [_] := hO
    refine wpn_nil ?_
    refine wpn_assoc ?_
    refine wpn_qa hO [] [(0, .pointer (some ⟨bm0, 0, none⟩)), (2, .int .u8 0)] (ar (ar trivial)) fun j => ?_
    refine wpn_rt ?_
    injection hF with hF
    subst hF
    exact hQ _ _ _ _ _ rfl hO hL ⟨_, rfl, rfl, rm0_0⟩
  · refine wpn_cF (congrArg Value.bool hb2) ?_
    refine wpn_sk ?_
    refine wpn_q hO 7 [0] [(0, .pointer (some ⟨bm0, 0, none⟩)), (26, .int .i64 (IntKind.i64.wrap (q0.at_ + 1))), (28, .pointer (some ⟨bm0, 1, none⟩))] (And.intro (And.intro rfl rfl) (ar (ar (ar trivial)))) fun j => ?_
    refine wpn_st hO (i := 0) rfl (off := 1) rfl rfl rfl rfl (Nat.le_of_ble_eq_true rfl) rfl fun σ hO => ?_
    have hO : Obs _ _ [_] := hO
    refine wpn_nil ?_
    refine wpn_p2r ?_
    refine wpn_q hO 9 [0, 0] [(0, .pointer (some ⟨bm0, 0, none⟩)), (32, .slice Am0_0 q0.b.length cm0_0), (37, .int .i64 (IntKind.i64.wrap ((IntKind.i64.wrap (q0.at_ + 1)) - 1)))] (And.intro (And.intro rfl rfl) (And.intro (And.intro rfl rfl) (ar (ar (ar trivial))))) fun j => ?_
    obtain ⟨y3, g4, hF⟩ := bind_some hF
    refine wpn_idx (T := Ty.u8) rm0_0 hO.base rfl rfl g4 (by decide) fun a5 _ k6 m7 => ?_
    obtain rfl : _ = ([.int .u8 y3.toNat] : List Value) := k6
    refine wpn_ld rfl (m7.le hO.base).fst ?_
    refine wpn_qa hO [] [(0, .pointer (some ⟨bm0, 0, none⟩)), (2, .int .u8 (y3.toNat : Int))] (ar (ar trivial)) fun j => ?_
    refine wpn_r1 ?_
    injection hF with hF
    subst hF
    exact hQ _ _ _ _ _ rfl hO hL ⟨_, rfl, rfl, rm0_0⟩
theorem zcd {τ : Hp} {q0 : ze} {bm0 : Nat} {vm0_0 : Value} {p1 : Int} (rm0_0 : RdT Ty.u8 τ vm0_0 q0.b) {rr : za × ze} (hF : z2 q0 p1 = some rr) :
    Ctr Try.prog 31 #[.pointer (some ⟨bm0, 0, none⟩), .int .i64 p1] τ [some (bm0, ⟨[vm0_0, .int .i64 q0.at_, .bool q0.failed], 66, 3, true⟩)] (fun v τ' vs' => ∃ (v0_3 : Value) (u0_0 : Value), v = .agg #[.int .i64 rr.1.From, .int .i64 rr.1.To, .int .i64 rr.1.Up, v0_3] ∧ vs' = [some (bm0, ⟨[u0_0, .int .i64 rr.2.at_, .bool rr.2.failed], 66, 3, true⟩)] ∧ RdT zf τ' v0_3 rr.1.Regs ∧ RdT Ty.u8 τ' u0_0 rr.2.b) := by
  obtain ⟨Am0_0, cm0_0, rfl, -⟩ := rm0_0.form
  refine ctr_of (args := [.pointer (some ⟨bm0, 0, none⟩), .int .i64 p1]) hm Try.func31 s31 rfl fun w0 σ hO Q hQ => ?_
  unfold z2 at hF
  have hL := Hp.le.refl τ
  show wpn _ _ a31.body _ _ _
  unfold a31
  dsimp only
  refine wpn_al hO fun b3 σ hO => ?_
  have hO : Obs _ _ [_, _] := hO
  refine wpn_nil ?_
  refine wpn_q hO 2 [] [(0, .pointer (some ⟨bm0, 0, none⟩)), (4, .pointer (some ⟨b3, 0, none⟩)), (8, .int .i64 p1), (9, .pointer (some ⟨bm0, 0, none⟩))] (ar (ar (ar (ar trivial)))) fun j => ?_
  obtain ⟨c4, h5, hF⟩ := bind_some hF
  have hO := hO.sel [1, 0] (by decide)
  refine wpn_c (hs := [_]) (vs := [_]) hO (zv rm0_0 h5) rfl fun _ σ _ _ hO h6 h7 => ?_
  have hL := hL.trans h6
  obtain ⟨v8, rfl, rfl, r11⟩ := h7
  obtain ⟨A9, c10, rfl, -⟩ := r11.form
  have hO : Obs _ _ [_, _] := hO
  refine wpn_q hO 2 [] [(0, .pointer (some ⟨bm0, 0, none⟩)), (4, .pointer (some ⟨b3, 0, none⟩)), (12, .agg #[(.int .i64 (IntKind.i64.wrap (p1 + c4.1))), (.int .i64 0), (.int .i64 0), (.slice none 0 0)])] (ar (ar (ar trivial))) fun j => ?_
  refine wpn_al hO fun b12 σ hO => ?_
  have hO : Obs _ _ [_, _, _] := hO
  refine wpn_st hO (i := 2) rfl (off := 0) rfl rfl rfl rfl (Nat.le_of_ble_eq_true rfl) rfl fun σ hO => ?_
  have hO : Obs _ _ [_, _, _] := hO
  refine wpn_nil ?_
  refine wpn_p2r ?_
  refine wpn_q hO 3 [2] [(0, .pointer (some ⟨bm0, 0, none⟩)), (4, .pointer (some ⟨b3, 0, none⟩)), (5, .pointer (some ⟨b12, 0, none⟩)), (13, .pointer (some ⟨b12, 0, none⟩)), (14, .int .i64 (IntKind.i64.wrap (p1 + c4.1))), (15, .pointer (some ⟨bm0, 0, none⟩))] (And.intro (And.intro rfl rfl) (ar (ar (ar (ar (ar (ar trivial))))))) fun j => ?_
  refine wpn_late ?_
  obtain ⟨c13, h14, hF⟩ := bind_some hF
  have hO := hO.sel [0, 2, 1] (by decide)
  refine wpn_c (hs := [_, _]) (vs := [_]) hO (zv r11 h14) rfl fun _ σ _ _ hO h15 h16 => ?_
  have hL := hL.trans h15
  obtain ⟨v17, rfl, rfl, r20⟩ := h16
  obtain ⟨A18, c19, rfl, -⟩ := r20.form
  have hO : Obs _ _ [_, _, _] := hO
  refine wpn_nil ?_
  refine wpn_ag ⟨(again_ld rfl (hO.val (i := 1) (off := 0) (agg := false) (n := 1) rfl rfl) rfl), trivial⟩ ?_
  refine wpn_q hO 2 [] [(0, .pointer (some ⟨bm0, 0, none⟩)), (4, .pointer (some ⟨b3, 0, none⟩)), (5, .pointer (some ⟨b12, 0, none⟩)), (17, .int .i64 (IntKind.i64.wrap ((IntKind.i64.wrap (p1 + c4.1)) + c13.1))), (18, .pointer (some ⟨b12, 1, none⟩))] (ar (ar (ar (ar (ar trivial))))) fun j => ?_
  refine wpn_st hO (i := 1) rfl (off := 1) rfl rfl rfl rfl (Nat.le_of_ble_eq_true rfl) rfl fun σ hO => ?_
  have hO : Obs _ _ [_, _, _] := hO
  refine wpn_nil ?_
  refine wpn_q hO 1 [] [(0, .pointer (some ⟨bm0, 0, none⟩)), (4, .pointer (some ⟨b3, 0, none⟩)), (5, .pointer (some ⟨b12, 0, none⟩)), (19, .pointer (some ⟨bm0, 0, none⟩))] (ar (ar (ar (ar trivial)))) fun j => ?_
  obtain ⟨c21, h22, hF⟩ := bind_some hF
  refine wpn_c (hs := [_, _]) (vs := [_]) hO (zv r20 h22) rfl fun _ σ _ _ hO h23 h24 => ?_
  have hL := hL.trans h23
  obtain ⟨v25, rfl, rfl, r28⟩ := h24
  obtain ⟨A26, c27, rfl, -⟩ := r28.form
  have hO : Obs _ _ [_, _, _] := hO
  refine wpn_q hO 1 [] [(0, .pointer (some ⟨bm0, 0, none⟩)), (4, .pointer (some ⟨b3, 0, none⟩)), (5, .pointer (some ⟨b12, 0, none⟩)), (20, .int .i64 c21.1), (21, .pointer (some ⟨b12, 2, none⟩))] (ar (ar (ar (ar (ar trivial))))) fun j => ?_
  refine wpn_st hO (i := 1) rfl (off := 2) rfl rfl rfl rfl (Nat.le_of_ble_eq_true rfl) rfl fun σ hO => ?_
  have hO : Obs _ _ [_, _, _] := hO
  refine wpn_nil ?_
  refine wpn_assoc ?_
  refine wpn_q hO 1 [] [(0, .pointer (some ⟨bm0, 0, none⟩)), (4, .pointer (some ⟨b3, 0, none⟩)), (5, .pointer (some ⟨b12, 0, none⟩)), (22, .pointer (some ⟨bm0, 0, none⟩))] (ar (ar (ar (ar trivial)))) fun j => ?_
  obtain ⟨c29, h30, hF⟩ := bind_some hF
  refine wpn_c (hs := [_, _]) (vs := [_]) hO (zv r28 h30) rfl fun _ σ _ _ hO h31 h32 => ?_
  have hL := hL.trans h31
  obtain ⟨v33, rfl, rfl, r36⟩ := h32
  obtain ⟨A34, c35, rfl, -⟩ := r36.form
  have hO : Obs _ _ [_, _, _] := hO
  refine wpn_qa hO [] [(0, .pointer (some ⟨bm0, 0, none⟩)), (4, .pointer (some ⟨b3, 0, none⟩)), (5, .pointer (some ⟨b12, 0, none⟩)), (6, .int .i64 c29.1)] (ar (ar (ar (ar trivial)))) fun j => ?_
  refine wpn_bl ?_
  have hO := hO.no
  have hO : Obs _ _ [_, _, _, _] := hO
  have hO := hO.sel [2, 0, 1, 3] (by decide)
  refine wpn_lp (fun (n : Nat) e' σ' => ∃ (A64 : Option Addr) (c65 : Nat) (x66 : List UInt8) (x68 : Int) (x69 : Bool) (A70 : Option Addr) (c71 : Nat) (o72 : Ob) (x73 : List zb) (x75 : Int) (τ' : Hp), agr [(0, .pointer (some ⟨bm0, 0, none⟩)), (4, .pointer (some ⟨b3, 0, none⟩)), (5, .pointer (some ⟨b12, 0, none⟩)), (6, .int .i64 x75)] e' ∧ Obs τ' σ' [some (bm0, ⟨[.slice A64 x66.length c65, .int .i64 x68, .bool x69], 66, 3, true⟩), some (b3, ⟨[.int .i64 0, .int .i64 0, .int .i64 0, .slice none 0 0], 48, 4, true⟩), some (b12, ⟨[.int .i64 (IntKind.i64.wrap (p1 + c4.1)), .int .i64 (IntKind.i64.wrap ((IntKind.i64.wrap (p1 + c4.1)) + c13.1)), .int .i64 c21.1, .slice A70 x73.length c71], 48, 4, true⟩), o72] ∧ Hp.le τ τ' ∧ RdT Ty.u8 τ' (.slice A64 x66.length c65) x66 ∧ OwnO zf 50 τ' (.slice A70 x73.length c71) x73 o72 ∧ zS p1 c4 c13 c21 n x66 x68 x69 x73 x75 = some rr) big ⟨A34, c35, c29.2.b, c29.2.at_, c29.2.failed, none, 0, none, [], c29.1, _, ar (ar (ar (ar trivial))), hO, hL, r36, OwnO.nil _ _ _, hF⟩ ?_
  clear hF hO hL
  rintro n103 e σ ⟨A64, c65, x66, x68, x69, A70, c71, o72, x73, x75, _, hA, hO, hL, r67, w74, hF⟩
  rw [← sets_agr _ _ hA]
  cases n103 with
  | zero => exact nomatch (show none = some rr from hF)
  | succ n103 =>
    replace hF : zp (zS p1 c4 c13 c21 n103) p1 c4 c13 c21 x66 x68 x69 x73 x75 = some rr := hF
    unfold zp at hF
    refine wpn_assoc ?_
    refine wpn_qa hO [0] [(0, .pointer (some ⟨bm0, 0, none⟩)), (4, .pointer (some ⟨b3, 0, none⟩)), (5, .pointer (some ⟨b12, 0, none⟩)), (6, .int .i64 x75), (32, .bool ((decide (x75 > 0)) && (!x69)))] (And.intro (And.intro rfl rfl) (And.intro (And.intro rfl rfl) (fun _ => ar (ar (ar (ar (ar trivial))))))) fun j => ?_
    rcases ite_some hF with ⟨hb104, hF⟩ | ⟨hb104, hF⟩
    · refine wpn_cT (congrArg Value.bool hb104) ?_
      refine wpn_sk ?_
      refine wpn_bl ?_
      refine wpn_q hO 1 [] [(0, .pointer (some ⟨bm0, 0, none⟩)), (4, .pointer (some ⟨b3, 0, none⟩)), (5, .pointer (some ⟨b12, 0, none⟩)), (6, .int .i64 x75), (35, .pointer (some ⟨bm0, 0, none⟩))] (ar (ar (ar (ar (ar trivial))))) fun j => ?_
      obtain ⟨c105, h106, hF⟩ := bind_some hF
      have hO := hO.sel [1, 2, 3, 0] (by decide)
      refine wpn_c (hs := [_, _, _]) (vs := [_]) hO (zb1 r67 h106) rfl fun _ σ _ _ hO h107 h108 => ?_
      have hL := hL.trans h107
      have w74 := w74.le h107
      obtain ⟨v109, rfl, rfl, r112⟩ := h108
      obtain ⟨A110, c111, rfl, -⟩ := r112.form
      have hO : Obs _ _ [_, _, _, _] := hO
      refine wpn_qa hO [] [(0, .pointer (some ⟨bm0, 0, none⟩)), (4, .pointer (some ⟨b3, 0, none⟩)), (5, .pointer (some ⟨b12, 0, none⟩)), (6, .int .i64 x75), (7, .int .u8 c105.1)] (ar (ar (ar (ar (ar trivial))))) fun j => ?_
      refine wpn_plast ?_
      refine wpn_q hO 5 [1] [(0, .pointer (some ⟨bm0, 0, none⟩)), (4, .pointer (some ⟨b3, 0, none⟩)), (5, .pointer (some ⟨b12, 0, none⟩)), (6, .int .i64 x75), (37, .pointer (some ⟨b12, 3, none⟩)), (38, .slice A70 x73.length c71), (40, .int .i64 (IntKind.i64.wrap c105.1)), (41, .pointer (some ⟨bm0, 0, none⟩))] (And.intro (And.intro rfl rfl) (ar (ar (ar (ar (ar (ar (ar (ar trivial))))))))) fun j => ?_
      refine wpn_late ?_
      obtain ⟨c113, h114, hF⟩ := bind_some hF
      refine wpn_c (hs := [_, _, _]) (vs := [_]) hO (zv r112 h114) rfl fun _ σ _ _ hO h115 h116 => ?_
      have hL := hL.trans h115
      have w74 := w74.le h115
      obtain ⟨v117, rfl, rfl, r120⟩ := h116
      obtain ⟨A118, c119, rfl, -⟩ := r120.form
      have hO : Obs _ _ [_, _, _, _] := hO
      refine wpn_nil ?_
      refine wpn_ag ⟨(again_ld rfl (hO.val (i := 1) (off := 3) (agg := false) (n := 1) rfl rfl) rfl), trivial⟩ ?_
      refine wpn_q hO 2 [] [(0, .pointer (some ⟨bm0, 0, none⟩)), (4, .pointer (some ⟨b3, 0, none⟩)), (5, .pointer (some ⟨b12, 0, none⟩)), (6, .int .i64 x75), (37, .pointer (some ⟨b12, 3, none⟩)), (38, .slice A70 x73.length c71), (44, .agg #[(.int .i64 (IntKind.i64.wrap c105.1)), (.int .i64 (IntKind.i64.wrap (0 - c113.1)))])] (ar (ar (ar (ar (ar (ar (ar trivial))))))) fun j => ?_
      refine wpn_late ?_
      refine wpn_lit (T := zf) (l := ([(⟨(IntKind.i64.wrap c105.1), (IntKind.i64.wrap (0 - c113.1))⟩ : zb)] : List zb)) (cs := [.int .i64 (IntKind.i64.wrap c105.1), .int .i64 (IntKind.i64.wrap (0 - c113.1))]) hO rfl ⟨[.int .i64 (IntKind.i64.wrap c105.1), .int .i64 (IntKind.i64.wrap (0 - c113.1))], _, rfl, rfl, rfl⟩ rfl (by decide) fun _ σ o123 w124 hO => ?_
      obtain ⟨A121, c122, rfl, -⟩ := w124.form
      have hO : Obs _ _ [_, _, _, _, _] := hO
      refine wpn_nil ?_
      refine wpn_ag ⟨(again_ld rfl (hO.val (i := 1) (off := 3) (agg := false) (n := 1) rfl rfl) rfl), trivial⟩ ?_
      obtain ⟨_, hr, hF⟩ := bind_some hF
      refine wpn_apf (T := zf) zbU hO w74 (i := 2) rfl rfl rfl (w124.rd hO (i := 4) rfl) hr (by decide) fun _ σ o127 w128 hO => ?_
      obtain ⟨A125, c126, rfl, -⟩ := w128.form
      have hO : Obs _ _ [_, _, _, _, _] := hO
      refine wpn_q hO 1 [] [(0, .pointer (some ⟨bm0, 0, none⟩)), (4, .pointer (some ⟨b3, 0, none⟩)), (5, .pointer (some ⟨b12, 0, none⟩)), (6, .int .i64 x75), (46, .slice A125 (x73 ++ ([(⟨(IntKind.i64.wrap c105.1), (IntKind.i64.wrap (0 - c113.1))⟩ : zb)] : List zb)).length c126), (47, .pointer (some ⟨b12, 3, none⟩))] (ar (ar (ar (ar (ar (ar trivial)))))) fun j => ?_
      refine wpn_st hO (i := 1) rfl (off := 3) rfl rfl rfl rfl (Nat.le_of_ble_eq_true rfl) rfl fun σ hO => ?_
      have hO : Obs _ _ [_, _, _, _, _] := hO
      refine wpn_nil ?_
      refine wpn_end ?_
      refine inb_i ?_
      refine thn_i ?_
      refine wpn_rlast ?_
      refine wpn_qa hO [] [(0, .pointer (some ⟨bm0, 0, none⟩)), (4, .pointer (some ⟨b3, 0, none⟩)), (5, .pointer (some ⟨b12, 0, none⟩)), (6, .int .i64 (IntKind.i64.wrap (x75 - 1)))] (ar (ar (ar (ar trivial)))) fun j => ?_
      refine wpn_end ?_
      refine thn_i ?_
      have hO := hO.sel [3, 0, 1, 2] (by decide)
      exact ⟨n103, Nat.lt_succ_self _, A118, c119, c113.2.b, c113.2.at_, c113.2.failed, A125, c126, o127, (x73 ++ ([(⟨(IntKind.i64.wrap c105.1), (IntKind.i64.wrap (0 - c113.1))⟩ : zb)] : List zb)), (IntKind.i64.wrap (x75 - 1)), _, ar (ar (ar (ar trivial))), hO, hL, r120, w128, hF⟩
    · refine wpn_cF (congrArg Value.bool hb104) ?_
      refine wpn_ex ?_
      refine thn_x ?_
      refine inb_x ?_
      refine thn_i ?_
      refine wpn_q hO 1 [2] [(0, .pointer (some ⟨bm0, 0, none⟩)), (4, .pointer (some ⟨b3, 0, none⟩)), (48, .agg #[(.int .i64 (IntKind.i64.wrap (p1 + c4.1))), (.int .i64 (IntKind.i64.wrap ((IntKind.i64.wrap (p1 + c4.1)) + c13.1))), (.int .i64 c21.1), (.slice A70 x73.length c71)])] (And.intro (And.intro rfl rfl) (ar (ar (ar trivial)))) fun j => ?_
      refine wpn_st hO (i := 1) rfl (off := 0) rfl rfl rfl rfl (Nat.le_of_ble_eq_true rfl) rfl fun σ hO => ?_
      have hO : Obs _ _ [_, _, _, _] := hO
      refine wpn_nil ?_
      refine wpn_r1 ?_
      obtain ⟨_, h130, r129, hO⟩ := w74.share hO (i := 3) rfl
      have hL := hL.trans h130
      have r67 := r67.le h130
      have hO : Obs _ _ [_, _, _, _] := hO
      injection hF with hF
      subst hF
      have hV0 := hO.val (i := 1) rfl (off := 0) (agg := true) (n := 4) rfl
      have hO := hO.sel [0] (by decide)
      exact hQ _ _ _ _ _ (resvs_c rfl (hV0) rfl) hO hL ⟨_, _, rfl, rfl, r129, r67⟩
theorem zbO {τ : Hp} {v0 : Value} {p0 : (List UInt8)} {p1 : Int} (r0 : RdT Ty.u8 τ v0 p0) {rr : (List za) × Int × Int} (hF : zB p0 p1 = some rr) :
    Ctr Try.prog 19 #[v0, .int .i64 p1] τ [] (fun v τ' vs' => ∃ (v0 : Value), v = .tuple #[v0, .int .i64 rr.2.1, .int .i64 rr.2.2] ∧ vs' = [] ∧ RdT zd τ' v0 rr.1) := by
  obtain ⟨A0, c0, rfl, -⟩ := r0.form
  refine ctr_of (args := [.slice A0 p0.length c0, .int .i64 p1]) hm Try.func19 s19 rfl fun w0 σ hO Q hQ => ?_
  unfold zB at hF
  have hL := Hp.le.refl τ
  show wpn _ _ a19.body _ _ _
  unfold a19
  dsimp only
  refine wpn_qa hO [] [(0, .slice A0 p0.length c0), (1, .int .i64 p1), (4, .slice none 0 0)] (ar (ar (ar trivial))) fun j => ?_
  refine wpn_assoc ?_
  refine wpn_qa hO [] [(0, .slice A0 p0.length c0), (1, .int .i64 p1), (4, .slice none 0 0), (18, .bool ((decide (p1 < 0)) || (decide (p1 > (p0.length : Int)))))] (And.intro (And.intro rfl rfl) (fun _ => ar (ar (ar (ar trivial))))) fun j => ?_
  rcases ite_some hF with ⟨hb3, hF⟩ | ⟨hb3, hF⟩
  · refine wpn_cT (congrArg Value.bool hb3) ?_
    refine wpn_assoc ?_
    refine wpn_qa hO [] [(4, .slice none 0 0), (5, .int .i64 0), (6, .int .i64 1)] (ar (ar (ar trivial))) fun j => ?_
    refine wpn_rt ?_
    injection hF with hF
    subst hF
    exact hQ _ _ _ _ _ rfl hO hL ⟨_, rfl, rfl, (RdT.nil _ _)⟩
  · refine wpn_cF (congrArg Value.bool hb3) ?_
    refine wpn_sk ?_
    refine wpn_q hO 3 [] [(4, .slice none 0 0), (21, .agg #[(.slice A0 p0.length c0), (.int .i64 p1), (.bool false)])] (ar (ar trivial)) fun j => ?_
    refine wpn_bx (n := 3) hO rfl rfl fun b4 σ hO => ?_
    have hO : Obs _ _ [_] := hO
    refine wpn_qa hO [] [(4, .slice none 0 0), (7, .pointer (some ⟨b4, 0, none⟩))] (ar (ar trivial)) fun j => ?_
    refine wpn_qa hO [] [(4, .slice none 0 0), (7, .pointer (some ⟨b4, 0, none⟩)), (8, .int .i64 0)] (ar (ar (ar trivial))) fun j => ?_
    refine wpn_assoc ?_
    refine wpn_q hO 1 [] [(4, .slice none 0 0), (7, .pointer (some ⟨b4, 0, none⟩)), (8, .int .i64 0), (23, .pointer (some ⟨b4, 0, none⟩))] (ar (ar (ar (ar trivial)))) fun j => ?_
    obtain ⟨c5, h6, hF⟩ := bind_some hF
    refine wpn_c (hs := []) (vs := [_]) hO (zv r0 h6) rfl fun _ σ _ _ hO h7 h8 => ?_
    have hL := hL.trans h7
    obtain ⟨v9, rfl, rfl, r12⟩ := h8
    obtain ⟨A10, c11, rfl, -⟩ := r12.form
    have hO : Obs _ _ [_] := hO
    refine wpn_qa hO [] [(4, .slice none 0 0), (7, .pointer (some ⟨b4, 0, none⟩)), (8, .int .i64 0), (9, .int .i64 c5.1)] (ar (ar (ar (ar trivial)))) fun j => ?_
    refine wpn_bl ?_
    have hO := hO.no
    have hO : Obs _ _ [_, _] := hO
    have hO := hO.sel [1, 0] (by decide)
    refine wpn_lp (fun (n : Nat) e' σ' => ∃ (A47 : Option Addr) (c48 : Nat) (o49 : Ob) (x50 : List za) (A52 : Option Addr) (c53 : Nat) (x54 : List UInt8) (x56 : Int) (x57 : Bool) (x58 : Int) (x59 : Int) (τ' : Hp), agr [(4, .slice A47 x50.length c48), (7, .pointer (some ⟨b4, 0, none⟩)), (8, .int .i64 x58), (9, .int .i64 x59)] e' ∧ Obs τ' σ' [o49, some (b4, ⟨[.slice A52 x54.length c53, .int .i64 x56, .bool x57], 66, 3, true⟩)] ∧ Hp.le τ τ' ∧ OwnO zd 48 τ' (.slice A47 x50.length c48) x50 o49 ∧ RdT Ty.u8 τ' (.slice A52 x54.length c53) x54 ∧ zL  n x50 x54 x56 x57 x58 x59 = some rr) big ⟨none, 0, none, [], A10, c11, c5.2.b, c5.2.at_, c5.2.failed, 0, c5.1, _, ar (ar (ar (ar trivial))), hO, hL, OwnO.nil _ _ _, r12, hF⟩ ?_
    clear hF hO hL
    rintro n94 e σ ⟨A47, c48, o49, x50, A52, c53, x54, x56, x57, x58, x59, _, hA, hO, hL, w51, r55, hF⟩
    rw [← sets_agr _ _ hA]
    cases n94 with
    | zero => exact nomatch (show none = some rr from hF)
    | succ n94 =>
      replace hF : zq (zL  n94) x50 x54 x56 x57 x58 x59 = some rr := hF
      unfold zq at hF
      refine wpn_assoc ?_
      refine wpn_qa hO [1] [(4, .slice A47 x50.length c48), (7, .pointer (some ⟨b4, 0, none⟩)), (8, .int .i64 x58), (9, .int .i64 x59), (33, .bool ((decide (x59 > 0)) && (!x57)))] (And.intro (And.intro rfl rfl) (And.intro (And.intro rfl rfl) (fun _ => ar (ar (ar (ar (ar trivial))))))) fun j => ?_
      rcases ite_some hF with ⟨hb95, hF⟩ | ⟨hb95, hF⟩
      · refine wpn_cT (congrArg Value.bool hb95) ?_
        refine wpn_sk ?_
        refine wpn_bl ?_
        refine wpn_q hO 2 [] [(4, .slice A47 x50.length c48), (7, .pointer (some ⟨b4, 0, none⟩)), (9, .int .i64 x59), (36, .pointer (some ⟨b4, 0, none⟩)), (37, .int .i64 x58)] (ar (ar (ar (ar (ar trivial))))) fun j => ?_
        obtain ⟨c96, h97, hF⟩ := bind_some hF
        refine wpn_c (hs := [_]) (vs := [_]) hO (zcd r55 h97) rfl fun _ σ _ _ hO h98 h99 => ?_
        have hL := hL.trans h98
        have w51 := w51.le h98
        obtain ⟨v100, v104, rfl, rfl, r101, r107⟩ := h99
        obtain ⟨A102, c103, rfl, -⟩ := r101.form
        obtain ⟨A105, c106, rfl, -⟩ := r107.form
        have hO : Obs _ _ [_, _] := hO
        refine wpn_al hO fun b108 σ hO => ?_
        have hO : Obs _ _ [_, _, _] := hO
        refine wpn_st hO (i := 2) rfl (off := 0) rfl rfl rfl rfl (Nat.le_of_ble_eq_true rfl) rfl fun σ hO => ?_
        have hO : Obs _ _ [_, _, _] := hO
        refine wpn_nil ?_
        refine wpn_p2r ?_
        refine wpn_q hO 4 [2, 2] [(7, .pointer (some ⟨b4, 0, none⟩)), (9, .int .i64 x59), (39, .slice A47 x50.length c48), (40, .agg #[(.int .i64 c96.1.From), (.int .i64 c96.1.To), (.int .i64 c96.1.Up), (.slice A102 c96.1.Regs.length c103)]), (43, .pointer (some ⟨b108, 1, none⟩)), (44, .int .i64 c96.1.To)] (And.intro (And.intro rfl rfl) (And.intro (And.intro rfl rfl) (ar (ar (ar (ar (ar (ar trivial)))))))) fun j => ?_
        refine wpn_late ?_
        refine wpn_lit (T := zd) (l := ([(⟨c96.1.From, c96.1.To, c96.1.Up, c96.1.Regs⟩ : za)] : List za)) (cs := [.int .i64 c96.1.From, .int .i64 c96.1.To, .int .i64 c96.1.Up, .slice A102 c96.1.Regs.length c103]) hO rfl ⟨[.int .i64 c96.1.From, .int .i64 c96.1.To, .int .i64 c96.1.Up, .slice A102 c96.1.Regs.length c103], _, rfl, ⟨_, rfl, r101⟩, rfl⟩ rfl (by decide) fun _ σ o111 w112 hO => ?_
        obtain ⟨A109, c110, rfl, -⟩ := w112.form
        have hO : Obs _ _ [_, _, _, _] := hO
        refine wpn_nil ?_
        refine wpn_ag ⟨(again_ld rfl (hO.val (i := 2) (off := 1) (agg := false) (n := 1) rfl rfl) rfl), trivial⟩ ?_
        refine wpn_late ?_
        obtain ⟨_, h114, r113, hO⟩ := w112.share hO (i := 3) rfl
        have hL := hL.trans h114
        have w51 := w51.le h114
        have r101 := r101.le h114
        have r107 := r107.le h114
        have hO : Obs _ _ [_, _, _, _] := hO
        obtain ⟨_, hr, hF⟩ := bind_some hF
        refine wpn_apl (T := zd) hO w51 (i := 0) rfl rfl rfl r113 hr (by decide) fun _ σ o117 w118 hO => ?_
        obtain ⟨A115, c116, rfl, -⟩ := w118.form
        have hO : Obs _ _ [_, _, _, _] := hO
        refine wpn_nil ?_
        refine wpn_ag ⟨(again_ld rfl (hO.val (i := 2) (off := 1) (agg := false) (n := 1) rfl rfl) rfl), trivial⟩ ?_
        refine wpn_late ?_
        refine wpn_qa hO [] [(4, .slice A115 (x50 ++ ([(⟨c96.1.From, c96.1.To, c96.1.Up, c96.1.Regs⟩ : za)] : List za)).length c116), (7, .pointer (some ⟨b4, 0, none⟩)), (9, .int .i64 x59), (43, .pointer (some ⟨b108, 1, none⟩)), (44, .int .i64 c96.1.To)] (ar (ar (ar (ar (ar trivial))))) fun j => ?_
        refine wpn_ag ⟨(again_ld rfl (hO.val (i := 2) (off := 1) (agg := false) (n := 1) rfl rfl) rfl), trivial⟩ ?_
        refine wpn_qa hO [] [(4, .slice A115 (x50 ++ ([(⟨c96.1.From, c96.1.To, c96.1.Up, c96.1.Regs⟩ : za)] : List za)).length c116), (7, .pointer (some ⟨b4, 0, none⟩)), (8, .int .i64 c96.1.To), (9, .int .i64 x59)] (ar (ar (ar (ar trivial)))) fun j => ?_
        refine wpn_rlast ?_
        refine wpn_q hO 10 [1] [(4, .slice A115 (x50 ++ ([(⟨c96.1.From, c96.1.To, c96.1.Up, c96.1.Regs⟩ : za)] : List za)).length c116), (7, .pointer (some ⟨b4, 0, none⟩)), (8, .int .i64 c96.1.To), (9, .int .i64 x59), (53, .bool (c96.2.failed || (decide (c96.1.To > 16777216)))), (55, .pointer (some ⟨b4, 2, none⟩))] (And.intro (And.intro rfl rfl) (And.intro (And.intro rfl rfl) (fun _ => ar (ar (ar (ar (ar (ar trivial)))))))) fun j => ?_
        refine wpn_st hO (i := 1) rfl (off := 2) rfl rfl rfl rfl (Nat.le_of_ble_eq_true rfl) rfl fun σ hO => ?_
        have hO : Obs _ _ [_, _, _, _] := hO
        refine wpn_nil ?_
        refine wpn_end ?_
        refine inb_i ?_
        refine thn_i ?_
        refine wpn_rlast ?_
        refine wpn_qa hO [] [(4, .slice A115 (x50 ++ ([(⟨c96.1.From, c96.1.To, c96.1.Up, c96.1.Regs⟩ : za)] : List za)).length c116), (7, .pointer (some ⟨b4, 0, none⟩)), (8, .int .i64 c96.1.To), (9, .int .i64 (IntKind.i64.wrap (x59 - 1)))] (ar (ar (ar (ar trivial)))) fun j => ?_
        refine wpn_end ?_
        refine thn_i ?_
        have hO := hO.sel [0, 1] (by decide)
        exact ⟨n94, Nat.lt_succ_self _, A115, c116, o117, (x50 ++ ([(⟨c96.1.From, c96.1.To, c96.1.Up, c96.1.Regs⟩ : za)] : List za)), A105, c106, c96.2.b, c96.2.at_, (c96.2.failed || (decide (c96.1.To > 16777216))), c96.1.To, (IntKind.i64.wrap (x59 - 1)), _, ar (ar (ar (ar trivial))), hO, hL, w118, r107, hF⟩
      · refine wpn_cF (congrArg Value.bool hb95) ?_
        refine wpn_ex ?_
        refine thn_x ?_
        refine inb_x ?_
        refine thn_i ?_
        refine wpn_assoc ?_
        refine wpn_q hO 5 [1] [(4, .slice A47 x50.length c48), (7, .pointer (some ⟨b4, 0, none⟩)), (60, .bool x57)] (And.intro (And.intro rfl rfl) (ar (ar (ar trivial)))) fun j => ?_
        obtain ⟨_, h120, r119, hO⟩ := w51.share hO (i := 0) rfl
        have hL := hL.trans h120
        have r55 := r55.le h120
        have hO : Obs _ _ [_, _] := hO
        have hO := hO.sel [1] (by decide)
        have hO : Obs _ _ [_] := hO
        obtain ⟨c121, h122, hF⟩ := bind_some hF
        refine wpn_mid 2 (fun e' σ' => ∃ (τ' : Hp), agr [(64, .bool c121), (4, .slice A47 x50.length c48), (7, .pointer (some ⟨b4, 0, none⟩))] e' ∧ Obs τ' σ' [some (b4, ⟨[.slice A52 x54.length c53, .int .i64 x56, .bool x57], 66, 3, true⟩)] ∧ Hp.le τ τ' ∧ RdT zd τ' (.slice A47 x50.length c48) x50 ∧ RdT Ty.u8 τ' (.slice A52 x54.length c53) x54) ?_ ?_
        · have hF := h122
          rcases ite_some hF with ⟨hb123, hF⟩ | ⟨hb123, hF⟩
          · refine wpn_gF (congrArg (fun x => isB (.bool x) false) hb123) ?_
            refine wpn_pk (congrArg Value.bool hb123) ?_
            refine wpn_nil ?_
            injection hF with hF
            subst hF
            refine wpn_end ?_
            exact ⟨rfl, _, ar (ar (ar trivial)), hO, hL, r119, r55⟩
          · refine wpn_gT (congrArg (fun x => isB (.bool x) false) hb123) ?_
            refine wpn_q hO 1 [] [(4, .slice A47 x50.length c48), (7, .pointer (some ⟨b4, 0, none⟩)), (60, .bool x57), (61, .slice A47 x50.length c48)] (ar (ar (ar (ar trivial)))) fun j => ?_
            obtain ⟨c124, h125, hF⟩ := bind_some hF
            refine wpn_c0 hO (zbA r119 h125) rfl fun _ σ _ _ hO h126 h127 => ?_
            have hL := hL.trans h126
            have r119 := r119.le h126
            have r55 := r55.le h126
            obtain ⟨rfl, rfl⟩ := h127
            have hO : Obs _ _ [_] := hO
            refine wpn_q hO 1 [] [(4, .slice A47 x50.length c48), (7, .pointer (some ⟨b4, 0, none⟩)), (60, .bool x57), (63, .bool (!c124))] (ar (ar (ar (ar trivial)))) fun j => ?_
            refine wpn_pk (congrArg Value.bool hb123) ?_
            refine wpn_nil ?_
            injection hF with hF
            subst hF
            refine wpn_end ?_
            exact ⟨rfl, _, ar (ar (ar trivial)), hO, hL, r119, r55⟩
        · rintro e σ ⟨_, hA, hO, hL, r119, r55⟩
          rw [← sets_agr _ _ hA]
          refine wpn_nil ?_
          rcases ite_some hF with ⟨hb128, hF⟩ | ⟨hb128, hF⟩
          · refine wpn_cT (congrArg Value.bool hb128) ?_
            refine wpn_assoc ?_
            refine wpn_qa hO [] [(4, .slice none 0 0), (5, .int .i64 0), (6, .int .i64 5)] (ar (ar (ar trivial))) fun j => ?_
            refine wpn_rt ?_
            injection hF with hF
            subst hF
            have hO := hO.sel [] (by decide)
            exact hQ _ _ _ _ _ rfl hO hL ⟨_, rfl, rfl, (RdT.nil _ _)⟩
          · refine wpn_cF (congrArg Value.bool hb128) ?_
            refine wpn_sk ?_
            refine wpn_p2r ?_
            refine wpn_q hO 5 [0] [(65, .slice A47 x50.length c48), (68, .pointer (some ⟨b4, 1, none⟩)), (69, .int .i64 x56)] (And.intro (And.intro rfl rfl) (ar (ar (ar trivial)))) fun j => ?_
            refine wpn_late ?_
            refine wpn_qa hO [] [(4, .slice A47 x50.length c48), (68, .pointer (some ⟨b4, 1, none⟩)), (69, .int .i64 x56)] (ar (ar (ar trivial))) fun j => ?_
            refine wpn_ag ⟨(again_ld rfl (hO.val (i := 0) (off := 1) (agg := false) (n := 1) rfl rfl) rfl), trivial⟩ ?_
            refine wpn_qa hO [] [(4, .slice A47 x50.length c48), (5, .int .i64 x56), (6, .int .i64 0)] (ar (ar (ar trivial))) fun j => ?_
            refine wpn_r1 ?_
            injection hF with hF
            subst hF
            have hO := hO.sel [] (by decide)
            exact hQ _ _ _ _ _ rfl hO hL ⟨_, rfl, rfl, r119⟩
theorem zbR {τ : Hp} {v0 : Value} {p0 : (List zb)} (r0 : RdT zf τ v0 p0) {rr : (List zb)} (hF : zbr p0 = some rr) :
    Ctr Try.prog 44 #[v0] τ [] (fun v τ' vs' => ∃ (v0 : Value) (o0 : Ob), v = v0 ∧ vs' = [o0] ∧ OwnO zf 50 τ' v0 rr o0) := by
  obtain ⟨A0, c0, rfl, -⟩ := r0.form
  refine ctr_of (args := [.slice A0 p0.length c0]) hm Try.func44 s44 rfl fun w0 σ hO Q hQ => ?_
  unfold zbr at hF
  obtain ⟨_, hr, hF⟩ := bind_some hF
  injection hF with hF
  subst hF
  have hL := Hp.le.refl τ
  show wpn _ _ a44.body _ _ _
  unfold a44
  dsimp only
  refine wpn_qa hO [] [(0, .slice A0 p0.length c0)] (ar trivial) fun j => ?_
  refine wpn_assoc ?_
  refine wpn_qa hO [] [(0, .slice A0 p0.length c0), (4, .bool A0.isNone)] (ar (ar trivial)) fun j => ?_
  rcases (Bool.eq_false_or_eq_true A0.isNone).symm with hA | hA
  · refine wpn_cF (congrArg Value.bool hA) ?_
    refine wpn_sk ?_
    refine wpn_lit (T := zf) (l := []) (cs := []) hO rfl rfl rfl (by decide) fun _ σ o1 w1 hO => ?_
    obtain ⟨A1, c1, rfl, -⟩ := w1.form
    refine wpn_q hO 1 [] [(5, .slice A1 0 c1), (6, .slice A0 p0.length c0)] (ar (ar trivial)) fun j => ?_
    refine wpn_apl (T := zf) hO w1 (i := 0) rfl rfl rfl r0 (by simpa using hr) (by decide) fun _ σ o2 w2 hO => ?_
    refine wpn_qa hO [] [(2, _)] (ar trivial) fun j => ?_
    refine wpn_r1 ?_
    exact hQ _ _ _ _ _ rfl hO hL ⟨_, _, rfl, rfl, w2⟩
  · refine wpn_cT (congrArg Value.bool hA) ?_
    have := r0.empty (by decide) hA
    subst this
    refine wpn_assoc ?_
    refine wpn_qa hO [] [(2, .slice none 0 0)] (ar trivial) fun j => ?_
    refine wpn_rt ?_
    have hO := hO.no
    exact hQ _ _ _ _ _ rfl hO hL ⟨_, _, rfl, rfl, OwnO.nil _ _ _⟩
theorem zbI {τ : Hp} {v0 : Value} {p0 : (List za)} {p1 : Int} (r0 : RdT zd τ v0 p0) {rr : za × Bool} (hF : zbc p0 p1 = some rr) :
    Ctr Try.prog 33 #[v0, .int .i64 p1] τ [] (fun v τ' vs' => ∃ (v0_3 : Value), v = .tuple #[.agg #[.int .i64 rr.1.From, .int .i64 rr.1.To, .int .i64 rr.1.Up, v0_3], .bool rr.2] ∧ vs' = [] ∧ RdT zf τ' v0_3 rr.1.Regs) := by
  obtain ⟨A0, c0, rfl, -⟩ := r0.form
  refine ctr_of (args := [.slice A0 p0.length c0, .int .i64 p1]) hm Try.func33 s33 rfl fun w0 σ hO Q hQ => ?_
  unfold zbc at hF
  have hL := Hp.le.refl τ
  show wpn _ _ a33.body _ _ _
  unfold a33
  dsimp only
  refine wpn_al hO fun b3 σ hO => ?_
  have hO : Obs _ _ [_] := hO
  refine wpn_qa hO [] [(0, .slice A0 p0.length c0), (1, .int .i64 p1), (4, .pointer (some ⟨b3, 0, none⟩))] (ar (ar (ar trivial))) fun j => ?_
  refine wpn_assoc ?_
  refine wpn_qa hO [] [(1, .int .i64 p1), (4, .pointer (some ⟨b3, 0, none⟩)), (8, .slice A0 p0.length c0), (9, .int .i64 (p0.length : Int)), (10, .int .i64 0)] (ar (ar (ar (ar (ar trivial))))) fun j => ?_
  refine wpn_bl ?_
  refine wpn_lp (fun (n : Nat) e' σ' => ∃ (x29 : Int) (τ' : Hp), agr [(1, .int .i64 p1), (4, .pointer (some ⟨b3, 0, none⟩)), (8, .slice A0 p0.length c0), (9, .int .i64 (p0.length : Int)), (10, .int .i64 x29)] e' ∧ Obs τ' σ' [some (b3, ⟨[.int .i64 0, .int .i64 0, .int .i64 0, .slice none 0 0], 48, 4, true⟩)] ∧ Hp.le τ τ' ∧ RdT zd τ' (.slice A0 p0.length c0) p0 ∧ zba p0 p1 n x29 = some rr) big ⟨0, _, ar (ar (ar (ar (ar trivial)))), hO, hL, r0, hF⟩ ?_
  clear hF hO hL
  rintro n53 e σ ⟨x29, _, hA, hO, hL, r28, hF⟩
  rw [← sets_agr _ _ hA]
  cases n53 with
  | zero => exact nomatch (show none = some rr from hF)
  | succ n53 =>
    replace hF : zK (zba p0 p1 n53) p0 p1 x29 = some rr := hF
    unfold zK at hF
    refine wpn_qa hO [] [(1, .int .i64 p1), (4, .pointer (some ⟨b3, 0, none⟩)), (8, .slice A0 p0.length c0), (9, .int .i64 (p0.length : Int)), (10, .int .i64 x29), (11, .bool (decide (x29 < (p0.length : Int))))] (ar (ar (ar (ar (ar (ar trivial)))))) fun j => ?_
    rcases ite_some hF with ⟨hb54, hF⟩ | ⟨hb54, hF⟩
    · refine wpn_cT (congrArg Value.bool hb54) ?_
      refine wpn_sk ?_
      refine wpn_bl ?_
      obtain ⟨y55, g56, hF⟩ := bind_some hF
      refine wpn_idx (T := zd) r28 hO.base rfl rfl g56 (by decide) fun a57 _ k58 m59 => ?_
      obtain ⟨v60, rfl, r61⟩ := k58
      obtain ⟨A62, c63, rfl, -⟩ := r61.form
      refine wpn_ld rfl ((m59.le hO.base).all rfl) ?_
      refine wpn_al hO fun b64 σ hO => ?_
      have hO : Obs _ _ [_, _] := hO
      refine wpn_st hO (i := 1) rfl (off := 0) rfl rfl rfl rfl (Nat.le_of_ble_eq_true rfl) rfl fun σ hO => ?_
      have hO : Obs _ _ [_, _] := hO
      refine wpn_nil ?_
      refine wpn_qa hO [1, 1] [(1, .int .i64 p1), (4, .pointer (some ⟨b3, 0, none⟩)), (7, .pointer (some ⟨b64, 0, none⟩)), (8, .slice A0 p0.length c0), (9, .int .i64 (p0.length : Int)), (10, .int .i64 x29), (23, .bool ((decide (y55.From ≤ p1)) && (decide (p1 < y55.To))))] (And.intro (And.intro rfl rfl) (And.intro (And.intro rfl rfl) (And.intro (And.intro rfl rfl) (fun _ => ar (ar (ar (ar (ar (ar (ar trivial)))))))))) fun j => ?_
      refine wpn_clast ?_
      rcases ite_some hF with ⟨hb65, hF⟩ | ⟨hb65, hF⟩
      · refine wpn_cT (congrArg Value.bool hb65) ?_
        refine wpn_assoc ?_
        refine wpn_q hO 2 [1] [(4, .pointer (some ⟨b3, 0, none⟩)), (7, .pointer (some ⟨b64, 0, none⟩)), (25, .slice A62 y55.Regs.length c63)] (And.intro (And.intro rfl rfl) (ar (ar (ar trivial)))) fun j => ?_
        obtain ⟨c66, h67, hF⟩ := bind_some hF
        refine wpn_c0 hO (zbR r61 h67) rfl fun _ σ _ _ hO h68 h69 => ?_
        have hL := hL.trans h68
        have r61 := r61.le h68
        obtain ⟨v70, o73, rfl, rfl, w74⟩ := h69
        obtain ⟨A71, c72, rfl, -⟩ := w74.form
        have hO : Obs _ _ [_, _, _] := hO
        refine wpn_q hO 1 [] [(4, .pointer (some ⟨b3, 0, none⟩)), (7, .pointer (some ⟨b64, 0, none⟩)), (26, .slice A71 c66.length c72), (27, .pointer (some ⟨b64, 3, none⟩))] (ar (ar (ar (ar trivial)))) fun j => ?_
        refine wpn_st hO (i := 1) rfl (off := 3) rfl rfl rfl rfl (Nat.le_of_ble_eq_true rfl) rfl fun σ hO => ?_
        have hO : Obs _ _ [_, _, _] := hO
        refine wpn_nil ?_
        refine wpn_assoc ?_
        refine wpn_q hO 1 [1] [(4, .pointer (some ⟨b3, 0, none⟩)), (28, .agg #[(.int .i64 y55.From), (.int .i64 y55.To), (.int .i64 y55.Up), (.slice A71 c66.length c72)])] (And.intro (And.intro rfl rfl) (ar (ar trivial))) fun j => ?_
        refine wpn_st hO (i := 0) rfl (off := 0) rfl rfl rfl rfl (Nat.le_of_ble_eq_true rfl) rfl fun σ hO => ?_
        have hO : Obs _ _ [_, _, _] := hO
        refine wpn_qa hO [] [(4, .pointer (some ⟨b3, 0, none⟩)), (5, .bool true)] (ar (ar trivial)) fun j => ?_
        refine wpn_rt ?_
        refine inb_r1 ?_
        refine thn_r1 ?_
        refine thn_r1 ?_
        refine inb_r1 ?_
        refine thn_r1 ?_
        obtain ⟨_, h76, r75, hO⟩ := w74.share hO (i := 2) rfl
        have hL := hL.trans h76
        have hO : Obs _ _ [_, _, _] := hO
        injection hF with hF
        subst hF
        have hV0 := hO.val (i := 0) rfl (off := 0) (agg := true) (n := 4) rfl
        have hO := hO.sel [] (by decide)
        exact hQ _ _ _ _ _ (resvs_c rfl (hV0) (resvs_t rfl)) hO hL ⟨_, rfl, rfl, r75⟩
      · refine wpn_cF (congrArg Value.bool hb65) ?_
        refine wpn_sk ?_
        refine wpn_end ?_
        refine inb_i ?_
        refine thn_i ?_
        refine wpn_rlast ?_
        refine wpn_qa hO [] [(1, .int .i64 p1), (4, .pointer (some ⟨b3, 0, none⟩)), (8, .slice A0 p0.length c0), (9, .int .i64 (p0.length : Int)), (10, .int .i64 (IntKind.i64.wrap (x29 + 1)))] (ar (ar (ar (ar (ar trivial))))) fun j => ?_
        refine wpn_end ?_
        refine thn_i ?_
        have hO := hO.sel [0] (by decide)
        exact ⟨n53, Nat.lt_succ_self _, (IntKind.i64.wrap (x29 + 1)), _, ar (ar (ar (ar (ar trivial)))), hO, hL, r28, hF⟩
    · refine wpn_cF (congrArg Value.bool hb54) ?_
      refine wpn_ex ?_
      refine thn_x ?_
      refine inb_x ?_
      refine thn_i ?_
      refine wpn_q hO 1 [] [(4, .pointer (some ⟨b3, 0, none⟩)), (30, .agg #[(.int .i64 0), (.int .i64 0), (.int .i64 0), (.slice none 0 0)])] (ar (ar trivial)) fun j => ?_
      refine wpn_st hO (i := 0) rfl (off := 0) rfl rfl rfl rfl (Nat.le_of_ble_eq_true rfl) rfl fun σ hO => ?_
      have hO : Obs _ _ [_] := hO
      refine wpn_qa hO [] [(4, .pointer (some ⟨b3, 0, none⟩)), (5, .bool false)] (ar (ar trivial)) fun j => ?_
      refine wpn_r1 ?_
      injection hF with hF
      subst hF
      have hV0 := hO.val (i := 0) rfl (off := 0) (agg := true) (n := 4) rfl
      have hO := hO.sel [] (by decide)
      exact hQ _ _ _ _ _ (resvs_c rfl (hV0) (resvs_t rfl)) hO hL ⟨_, rfl, rfl, (RdT.nil _ _)⟩
theorem zbJ {τ : Hp} {p0 : zc} {v0_0 : Value} {v0_1 : Value} {v0_3 : Value} {p1 : Int} (r0_0 : RdT Ty.bool τ v0_0 p0.Known) (r0_1 : RdT (Ty.int .i64) τ v0_1 p0.Regs) (r0_3 : RdT (Ty.int .i64) τ v0_3 p0.Words) {rr : Int × Bool} (hF : zz p0 p1 = some rr) :
    Ctr Try.prog 34 #[.agg #[v0_0, v0_1, .int .i64 p0.Base, v0_3], .int .i64 p1] τ [] (fun v τ' vs' => v = .tuple #[.int .i64 rr.1, .bool rr.2] ∧ vs' = []) := by
  obtain ⟨A0_0, c0_0, rfl, -⟩ := r0_0.form
  obtain ⟨A0_1, c0_1, rfl, -⟩ := r0_1.form
  obtain ⟨A0_3, c0_3, rfl, -⟩ := r0_3.form
  refine ctr_of (args := [.agg #[(.slice A0_0 p0.Known.length c0_0), (.slice A0_1 p0.Regs.length c0_1), .int .i64 p0.Base, (.slice A0_3 p0.Words.length c0_3)], .int .i64 p1]) hm Try.func34 s34 rfl fun w0 σ hO Q hQ => ?_
  unfold zz at hF
  have hL := Hp.le.refl τ
  show wpn _ _ a34.body _ _ _
  unfold a34
  dsimp only
  refine wpn_bx (n := 4) hO rfl rfl fun b3 σ hO => ?_
  have hO : Obs _ _ [_] := hO
  refine wpn_qa hO [] [(1, .int .i64 p1), (2, .pointer (some ⟨b3, 0, none⟩))] (ar (ar trivial)) fun j => ?_
  refine wpn_bl ?_
  refine wpn_q hO 6 [0] [(1, .int .i64 p1), (2, .pointer (some ⟨b3, 0, none⟩)), (12, .bool (decide (p1 ≥ (p0.Known.length : Int))))] (And.intro (And.intro rfl rfl) (ar (ar (ar trivial)))) fun j => ?_
  obtain ⟨c4, h5, hF⟩ := bind_some hF
  refine wpn_midq 2 [(19, .bool c4), (1, .int .i64 p1), (2, .pointer (some ⟨b3, 0, none⟩))] (fun Q hQ => ?_) fun j => ?_
  · have hF := h5
    rcases ite_some hF with ⟨hb6, hF⟩ | ⟨hb6, hF⟩
    · refine wpn_gF (congrArg (fun x => isB (.bool x) false) hb6) ?_
      refine wpn_pk (congrArg Value.bool hb6) ?_
      refine wpn_nil ?_
      injection hF with hF
      subst hF
      refine wpn_end ?_
      exact hQ _ (ar (ar (ar trivial)))
    · refine wpn_gT (congrArg (fun x => isB (.bool x) false) hb6) ?_
      refine wpn_q hO 3 [0] [(1, .int .i64 p1), (2, .pointer (some ⟨b3, 0, none⟩)), (12, .bool (decide (p1 ≥ (p0.Known.length : Int)))), (14, .slice A0_0 p0.Known.length c0_0), (15, .int .i64 p1)] (And.intro (And.intro rfl rfl) (ar (ar (ar (ar (ar trivial)))))) fun j => ?_
      obtain ⟨y7, g8, hF⟩ := bind_some hF
      refine wpn_idx (T := Ty.bool) r0_0 hO.base rfl rfl g8 (by decide) fun a9 _ k10 m11 => ?_
      obtain rfl : _ = ([.bool y7] : List Value) := k10
      refine wpn_ld rfl (m11.le hO.base).fst ?_
      refine wpn_q hO 1 [] [(1, .int .i64 p1), (2, .pointer (some ⟨b3, 0, none⟩)), (12, .bool (decide (p1 ≥ (p0.Known.length : Int)))), (18, .bool (!y7))] (ar (ar (ar (ar trivial)))) fun j => ?_
      refine wpn_pk (congrArg Value.bool hb6) ?_
      refine wpn_nil ?_
      injection hF with hF
      subst hF
      refine wpn_end ?_
      exact hQ _ (ar (ar (ar trivial)))
  · refine wpn_qa hO [] [(1, .int .i64 p1), (2, .pointer (some ⟨b3, 0, none⟩)), (6, .bool c4)] (ar (ar (ar trivial))) fun j => ?_
    refine wpn_clast ?_
    rcases ite_some hF with ⟨hb12, hF⟩ | ⟨hb12, hF⟩
    · refine wpn_cT (congrArg Value.bool hb12) ?_
      refine wpn_assoc ?_
      refine wpn_qa hO [] [(4, .int .i64 0), (5, .bool false)] (ar (ar trivial)) fun j => ?_
      refine wpn_rt ?_
      refine inb_r1 ?_
      refine thn_r1 ?_
      injection hF with hF
      subst hF
      have hO := hO.sel [] (by decide)
      exact hQ _ _ _ _ _ rfl hO hL ⟨rfl, rfl⟩
    · refine wpn_cF (congrArg Value.bool hb12) ?_
      refine wpn_assoc ?_
      refine wpn_qa hO [0] [(1, .int .i64 p1), (2, .pointer (some ⟨b3, 0, none⟩)), (20, .bool (decide (p1 ≥ (p0.Regs.length : Int))))] (And.intro (And.intro rfl rfl) (ar (ar (ar trivial)))) fun j => ?_
      rcases ite_some hF with ⟨hb13, hF⟩ | ⟨hb13, hF⟩
      · refine wpn_cT (congrArg Value.bool hb13) ?_
        refine wpn_assoc ?_
        refine wpn_qa hO [] [(4, .int .i64 0), (5, .bool true)] (ar (ar trivial)) fun j => ?_
        refine wpn_rt ?_
        refine inb_r1 ?_
        refine thn_r1 ?_
        injection hF with hF
        subst hF
        have hO := hO.sel [] (by decide)
        exact hQ _ _ _ _ _ rfl hO hL ⟨rfl, rfl⟩
      · refine wpn_cF (congrArg Value.bool hb13) ?_
        refine wpn_sk ?_
        refine wpn_end ?_
        refine inb_i ?_
        refine thn_i ?_
        refine wpn_q hO 3 [0] [(27, .slice A0_1 p0.Regs.length c0_1), (28, .int .i64 p1)] (And.intro (And.intro rfl rfl) (ar (ar trivial))) fun j => ?_
        obtain ⟨y14, g15, hF⟩ := bind_some hF
        refine wpn_idx (T := (Ty.int .i64)) r0_1 hO.base rfl rfl g15 (by decide) fun a16 _ k17 m18 => ?_
        obtain rfl : _ = ([.int .i64 y14] : List Value) := k17
        refine wpn_ld rfl (m18.le hO.base).fst ?_
        refine wpn_qa hO [] [(4, .int .i64 y14), (5, .bool true)] (ar (ar trivial)) fun j => ?_
        refine wpn_r1 ?_
        injection hF with hF
        subst hF
        have hO := hO.sel [] (by decide)
        exact hQ _ _ _ _ _ rfl hO hL ⟨rfl, rfl⟩
theorem zb5 {τ : Hp} {v0 : Value} {p0 : (List Bool)} (r0 : RdT Ty.bool τ v0 p0) {rr : (List Bool)} (hF : zZ p0 = some rr) :
    Ctr Try.prog 35 #[v0] τ [] (fun v τ' vs' => ∃ (v0 : Value) (o0 : Ob), v = v0 ∧ vs' = [o0] ∧ OwnO Ty.bool 4 τ' v0 rr o0) := by
  obtain ⟨A0, c0, rfl, -⟩ := r0.form
  refine ctr_of (args := [.slice A0 p0.length c0]) hm Try.func35 s35 rfl fun w0 σ hO Q hQ => ?_
  unfold zZ at hF
  have hL := Hp.le.refl τ
  show wpn _ _ a35.body _ _ _
  unfold a35
  dsimp only
  refine wpn_qa hO [] [(0, .slice A0 p0.length c0)] (ar trivial) fun j => ?_
  refine wpn_q hO 2 [] [(0, .slice A0 p0.length c0), (5, .int .i64 (p0.length : Int))] (ar (ar trivial)) fun j => ?_
  obtain ⟨y2, g3, hF⟩ := bind_some hF
  refine wpn_mkb (T := Ty.bool) hO rfl rfl g3 (show _ = _ from rfl) (by decide) fun b8 c5 σ o6 w7 hO => ?_
  have hO : Obs _ _ [_] := hO
  refine wpn_qa hO [] [(0, .slice A0 p0.length c0), (3, .slice (some ⟨b8, 0, none⟩) y2.length c5)] (ar (ar trivial)) fun j => ?_
  refine wpn_q hO 2 [] [(3, .slice (some ⟨b8, 0, none⟩) y2.length c5), (7, .slice (some ⟨b8, 0, none⟩) y2.length c5), (8, .slice A0 p0.length c0)] (ar (ar (ar trivial))) fun j => ?_
  refine wpn_cp (T := Ty.bool) hO w7 (i := 0) rfl rfl r0 rfl fun σ o9 w10 hO => ?_
  have hO : Obs _ _ [_] := hO
  refine wpn_nil ?_
  refine wpn_qa hO [] [(2, .slice (some ⟨b8, 0, none⟩) y2.length c5)] (ar trivial) fun j => ?_
  refine wpn_r1 ?_
  injection hF with hF
  subst hF
  exact hQ _ _ _ _ _ rfl hO hL ⟨_, _, rfl, rfl, w10⟩
theorem zbK {τ : Hp} {v0 : Value} {p0 : (List Int)} (r0 : RdT (Ty.int .i64) τ v0 p0) {rr : (List Int)} (hF : zy p0 = some rr) :
    Ctr Try.prog 36 #[v0] τ [] (fun v τ' vs' => ∃ (v0 : Value) (o0 : Ob), v = v0 ∧ vs' = [o0] ∧ OwnO (Ty.int .i64) 2 τ' v0 rr o0) := by
  obtain ⟨A0, c0, rfl, -⟩ := r0.form
  refine ctr_of (args := [.slice A0 p0.length c0]) hm Try.func36 s36 rfl fun w0 σ hO Q hQ => ?_
  unfold zy at hF
  have hL := Hp.le.refl τ
  show wpn _ _ a36.body _ _ _
  unfold a36
  dsimp only
  refine wpn_qa hO [] [(0, .slice A0 p0.length c0)] (ar trivial) fun j => ?_
  refine wpn_q hO 2 [] [(0, .slice A0 p0.length c0), (5, .int .i64 (p0.length : Int))] (ar (ar trivial)) fun j => ?_
  obtain ⟨y2, g3, hF⟩ := bind_some hF
  refine wpn_mkb (T := (Ty.int .i64)) hO rfl rfl g3 (show _ = _ from rfl) (by decide) fun b8 c5 σ o6 w7 hO => ?_
  have hO : Obs _ _ [_] := hO
  refine wpn_qa hO [] [(0, .slice A0 p0.length c0), (3, .slice (some ⟨b8, 0, none⟩) y2.length c5)] (ar (ar trivial)) fun j => ?_
  refine wpn_q hO 2 [] [(3, .slice (some ⟨b8, 0, none⟩) y2.length c5), (7, .slice (some ⟨b8, 0, none⟩) y2.length c5), (8, .slice A0 p0.length c0)] (ar (ar (ar trivial))) fun j => ?_
  refine wpn_cp (T := (Ty.int .i64)) hO w7 (i := 0) rfl rfl r0 rfl fun σ o9 w10 hO => ?_
  have hO : Obs _ _ [_] := hO
  refine wpn_nil ?_
  refine wpn_qa hO [] [(2, .slice (some ⟨b8, 0, none⟩) y2.length c5)] (ar trivial) fun j => ?_
  refine wpn_r1 ?_
  injection hF with hF
  subst hF
  exact hQ _ _ _ _ _ rfl hO hL ⟨_, _, rfl, rfl, w10⟩
theorem zbL {τ : Hp} {v0 : Value} {p0 : (List za)} {p1 : Int} {p2 : zc} {v2_0 : Value} {v2_1 : Value} {v2_3 : Value} (r0 : RdT zd τ v0 p0) (r2_0 : RdT Ty.bool τ v2_0 p2.Known) (r2_1 : RdT (Ty.int .i64) τ v2_1 p2.Regs) (r2_3 : RdT (Ty.int .i64) τ v2_3 p2.Words) {rr : zc × Int} (hF : zm p0 p1 p2 = some rr) :
    Ctr Try.prog 22 #[v0, .int .i64 p1, .agg #[v2_0, v2_1, .int .i64 p2.Base, v2_3]] τ [] (fun v τ' vs' => ∃ (v0_0 : Value) (v0_1 : Value) (v0_3 : Value), v = .tuple #[.agg #[v0_0, v0_1, .int .i64 rr.1.Base, v0_3], .int .i64 rr.2] ∧ vs' = [] ∧ RdT Ty.bool τ' v0_0 rr.1.Known ∧ RdT (Ty.int .i64) τ' v0_1 rr.1.Regs ∧ RdT (Ty.int .i64) τ' v0_3 rr.1.Words) := by
  obtain ⟨A0, c0, rfl, -⟩ := r0.form
  obtain ⟨A2_0, c2_0, rfl, -⟩ := r2_0.form
  obtain ⟨A2_1, c2_1, rfl, -⟩ := r2_1.form
  obtain ⟨A2_3, c2_3, rfl, -⟩ := r2_3.form
  refine ctr_of (args := [.slice A0 p0.length c0, .int .i64 p1, .agg #[(.slice A2_0 p2.Known.length c2_0), (.slice A2_1 p2.Regs.length c2_1), .int .i64 p2.Base, (.slice A2_3 p2.Words.length c2_3)]]) hm Try.func22 s22 rfl fun w0 σ hO Q hQ => ?_
  unfold zm at hF
  have hL := Hp.le.refl τ
  show wpn _ _ a22.body _ _ _
  unfold a22
  dsimp only
  refine wpn_bx (n := 4) hO rfl rfl fun b4 σ hO => ?_
  have hO : Obs _ _ [_] := hO
  refine wpn_al hO fun b5 σ hO => ?_
  have hO : Obs _ _ [_, _] := hO
  refine wpn_qa hO [] [(0, .slice A0 p0.length c0), (1, .int .i64 p1), (5, .pointer (some ⟨b4, 0, none⟩)), (6, .pointer (some ⟨b5, 0, none⟩))] (ar (ar (ar (ar trivial)))) fun j => ?_
  refine wpn_q hO 2 [] [(5, .pointer (some ⟨b4, 0, none⟩)), (6, .pointer (some ⟨b5, 0, none⟩)), (13, .slice A0 p0.length c0), (14, .int .i64 p1)] (ar (ar (ar (ar trivial)))) fun j => ?_
  obtain ⟨c6, h7, hF⟩ := bind_some hF
  refine wpn_c0 hO (zbI r0 h7) rfl fun _ σ _ _ hO h8 h9 => ?_
  have hL := hL.trans h8
  have r0 := r0.le h8
  have r2_0 := r2_0.le h8
  have r2_1 := r2_1.le h8
  have r2_3 := r2_3.le h8
  obtain ⟨v10, rfl, rfl, r11⟩ := h9
  obtain ⟨A12, c13, rfl, -⟩ := r11.form
  have hO : Obs _ _ [_, _] := hO
  refine wpn_q hO 3 [] [(5, .pointer (some ⟨b4, 0, none⟩)), (6, .pointer (some ⟨b5, 0, none⟩)), (16, .agg #[(.int .i64 c6.1.From), (.int .i64 c6.1.To), (.int .i64 c6.1.Up), (.slice A12 c6.1.Regs.length c13)]), (17, .bool c6.2)] (ar (ar (ar (ar trivial)))) fun j => ?_
  refine wpn_al hO fun b14 σ hO => ?_
  have hO : Obs _ _ [_, _, _] := hO
  refine wpn_st hO (i := 2) rfl (off := 0) rfl rfl rfl rfl (Nat.le_of_ble_eq_true rfl) rfl fun σ hO => ?_
  have hO : Obs _ _ [_, _, _] := hO
  refine wpn_qa hO [] [(5, .pointer (some ⟨b4, 0, none⟩)), (6, .pointer (some ⟨b5, 0, none⟩)), (8, .pointer (some ⟨b14, 0, none⟩)), (9, .bool c6.2)] (ar (ar (ar (ar trivial)))) fun j => ?_
  refine wpn_q hO 1 [0] [(5, .pointer (some ⟨b4, 0, none⟩)), (6, .pointer (some ⟨b5, 0, none⟩)), (8, .pointer (some ⟨b14, 0, none⟩)), (9, .bool c6.2), (19, .agg #[(.slice A2_0 p2.Known.length c2_0), (.slice A2_1 p2.Regs.length c2_1), (.int .i64 p2.Base), (.slice A2_3 p2.Words.length c2_3)])] (And.intro (And.intro rfl rfl) (ar (ar (ar (ar (ar trivial)))))) fun j => ?_
  obtain ⟨c15, h16, hF⟩ := bind_some hF
  refine wpn_c0 hO (zbJ r2_0 r2_1 r2_3 h16) rfl fun _ σ _ _ hO h17 h18 => ?_
  have hL := hL.trans h17
  have r2_0 := r2_0.le h17
  have r2_1 := r2_1.le h17
  have r2_3 := r2_3.le h17
  have r11 := r11.le h17
  obtain ⟨rfl, rfl⟩ := h18
  have hO : Obs _ _ [_, _, _] := hO
  refine wpn_qa hO [] [(5, .pointer (some ⟨b4, 0, none⟩)), (6, .pointer (some ⟨b5, 0, none⟩)), (8, .pointer (some ⟨b14, 0, none⟩)), (9, .bool c6.2), (10, .int .i64 c15.1), (11, .bool c15.2)] (ar (ar (ar (ar (ar (ar trivial)))))) fun j => ?_
  refine wpn_assoc ?_
  refine wpn_qa hO [] [(5, .pointer (some ⟨b4, 0, none⟩)), (6, .pointer (some ⟨b5, 0, none⟩)), (8, .pointer (some ⟨b14, 0, none⟩)), (10, .int .i64 c15.1), (28, .bool ((!c6.2) || (!c15.2)))] (And.intro (And.intro rfl rfl) (fun _ => ar (ar (ar (ar (ar trivial)))))) fun j => ?_
  rcases ite_some hF with ⟨hb19, hF⟩ | ⟨hb19, hF⟩
  · refine wpn_cT (congrArg Value.bool hb19) ?_
    refine wpn_assoc ?_
    refine wpn_q hO 1 [] [(6, .pointer (some ⟨b5, 0, none⟩)), (29, .agg #[(.slice none 0 0), (.slice none 0 0), (.int .i64 0), (.slice none 0 0)])] (ar (ar trivial)) fun j => ?_
    refine wpn_st hO (i := 1) rfl (off := 0) rfl rfl rfl rfl (Nat.le_of_ble_eq_true rfl) rfl fun σ hO => ?_
    have hO : Obs _ _ [_, _, _] := hO
    refine wpn_qa hO [] [(6, .pointer (some ⟨b5, 0, none⟩)), (7, .int .i64 4)] (ar (ar trivial)) fun j => ?_
    refine wpn_rt ?_
    injection hF with hF
    subst hF
    have hV0 := hO.val (i := 1) rfl (off := 0) (agg := true) (n := 4) rfl
    have hO := hO.sel [] (by decide)
    exact hQ _ _ _ _ _ (resvs_c rfl (hV0) (resvs_t rfl)) hO hL ⟨_, _, _, rfl, rfl, (RdT.nil _ _), (RdT.nil _ _), (RdT.nil _ _)⟩
  · refine wpn_cF (congrArg Value.bool hb19) ?_
    refine wpn_sk ?_
    refine wpn_p2r ?_
    refine wpn_q hO 10 [0, 0, 2, 0] [(6, .pointer (some ⟨b5, 0, none⟩)), (31, .slice A2_0 p2.Known.length c2_0), (33, .pointer (some ⟨b4, 1, none⟩)), (34, .slice A2_1 p2.Regs.length c2_1), (37, .pointer (some ⟨b14, 2, none⟩)), (38, .int .i64 c6.1.Up), (39, .int .i64 (IntKind.i64.wrap (c15.1 + c6.1.Up))), (40, .pointer (some ⟨b4, 3, none⟩)), (41, .slice A2_3 p2.Words.length c2_3)] (And.intro (And.intro rfl rfl) (And.intro (And.intro rfl rfl) (And.intro (And.intro rfl rfl) (And.intro (And.intro rfl rfl) (ar (ar (ar (ar (ar (ar (ar (ar (ar trivial))))))))))))) fun j => ?_
    refine wpn_late ?_
    obtain ⟨c20, h21, hF⟩ := bind_some hF
    refine wpn_c0 hO (zb5 r2_0 h21) rfl fun _ σ _ _ hO h22 h23 => ?_
    have hL := hL.trans h22
    have r2_0 := r2_0.le h22
    have r2_1 := r2_1.le h22
    have r2_3 := r2_3.le h22
    have r11 := r11.le h22
    obtain ⟨v24, o27, rfl, rfl, w28⟩ := h23
    obtain ⟨A25, c26, rfl, -⟩ := w28.form
    have hO : Obs _ _ [_, _, _, _] := hO
    refine wpn_nil ?_
    refine wpn_ag ⟨(again_ld rfl (hO.val (i := 0) (off := 3) (agg := false) (n := 1) rfl rfl) rfl), (again_ld rfl (hO.val (i := 2) (off := 2) (agg := false) (n := 1) rfl rfl) rfl), (again_ld rfl (hO.val (i := 0) (off := 1) (agg := false) (n := 1) rfl rfl) rfl), trivial⟩ ?_
    refine wpn_late ?_
    obtain ⟨c29, h30, hF⟩ := bind_some hF
    refine wpn_c0 hO (zbK r2_1 h30) rfl fun _ σ _ _ hO h31 h32 => ?_
    have hL := hL.trans h31
    have r2_0 := r2_0.le h31
    have w28 := w28.le h31
    have r2_1 := r2_1.le h31
    have r2_3 := r2_3.le h31
    have r11 := r11.le h31
    obtain ⟨v33, o36, rfl, rfl, w37⟩ := h32
    obtain ⟨A34, c35, rfl, -⟩ := w37.form
    have hO : Obs _ _ [_, _, _, _, _] := hO
    refine wpn_nil ?_
    refine wpn_ag ⟨(again_ld rfl (hO.val (i := 0) (off := 3) (agg := false) (n := 1) rfl rfl) rfl), (again_ld rfl (hO.val (i := 2) (off := 2) (agg := false) (n := 1) rfl rfl) rfl), trivial⟩ ?_
    refine wpn_late ?_
    obtain ⟨c38, h39, hF⟩ := bind_some hF
    refine wpn_c0 hO (zbK r2_3 h39) rfl fun _ σ _ _ hO h40 h41 => ?_
    have hL := hL.trans h40
    have r2_0 := r2_0.le h40
    have w28 := w28.le h40
    have r2_1 := r2_1.le h40
    have w37 := w37.le h40
    have r2_3 := r2_3.le h40
    have r11 := r11.le h40
    obtain ⟨v42, o45, rfl, rfl, w46⟩ := h41
    obtain ⟨A43, c44, rfl, -⟩ := w46.form
    have hO : Obs _ _ [_, _, _, _, _, _] := hO
    refine wpn_nil ?_
    refine wpn_ag ⟨(again_ld rfl (hO.val (i := 2) (off := 2) (agg := false) (n := 1) rfl rfl) rfl), trivial⟩ ?_
    refine wpn_q hO 1 [] [(6, .pointer (some ⟨b5, 0, none⟩)), (43, .agg #[(.slice A25 c20.length c26), (.slice A34 c29.length c35), (.int .i64 (IntKind.i64.wrap (c15.1 + c6.1.Up))), (.slice A43 c38.length c44)])] (ar (ar trivial)) fun j => ?_
    refine wpn_st hO (i := 1) rfl (off := 0) rfl rfl rfl rfl (Nat.le_of_ble_eq_true rfl) rfl fun σ hO => ?_
    have hO : Obs _ _ [_, _, _, _, _, _] := hO
    refine wpn_qa hO [] [(6, .pointer (some ⟨b5, 0, none⟩)), (7, .int .i64 0)] (ar (ar trivial)) fun j => ?_
    refine wpn_r1 ?_
    obtain ⟨_, h48, r47, hO⟩ := w28.share hO (i := 3) rfl
    have hL := hL.trans h48
    have r2_0 := r2_0.le h48
    have r2_1 := r2_1.le h48
    have r2_3 := r2_3.le h48
    have w37 := w37.le h48
    have w46 := w46.le h48
    have r11 := r11.le h48
    have hO : Obs _ _ [_, _, _, _, _, _] := hO
    obtain ⟨_, h50, r49, hO⟩ := w37.share hO (i := 4) rfl
    have hL := hL.trans h50
    have r2_0 := r2_0.le h50
    have r2_1 := r2_1.le h50
    have r2_3 := r2_3.le h50
    have r47 := r47.le h50
    have w46 := w46.le h50
    have r11 := r11.le h50
    have hO : Obs _ _ [_, _, _, _, _, _] := hO
    obtain ⟨_, h52, r51, hO⟩ := w46.share hO (i := 5) rfl
    have hL := hL.trans h52
    have r2_0 := r2_0.le h52
    have r2_1 := r2_1.le h52
    have r2_3 := r2_3.le h52
    have r47 := r47.le h52
    have r49 := r49.le h52
    have r11 := r11.le h52
    have hO : Obs _ _ [_, _, _, _, _, _] := hO
    injection hF with hF
    subst hF
    have hV0 := hO.val (i := 1) rfl (off := 0) (agg := true) (n := 4) rfl
    have hO := hO.sel [] (by decide)
    exact hQ _ _ _ _ _ (resvs_c rfl (hV0) (resvs_t rfl)) hO hL ⟨_, _, _, rfl, rfl, r47, r49, r51⟩
theorem zbH {τ : Hp} {p0 : zc} {v0_0 : Value} {v0_1 : Value} {v0_3 : Value} {p1 : Int} (r0_0 : RdT Ty.bool τ v0_0 p0.Known) (r0_1 : RdT (Ty.int .i64) τ v0_1 p0.Regs) (r0_3 : RdT (Ty.int .i64) τ v0_3 p0.Words) {rr : Int × Bool} (hF : zt p0 p1 = some rr) :
    Ctr Try.prog 37 #[.agg #[v0_0, v0_1, .int .i64 p0.Base, v0_3], .int .i64 p1] τ [] (fun v τ' vs' => v = .tuple #[.int .i64 rr.1, .bool rr.2] ∧ vs' = []) := by
  obtain ⟨A0_0, c0_0, rfl, -⟩ := r0_0.form
  obtain ⟨A0_1, c0_1, rfl, -⟩ := r0_1.form
  obtain ⟨A0_3, c0_3, rfl, -⟩ := r0_3.form
  refine ctr_of (args := [.agg #[(.slice A0_0 p0.Known.length c0_0), (.slice A0_1 p0.Regs.length c0_1), .int .i64 p0.Base, (.slice A0_3 p0.Words.length c0_3)], .int .i64 p1]) hm Try.func37 s37 rfl fun w0 σ hO Q hQ => ?_
  unfold zt at hF
  have hL := Hp.le.refl τ
  show wpn _ _ a37.body _ _ _
  unfold a37
  dsimp only
  refine wpn_bx (n := 4) hO rfl rfl fun b3 σ hO => ?_
  have hO : Obs _ _ [_] := hO
  refine wpn_qa hO [] [(1, .int .i64 p1), (2, .pointer (some ⟨b3, 0, none⟩))] (ar (ar trivial)) fun j => ?_
  refine wpn_assoc ?_
  refine wpn_qa hO [0] [(1, .int .i64 p1), (2, .pointer (some ⟨b3, 0, none⟩)), (14, .bool ((decide (p1 < 0)) || (decide (p1 ≥ (p0.Words.length : Int)))))] (And.intro (And.intro rfl rfl) (And.intro (And.intro rfl rfl) (fun _ => ar (ar (ar trivial))))) fun j => ?_
  rcases ite_some hF with ⟨hb4, hF⟩ | ⟨hb4, hF⟩
  · refine wpn_cT (congrArg Value.bool hb4) ?_
    refine wpn_assoc ?_
    refine wpn_qa hO [] [(4, .int .i64 0), (5, .bool false)] (ar (ar trivial)) fun j => ?_
    refine wpn_rt ?_
    injection hF with hF
    subst hF
    have hO := hO.sel [] (by decide)
    exact hQ _ _ _ _ _ rfl hO hL ⟨rfl, rfl⟩
  · refine wpn_cF (congrArg Value.bool hb4) ?_
    refine wpn_sk ?_
    refine wpn_q hO 3 [0] [(16, .slice A0_3 p0.Words.length c0_3), (17, .int .i64 p1)] (And.intro (And.intro rfl rfl) (ar (ar trivial))) fun j => ?_
    obtain ⟨y5, g6, hF⟩ := bind_some hF
    refine wpn_idx (T := (Ty.int .i64)) r0_3 hO.base rfl rfl g6 (by decide) fun a7 _ k8 m9 => ?_
    obtain rfl : _ = ([.int .i64 y5] : List Value) := k8
    refine wpn_ld rfl (m9.le hO.base).fst ?_
    refine wpn_qa hO [] [(4, .int .i64 y5), (5, .bool true)] (ar (ar trivial)) fun j => ?_
    refine wpn_r1 ?_
    injection hF with hF
    subst hF
    have hO := hO.sel [] (by decide)
    exact hQ _ _ _ _ _ rfl hO hL ⟨rfl, rfl⟩
end Go.Proofs.Ytneonhnackjdjaa
