import Derived.Test.YtnaafaopdefigaaF
import Derived.Test.YtnaafaopdefigaaAc0
import Derived.Test.YtnaafaopdefigaaM00
import Derived.Test.YtnaafaopdefigaaM01
namespace Go.Proofs.Ytnaafaopdefigaa
open Go.Ab Go.RowKit
set_option linter.unusedVariables false
set_option linter.unusedSimpArgs false
set_option maxRecDepth 10000
theorem zd7 {τ : Hp} {q0 : za} {bm0 : Nat}  {rr : Bool × za} (hF : zcX q0 = some rr) :
    Ctr Try.prog 46 #[.pointer (some ⟨bm0, 0, none⟩)] τ [some (bm0, ⟨[.int .u8 q0.Kind.toNat, .int .u8 q0.Op.toNat, .int .i64 q0.R, .int .i64 q0.S, .int .i64 q0.T, .int .i64 q0.N, .int .i64 q0.M], 24, 7, true⟩)] (fun v τ' vs' => v = .bool rr.1 ∧ vs' = [some (bm0, ⟨[.int .u8 rr.2.Kind.toNat, .int .u8 rr.2.Op.toNat, .int .i64 rr.2.R, .int .i64 rr.2.S, .int .i64 rr.2.T, .int .i64 rr.2.N, .int .i64 rr.2.M], 24, 7, true⟩)]) := by
  refine ctr_of (args := [.pointer (some ⟨bm0, 0, none⟩)]) hm Try.func46 s46 rfl fun w0 σ hO Q hQ => ?_
  unfold zcX at hF
  have hL := Hp.le.refl τ
  show wpn _ _ a46.body _ _ _
  unfold a46
  dsimp only
  refine wpn_qa hO [] [(0, .pointer (some ⟨bm0, 0, none⟩))] (ar trivial) fun j => ?_
  refine wpn_qa hO [] [(0, .pointer (some ⟨bm0, 0, none⟩)), (2, .bool true)] (ar (ar trivial)) fun j => ?_
  refine wpn_r1 ?_
  injection hF with hF
  subst hF
  exact hQ _ _ _ _ _ rfl hO hL ⟨rfl, rfl⟩
theorem zdA {τ : Hp} {v0 : Value} {p0 : (List UInt8)} {p1 : Int} {p2 : Int} (r0 : RdT Ty.u8 τ v0 p0) {rr : (List UInt8) × Int × Int} (hF : zF p0 p1 p2 = some rr) :
    Ctr Try.prog 97 #[v0, .int .i64 p1, .int .i64 p2] τ [] (fun v τ' vs' => ∃ (v0 : Value), v = .tuple #[v0, .int .i64 rr.2.1, .int .i64 rr.2.2] ∧ vs' = [] ∧ RdT Ty.u8 τ' v0 rr.1) := by
  obtain ⟨A0, c0, rfl, -⟩ := r0.form
  refine ctr_of (args := [.slice A0 p0.length c0, .int .i64 p1, .int .i64 p2]) hm Try.func97 s97 rfl fun w0 σ hO Q hQ => ?_
  unfold zF at hF
  have hL := Hp.le.refl τ
  show wpn _ _ a97.body _ _ _
  unfold a97
  dsimp only
  refine wpn_qa hO [] [(0, .slice A0 p0.length c0), (1, .int .i64 p1), (2, .int .i64 p2)] (ar (ar (ar trivial))) fun j => ?_
  refine wpn_assoc ?_
  refine wpn_qa hO [] [(0, .slice A0 p0.length c0), (1, .int .i64 p1), (2, .int .i64 p2), (17, .bool ((decide (p1 < 0)) || (decide (p1 > (p0.length : Int)))))] (And.intro (And.intro rfl rfl) (fun _ => ar (ar (ar (ar trivial))))) fun j => ?_
  rcases ite_some hF with ⟨hb4, hF⟩ | ⟨hb4, hF⟩
  · refine wpn_cT (congrArg Value.bool hb4) ?_
    refine wpn_assoc ?_
    refine wpn_qa hO [] [(6, .slice none 0 0), (7, .int .i64 0), (8, .int .i64 1)] (ar (ar (ar trivial))) fun j => ?_
    refine wpn_rt ?_
    injection hF with hF
    subst hF
    exact hQ _ _ _ _ _ rfl hO hL ⟨_, rfl, rfl, (RdT.nil _ _)⟩
  · refine wpn_cF (congrArg Value.bool hb4) ?_
    refine wpn_sk ?_
    refine wpn_assoc ?_
    refine wpn_q hO 2 [] [(1, .int .i64 p1), (2, .int .i64 p2), (18, .slice A0 p0.length c0), (19, .int .i64 p1)] (ar (ar (ar (ar trivial)))) fun j => ?_
    obtain ⟨y5, g6, hF⟩ := bind_some hF
    refine wpn_sl (T := Ty.u8) r0 rfl rfl rfl g6 fun _ r7 => ?_
    obtain ⟨A8, c9, rfl, -⟩ := r7.form
    refine wpn_qa hO [] [(1, .int .i64 p1), (2, .int .i64 p2), (9, .slice A8 y5.length c9)] (ar (ar (ar trivial))) fun j => ?_
    refine wpn_assoc ?_
    refine wpn_qa hO [] [(1, .int .i64 p1), (2, .int .i64 p2), (9, .slice A8 y5.length c9), (24, .bool (decide ((y5.length : Int) ≥ p2)))] (ar (ar (ar (ar trivial)))) fun j => ?_
    rcases ite_some hF with ⟨hb10, hF⟩ | ⟨hb10, hF⟩
    · refine wpn_cT (congrArg Value.bool hb10) ?_
      refine wpn_assoc ?_
      refine wpn_q hO 2 [] [(1, .int .i64 p1), (2, .int .i64 p2), (25, .slice A8 y5.length c9), (26, .int .i64 p2)] (ar (ar (ar (ar trivial)))) fun j => ?_
      obtain ⟨y11, g12, hF⟩ := bind_some hF
      refine wpn_sl (T := Ty.u8) r7 rfl rfl rfl g12 fun _ r13 => ?_
      obtain ⟨A14, c15, rfl, -⟩ := r13.form
      refine wpn_qa hO [] [(6, .slice A14 y11.length c15), (7, .int .i64 (IntKind.i64.wrap (p1 + p2))), (8, .int .i64 0)] (ar (ar (ar trivial))) fun j => ?_
      refine wpn_rt ?_
      injection hF with hF
      subst hF
      exact hQ _ _ _ _ _ rfl hO hL ⟨_, rfl, rfl, r13⟩
    · refine wpn_cF (congrArg Value.bool hb10) ?_
      refine wpn_sk ?_
      refine wpn_qa hO [] [(6, .slice none 0 0), (7, .int .i64 0), (8, .int .i64 5)] (ar (ar (ar trivial))) fun j => ?_
      refine wpn_r1 ?_
      injection hF with hF
      subst hF
      exact hQ _ _ _ _ _ rfl hO hL ⟨_, rfl, rfl, (RdT.nil _ _)⟩
theorem zbe {τ : Hp} {v0 : Value} {p0 : (List UInt8)} {p1 : Int} (r0 : RdT Ty.u8 τ v0 p0) {rr : Int × Int × Int} (hF : zm p0 p1 = some rr) :
    Ctr Try.prog 91 #[v0, .int .i64 p1] τ [] (fun v τ' vs' => v = .tuple #[.int .u8 rr.1, .int .i64 rr.2.1, .int .i64 rr.2.2] ∧ vs' = []) := by
  obtain ⟨A0, c0, rfl, -⟩ := r0.form
  refine ctr_of (args := [.slice A0 p0.length c0, .int .i64 p1]) hm Try.func91 s91 rfl fun w0 σ hO Q hQ => ?_
  unfold zm at hF
  have hL := Hp.le.refl τ
  show wpn _ _ a91.body _ _ _
  unfold a91
  dsimp only
  refine wpn_qa hO [] [(0, .slice A0 p0.length c0), (1, .int .i64 p1)] (ar (ar trivial)) fun j => ?_
  refine wpn_q hO 2 [] [(9, .slice A0 p0.length c0), (10, .int .i64 p1)] (ar (ar trivial)) fun j => ?_
  obtain ⟨c3, h4, hF⟩ := bind_some hF
  refine wpn_c0 hO (zdA r0 h4) rfl fun _ σ _ _ hO h5 h6 => ?_
  have hL := hL.trans h5
  have r0 := r0.le h5
  obtain ⟨v7, rfl, rfl, r10⟩ := h6
  obtain ⟨A8, c9, rfl, -⟩ := r10.form
  have hO : Obs _ _ [] := hO
  refine wpn_qa hO [] [(5, .int .i64 c3.2.1), (6, .int .i64 c3.2.2), (7, .slice A8 c3.1.length c9)] (ar (ar (ar trivial))) fun j => ?_
  refine wpn_assoc ?_
  refine wpn_qa hO [] [(5, .int .i64 c3.2.1), (6, .int .i64 c3.2.2), (7, .slice A8 c3.1.length c9), (16, .bool (c3.2.2 != 0))] (ar (ar (ar (ar trivial)))) fun j => ?_
  rcases ite_some hF with ⟨hb11, hF⟩ | ⟨hb11, hF⟩
  · refine wpn_cT (congrArg Value.bool hb11) ?_
    refine wpn_assoc ?_
    refine wpn_qa hO [] [(4, .int .u8 0), (5, .int .i64 0), (6, .int .i64 c3.2.2)] (ar (ar (ar trivial))) fun j => ?_
    refine wpn_rt ?_
    injection hF with hF
    subst hF
    exact hQ _ _ _ _ _ rfl hO hL ⟨rfl, rfl⟩
  · refine wpn_cF (congrArg Value.bool hb11) ?_
    refine wpn_sk ?_
    refine wpn_q hO 1 [] [(5, .int .i64 c3.2.1), (18, .slice A8 c3.1.length c9)] (ar (ar trivial)) fun j => ?_
    obtain ⟨y12, g13, hF⟩ := bind_some hF
    refine wpn_idx (T := Ty.u8) r10 hO.base rfl rfl g13 (by decide) fun a14 _ k15 m16 => ?_
    obtain rfl : _ = ([.int .u8 y12.toNat] : List Value) := k15
    refine wpn_ld rfl (m16.le hO.base).fst ?_
    refine wpn_qa hO [] [(4, .int .u8 (y12.toNat : Int)), (5, .int .i64 c3.2.1), (6, .int .i64 0)] (ar (ar (ar trivial))) fun j => ?_
    refine wpn_r1 ?_
    injection hF with hF
    subst hF
    exact hQ _ _ _ _ _ rfl hO hL ⟨rfl, rfl⟩
theorem zcW {τ : Hp} {p0 : Int}  {rr : Bool} (hF : zv p0 = some rr) :
    Ctr Try.prog 58 #[.int .i64 p0] τ [] (fun v τ' vs' => v = .bool rr ∧ vs' = []) := by
  refine ctr_of (args := [.int .i64 p0]) hm Try.func58 s58 rfl fun w0 σ hO Q hQ => ?_
  unfold zv at hF
  have hL := Hp.le.refl τ
  show wpn _ _ a58.body _ _ _
  unfold a58
  dsimp only
  refine wpn_qa hO [] [(0, .int .i64 p0)] (ar trivial) fun j => ?_
  refine wpn_qa hO [] [(2, .bool ((decide (p0 ≥ 0)) && (decide (p0 < 16))))] (And.intro (And.intro rfl rfl) (fun _ => ar trivial)) fun j => ?_
  refine wpn_r1 ?_
  injection hF with hF
  subst hF
  exact hQ _ _ _ _ _ rfl hO hL ⟨rfl, rfl⟩
theorem zeo {τ : Hp} {q0 : za} {bm0 : Nat}  {rr : Bool × za} (hF : zcO q0 = some rr) :
    Ctr Try.prog 57 #[.pointer (some ⟨bm0, 0, none⟩)] τ [some (bm0, ⟨[.int .u8 q0.Kind.toNat, .int .u8 q0.Op.toNat, .int .i64 q0.R, .int .i64 q0.S, .int .i64 q0.T, .int .i64 q0.N, .int .i64 q0.M], 24, 7, true⟩)] (fun v τ' vs' => v = .bool rr.1 ∧ vs' = [some (bm0, ⟨[.int .u8 rr.2.Kind.toNat, .int .u8 rr.2.Op.toNat, .int .i64 rr.2.R, .int .i64 rr.2.S, .int .i64 rr.2.T, .int .i64 rr.2.N, .int .i64 rr.2.M], 24, 7, true⟩)]) := by
  refine ctr_of (args := [.pointer (some ⟨bm0, 0, none⟩)]) hm Try.func57 s57 rfl fun w0 σ hO Q hQ => ?_
  unfold zcO at hF
  have hL := Hp.le.refl τ
  show wpn _ _ a57.body _ _ _
  unfold a57
  dsimp only
  refine wpn_qa hO [] [(0, .pointer (some ⟨bm0, 0, none⟩))] (ar trivial) fun j => ?_
  refine wpn_q hO 4 [0] [(0, .pointer (some ⟨bm0, 0, none⟩)), (6, .int .i64 q0.R)] (And.intro (And.intro rfl rfl) (ar (ar trivial))) fun j => ?_
  obtain ⟨c2, h3, hF⟩ := bind_some hF
  refine wpn_c0 hO (zcW h3) rfl fun _ σ _ _ hO h4 h5 => ?_
  have hL := hL.trans h4
  obtain ⟨rfl, rfl⟩ := h5
  have hO : Obs _ _ [_] := hO
  refine wpn_qa hO [] [(0, .pointer (some ⟨bm0, 0, none⟩)), (2, .bool c2)] (ar (ar trivial)) fun j => ?_
  refine wpn_r1 ?_
  injection hF with hF
  subst hF
  exact hQ _ _ _ _ _ rfl hO hL ⟨rfl, rfl⟩
theorem zff {τ : Hp} {q0 : za} {bm0 : Nat}  {rr : Int × za} (hF : zcS q0 = some rr) :
    Ctr Try.prog 59 #[.pointer (some ⟨bm0, 0, none⟩)] τ [some (bm0, ⟨[.int .u8 q0.Kind.toNat, .int .u8 q0.Op.toNat, .int .i64 q0.R, .int .i64 q0.S, .int .i64 q0.T, .int .i64 q0.N, .int .i64 q0.M], 24, 7, true⟩)] (fun v τ' vs' => v = .int .u8 rr.1 ∧ vs' = [some (bm0, ⟨[.int .u8 rr.2.Kind.toNat, .int .u8 rr.2.Op.toNat, .int .i64 rr.2.R, .int .i64 rr.2.S, .int .i64 rr.2.T, .int .i64 rr.2.N, .int .i64 rr.2.M], 24, 7, true⟩)]) := by
  refine ctr_of (args := [.pointer (some ⟨bm0, 0, none⟩)]) hm Try.func59 s59 rfl fun w0 σ hO Q hQ => ?_
  unfold zcS at hF
  have hL := Hp.le.refl τ
  show wpn _ _ a59.body _ _ _
  unfold a59
  dsimp only
  refine wpn_qa hO [] [(0, .pointer (some ⟨bm0, 0, none⟩))] (ar trivial) fun j => ?_
  refine wpn_qa hO [0] [(0, .pointer (some ⟨bm0, 0, none⟩)), (2, .int .u8 (IntKind.u8.wrap q0.R))] (And.intro (And.intro rfl rfl) (ar (ar trivial))) fun j => ?_
  refine wpn_r1 ?_
  injection hF with hF
  subst hF
  exact hQ _ _ _ _ _ rfl hO hL ⟨rfl, rfl⟩
theorem zew {τ : Hp} {q0 : za} {bm0 : Nat} {p1 : Int}  {rr : za} (hF : zcg q0 p1 = some rr) :
    Ctr Try.prog 60 #[.pointer (some ⟨bm0, 0, none⟩), .int .u8 p1] τ [some (bm0, ⟨[.int .u8 q0.Kind.toNat, .int .u8 q0.Op.toNat, .int .i64 q0.R, .int .i64 q0.S, .int .i64 q0.T, .int .i64 q0.N, .int .i64 q0.M], 24, 7, true⟩)] (fun v τ' vs' => v = .tuple #[] ∧ vs' = [some (bm0, ⟨[.int .u8 rr.Kind.toNat, .int .u8 rr.Op.toNat, .int .i64 rr.R, .int .i64 rr.S, .int .i64 rr.T, .int .i64 rr.N, .int .i64 rr.M], 24, 7, true⟩)]) := by
  refine ctr_ofn (args := [.pointer (some ⟨bm0, 0, none⟩), .int .u8 p1]) hm Try.func60 s60 rfl fun w0 σ hO Q hQ => ?_
  unfold zcg at hF
  have hL := Hp.le.refl τ
  show wpn _ _ a60.body _ _ _
  unfold a60
  dsimp only
  refine wpn_rlast ?_
  refine wpn_q hO 5 [] [(0, .pointer (some ⟨bm0, 0, none⟩)), (6, .int .i64 (IntKind.i64.wrap p1)), (8, .pointer (some ⟨bm0, 2, none⟩))] (ar (ar (ar trivial))) fun j => ?_
  refine wpn_st hO (i := 0) rfl (off := 2) rfl rfl rfl rfl (Nat.le_of_ble_eq_true rfl) rfl fun σ hO => ?_
  have hO : Obs _ _ [_] := hO
  refine wpn_nil ?_
  refine wpn_end ?_
  injection hF with hF
  subst hF
  exact (hQ _ _ _ _ _ rfl hO hL ⟨rfl, rfl⟩).2
theorem ze6 {τ : Hp}   {rr : zd} (hF : zda  = some rr) :
    Ctr Try.prog 56 #[.func (.func 57) #[] #[], .func (.func 59) #[] #[], .func (.func 60) #[] #[]] τ [] (fun v τ' vs' => ∃ (f0_0 : Fn) (a0_0 c0_0 : Array Value) (f0_1 : Fn) (a0_1 c0_1 : Array Value) (f0_2 : Fn) (a0_2 c0_2 : Array Value), v = .agg #[.func f0_0 a0_0 c0_0, .func f0_1 a0_1 c0_1, .func f0_2 a0_2 c0_2] ∧ vs' = [] ∧ zi τ' rr (.func f0_0 a0_0 c0_0) (.func f0_1 a0_1 c0_1) (.func f0_2 a0_2 c0_2)) := by
  refine ctr_of (args := [.func (.func 57) #[] #[], .func (.func 59) #[] #[], .func (.func 60) #[] #[]]) hm Try.func56 s56 rfl fun w0 σ hO Q hQ => ?_
  unfold zda at hF
  have hL := Hp.le.refl τ
  show wpn _ _ a56.body _ _ _
  unfold a56
  dsimp only
  refine wpn_bx (n := 1) hO rfl rfl fun b4 σ hO => ?_
  have hO : Obs _ _ [_] := hO
  refine wpn_bx (n := 1) hO rfl rfl fun b5 σ hO => ?_
  have hO : Obs _ _ [_, _] := hO
  refine wpn_al hO fun b6 σ hO => ?_
  have hO : Obs _ _ [_, _, _] := hO
  refine wpn_nil ?_
  refine wpn_q hO 4 [] [(6, .pointer (some ⟨b6, 0, none⟩)), (10, .agg #[(.func (.func 57) #[] #[]), (.func (.func 89) #[] #[(.pointer (some ⟨b4, 0, none⟩))]), (.func (.func 90) #[] #[(.pointer (some ⟨b5, 0, none⟩))])])] (ar (ar trivial)) fun j => ?_
  refine wpn_st hO (i := 2) rfl (off := 0) rfl rfl rfl rfl (Nat.le_of_ble_eq_true rfl) rfl fun σ hO => ?_
  have hO : Obs _ _ [_, _, _] := hO
  refine wpn_nil ?_
  refine wpn_r1 ?_
  obtain ⟨_, h8, m7, hO⟩ := hO.shareV (i := 0) rfl
  have hL := hL.trans h8
  have hO : Obs _ _ [_, _, _] := hO
  obtain ⟨_, h10, m9, hO⟩ := hO.shareV (i := 1) rfl
  have hL := hL.trans h10
  have m7 := m7.le h10
  have hO : Obs _ _ [_, _, _] := hO
  injection hF with hF
  subst hF
  have hV0 := hO.val (i := 2) rfl (off := 0) (agg := true) (n := 3) rfl
  have hO := hO.sel [] (by decide)
  exact hQ _ _ _ _ _ (resvs_c rfl (hV0) rfl) hO hL ⟨_, _, _, _, _, _, _, _, _, rfl, rfl, ⟨(⟨b4, 0, none⟩ : Addr), (⟨b5, 0, none⟩ : Addr), rfl, rfl, rfl, m7, m9⟩⟩
theorem zcY {τ : Hp}   {rr : zd} (hF : zb9  = some rr) :
    Ctr Try.prog 47 #[] τ [] (fun v τ' vs' => ∃ (f0_0 : Fn) (a0_0 c0_0 : Array Value) (f0_1 : Fn) (a0_1 c0_1 : Array Value) (f0_2 : Fn) (a0_2 c0_2 : Array Value), v = .agg #[.func f0_0 a0_0 c0_0, .func f0_1 a0_1 c0_1, .func f0_2 a0_2 c0_2] ∧ vs' = [] ∧ zi τ' rr (.func f0_0 a0_0 c0_0) (.func f0_1 a0_1 c0_1) (.func f0_2 a0_2 c0_2)) := by
  refine ctr_of (args := []) hm Try.func47 s47 rfl fun w0 σ hO Q hQ => ?_
  unfold zb9 at hF
  have hL := Hp.le.refl τ
  show wpn _ _ a47.body _ _ _
  unfold a47
  dsimp only
  refine wpn_al hO fun b1 σ hO => ?_
  have hO : Obs _ _ [_] := hO
  refine wpn_nil ?_
  obtain ⟨c2, h3, hF⟩ := bind_some hF
  refine wpn_c0 hO (ze6 h3) rfl fun _ σ _ _ hO h4 h5 => ?_
  have hL := hL.trans h4
  obtain ⟨f7, a8, c9, f10, a11, c12, f13, a14, c15, rfl, rfl, r6⟩ := h5
  have hO : Obs _ _ [_] := hO
  refine wpn_st hO (i := 0) rfl (off := 0) rfl rfl rfl rfl (Nat.le_of_ble_eq_true rfl) rfl fun σ hO => ?_
  have hO : Obs _ _ [_] := hO
  refine wpn_nil ?_
  refine wpn_r1 ?_
  injection hF with hF
  subst hF
  have hV0 := hO.val (i := 0) rfl (off := 0) (agg := true) (n := 3) rfl
  have hO := hO.sel [] (by decide)
  exact hQ _ _ _ _ _ (resvs_c rfl (hV0) rfl) hO hL ⟨_, _, _, _, _, _, _, _, _, rfl, rfl, r6⟩
theorem zc5 {τ : Hp} {v0 : Value} {p0 : (List UInt8)} (r0 : RdT Ty.u8 τ v0 p0) {rr : (List UInt8)} (hF : zG p0 = some rr) :
    Ctr Try.prog 22 #[v0] τ [] (fun v τ' vs' => ∃ (v0 : Value) (o0 : Ob), v = v0 ∧ vs' = [o0] ∧ OwnO Ty.u8 5 τ' v0 rr o0) := by
  obtain ⟨A0, c0, rfl, -⟩ := r0.form
  refine ctr_of (args := [.slice A0 p0.length c0]) hm Try.func22 s22 rfl fun w0 σ hO Q hQ => ?_
  unfold zG at hF
  obtain ⟨_, hr, hF⟩ := bind_some hF
  injection hF with hF
  subst hF
  have hL := Hp.le.refl τ
  show wpn _ _ a22.body _ _ _
  unfold a22
  dsimp only
  refine wpn_qa hO [] [(0, .slice A0 p0.length c0)] (ar trivial) fun j => ?_
  refine wpn_assoc ?_
  refine wpn_qa hO [] [(0, .slice A0 p0.length c0), (4, .bool A0.isNone)] (ar (ar trivial)) fun j => ?_
  rcases (Bool.eq_false_or_eq_true A0.isNone).symm with hA | hA
  · refine wpn_cF (congrArg Value.bool hA) ?_
    refine wpn_sk ?_
    refine wpn_lit (T := Ty.u8) (l := []) (cs := []) hO rfl rfl rfl (by decide) fun _ σ o1 w1 hO => ?_
    obtain ⟨A1, c1, rfl, -⟩ := w1.form
    refine wpn_q hO 1 [] [(5, .slice A1 0 c1), (6, .slice A0 p0.length c0)] (ar (ar trivial)) fun j => ?_
    refine wpn_apl (T := Ty.u8) hO w1 (i := 0) rfl rfl rfl r0 (by simpa using hr) (by decide) fun _ σ o2 w2 hO => ?_
    refine wpn_qa hO [] [(2, _)] (ar trivial) fun j => ?_
    refine wpn_r1 ?_
    exact hQ _ _ _ _ _ rfl hO hL ⟨_, _, rfl, rfl, w2⟩
  · refine wpn_cT (congrArg Value.bool hA) ?_
    have := r0.empty (by decide) hA
    subst this
    refine wpn_assoc ?_
    refine wpn_qa hO [] [(2, .slice none 0 0)] (ar trivial) fun j => ?_
    refine wpn_rt ?_
    have hO := hO.no
    exact hQ _ _ _ _ _ rfl hO hL ⟨_, _, rfl, rfl, OwnO.nil _ _ _⟩
theorem zdG {τ : Hp} {v0 : Value} {p0 : (List UInt8)} {p1 : Int} (r0 : RdT Ty.u8 τ v0 p0) {rr : (List UInt8)} (hF : zP p0 p1 = some rr) :
    Ctr Try.prog 62 #[v0, .int .i64 p1] τ [] (fun v τ' vs' => ∃ (v0 : Value) (o0 : Ob), v = v0 ∧ vs' = [o0] ∧ OwnO Ty.u8 5 τ' v0 rr o0) := by
  obtain ⟨A0, c0, rfl, -⟩ := r0.form
  refine ctr_of (args := [.slice A0 p0.length c0, .int .i64 p1]) hm Try.func62 s62 rfl fun w0 σ hO Q hQ => ?_
  unfold zP at hF
  have hL := Hp.le.refl τ
  show wpn _ _ a62.body _ _ _
  unfold a62
  dsimp only
  refine wpn_qa hO [] [(0, .slice A0 p0.length c0), (1, .int .i64 p1)] (ar (ar trivial)) fun j => ?_
  refine wpn_q hO 1 [] [(1, .int .i64 p1), (6, .slice A0 p0.length c0)] (ar (ar trivial)) fun j => ?_
  obtain ⟨c3, h4, hF⟩ := bind_some hF
  refine wpn_c0 hO (zc5 r0 h4) rfl fun _ σ _ _ hO h5 h6 => ?_
  have hL := hL.trans h5
  have r0 := r0.le h5
  obtain ⟨v7, o10, rfl, rfl, w11⟩ := h6
  obtain ⟨A8, c9, rfl, -⟩ := w11.form
  have hO : Obs _ _ [_] := hO
  refine wpn_qa hO [] [(1, .int .i64 p1), (5, .slice A8 c3.length c9)] (ar (ar trivial)) fun j => ?_
  refine wpn_bl ?_
  refine wpn_lp (fun (n : Nat) e' σ' => ∃ (x28 : Int) (A29 : Option Addr) (c30 : Nat) (o31 : Ob) (x32 : List UInt8) (τ' : Hp), agr [(1, .int .i64 x28), (5, .slice A29 x32.length c30)] e' ∧ Obs τ' σ' [o31] ∧ Hp.le τ τ' ∧ OwnO Ty.u8 5 τ' (.slice A29 x32.length c30) x32 o31 ∧ zbX  n x28 x32 = some rr) big ⟨p1, A8, c9, o10, c3, _, ar (ar trivial), hO, hL, w11, hF⟩ ?_
  clear hF hO hL
  rintro n45 e σ ⟨x28, A29, c30, o31, x32, _, hA, hO, hL, w33, hF⟩
  rw [← sets_agr _ _ hA]
  cases n45 with
  | zero => exact nomatch (show none = some rr from hF)
  | succ n45 =>
    replace hF : zbt (zbX  n45) x28 x32 = some rr := hF
    unfold zbt at hF
    refine wpn_assoc ?_
    refine wpn_qa hO [] [(1, .int .i64 x28), (5, .slice A29 x32.length c30), (13, .bool ((decide (x28 > 63)) || (decide (x28 < (-64)))))] (And.intro (And.intro rfl rfl) (fun _ => ar (ar (ar trivial)))) fun j => ?_
    rcases ite_some hF with ⟨hb46, hF⟩ | ⟨hb46, hF⟩
    · refine wpn_cT (congrArg Value.bool hb46) ?_
      refine wpn_sk ?_
      refine wpn_blast ?_
      refine wpn_bl ?_
      refine wpn_q hO 4 [] [(1, .int .i64 x28), (14, .slice A29 x32.length c30), (17, .int .u8 (orI .u8 (IntKind.u8.wrap x28) 128))] (ar (ar (ar trivial))) fun j => ?_
      obtain ⟨z47, hz47, hF⟩ := bind_some hF
      obtain ⟨_, hr, hF⟩ := bind_some hF
      refine wpn_ap1 (T := Ty.u8) (y := z47) hO w33 (i := 0) rfl rfl (fun _ => rfl) rfl (u8R hz47) rfl hr (by decide) fun u _ σ o50 w51 hO => ?_
      obtain ⟨A48, c49, rfl, -⟩ := w51.form
      have hO : Obs _ _ [_] := hO
      refine wpn_qa hO [] [(1, .int .i64 x28), (5, .slice A48 (x32 ++ [z47]).length c49)] (ar (ar trivial)) fun j => ?_
      refine wpn_rlast ?_
      refine wpn_qa hO [] [(1, .int .i64 (shrI .i64 x28 7)), (5, .slice A48 (x32 ++ [z47]).length c49)] (ar (ar trivial)) fun j => ?_
      refine wpn_end ?_
      refine inb_i ?_
      refine thn_i ?_
      refine wpn_end ?_
      refine thn_i ?_
      exact ⟨n45, Nat.lt_succ_self _, (shrI .i64 x28 7), A48, c49, o50, (x32 ++ [z47]), _, ar (ar trivial), hO, hL, w51, hF⟩
    · refine wpn_cF (congrArg Value.bool hb46) ?_
      refine wpn_ex ?_
      refine thn_x ?_
      refine inb_x ?_
      refine thn_i ?_
      refine wpn_q hO 4 [] [(22, .slice A29 x32.length c30), (25, .int .u8 (andI .u8 (IntKind.u8.wrap x28) 127))] (ar (ar trivial)) fun j => ?_
      obtain ⟨z52, hz52, hF⟩ := bind_some hF
      obtain ⟨_, hr, hF⟩ := bind_some hF
      refine wpn_ap1 (T := Ty.u8) (y := z52) hO w33 (i := 0) rfl rfl (fun _ => rfl) rfl (u8R hz52) rfl hr (by decide) fun u _ σ o55 w56 hO => ?_
      obtain ⟨A53, c54, rfl, -⟩ := w56.form
      have hO : Obs _ _ [_] := hO
      refine wpn_qa hO [] [(4, .slice A53 (x32 ++ [z52]).length c54)] (ar trivial) fun j => ?_
      refine wpn_r1 ?_
      injection hF with hF
      subst hF
      exact hQ _ _ _ _ _ rfl hO hL ⟨_, _, rfl, rfl, w56⟩
theorem zdI {τ : Hp} {v0 : Value} {p0 : (List UInt8)} (r0 : RdT Ty.u8 τ v0 p0) {rr : Int × Int} (hF : zbO p0 = some rr) :
    Ctr Try.prog 98 #[v0] τ [] (fun v τ' vs' => v = .tuple #[.int .u64 rr.1, .int .i64 rr.2] ∧ vs' = []) := by
  obtain ⟨A0, c0, rfl, -⟩ := r0.form
  refine ctr_of (args := [.slice A0 p0.length c0]) hm Try.func98 s98 rfl fun w0 σ hO Q hQ => ?_
  unfold zbO at hF
  have hL := Hp.le.refl τ
  show wpn _ _ a98.body _ _ _
  unfold a98
  dsimp only
  refine wpn_qa hO [] [(0, .slice A0 p0.length c0), (2, .int .u64 0)] (ar (ar trivial)) fun j => ?_
  refine wpn_assoc ?_
  refine wpn_qa hO [] [(0, .slice A0 p0.length c0), (2, .int .u64 0), (7, .int .i64 (minI (p0.length : Int) 10)), (8, .int .i64 0)] (ar (ar (ar (ar trivial)))) fun j => ?_
  refine wpn_bl ?_
  refine wpn_lp (fun (n : Nat) e' σ' => ∃ (x18 : Int) (x19 : Int) (τ' : Hp), agr [(0, .slice A0 p0.length c0), (2, .int .u64 x18), (7, .int .i64 (minI (p0.length : Int) 10)), (8, .int .i64 x19)] e' ∧ Obs τ' σ' [] ∧ Hp.le τ τ' ∧ RdT Ty.u8 τ' (.slice A0 p0.length c0) p0 ∧ zbj p0 n x18 x19 = some rr) big ⟨0, 0, _, ar (ar (ar (ar trivial))), hO, hL, r0, hF⟩ ?_
  clear hF hO hL
  rintro n34 e σ ⟨x18, x19, _, hA, hO, hL, r17, hF⟩
  rw [← sets_agr _ _ hA]
  cases n34 with
  | zero => exact nomatch (show none = some rr from hF)
  | succ n34 =>
    replace hF : zbG (zbj p0 n34) p0 x18 x19 = some rr := hF
    unfold zbG at hF
    refine wpn_qa hO [] [(0, .slice A0 p0.length c0), (2, .int .u64 x18), (7, .int .i64 (minI (p0.length : Int) 10)), (8, .int .i64 x19), (9, .bool (decide (x19 < (minI (p0.length : Int) 10))))] (ar (ar (ar (ar (ar trivial))))) fun j => ?_
    rcases ite_some hF with ⟨hb35, hF⟩ | ⟨hb35, hF⟩
    · refine wpn_cT (congrArg Value.bool hb35) ?_
      refine wpn_sk ?_
      refine wpn_bl ?_
      refine wpn_qa hO [] [(0, .slice A0 p0.length c0), (2, .int .u64 x18), (4, .int .i64 x19), (7, .int .i64 (minI (p0.length : Int) 10)), (8, .int .i64 x19)] (ar (ar (ar (ar (ar trivial))))) fun j => ?_
      refine wpn_q hO 3 [] [(0, .slice A0 p0.length c0), (4, .int .i64 x19), (7, .int .i64 (minI (p0.length : Int) 10)), (8, .int .i64 x19), (11, .int .u64 x18), (12, .slice A0 p0.length c0), (13, .int .i64 x19)] (ar (ar (ar (ar (ar (ar (ar trivial))))))) fun j => ?_
      obtain ⟨y36, g37, hF⟩ := bind_some hF
      refine wpn_idx (T := Ty.u8) r17 hO.base rfl rfl g37 (by decide) fun a38 _ k39 m40 => ?_
      obtain rfl : _ = ([.int .u8 y36.toNat] : List Value) := k39
      refine wpn_ld rfl (m40.le hO.base).fst ?_
      refine wpn_q hO 4 [] [(0, .slice A0 p0.length c0), (4, .int .i64 x19), (7, .int .i64 (minI (p0.length : Int) 10)), (8, .int .i64 x19), (11, .int .u64 x18), (17, .int .u64 (IntKind.u64.wrap (andI .u8 (y36.toNat : Int) 127))), (19, .int .i64 (IntKind.i64.wrap (7 * x19)))] (ar (ar (ar (ar (ar (ar (ar trivial))))))) fun j => ?_
      obtain ⟨y41, g42, hF⟩ := bind_some hF
      refine wpn_bn (shlO_bin g42) ?_
      refine wpn_qa hO [] [(0, .slice A0 p0.length c0), (2, .int .u64 (orI .u64 x18 y41)), (4, .int .i64 x19), (7, .int .i64 (minI (p0.length : Int) 10)), (8, .int .i64 x19)] (ar (ar (ar (ar (ar trivial))))) fun j => ?_
      refine wpn_q hO 2 [] [(0, .slice A0 p0.length c0), (2, .int .u64 (orI .u64 x18 y41)), (4, .int .i64 x19), (7, .int .i64 (minI (p0.length : Int) 10)), (8, .int .i64 x19), (22, .slice A0 p0.length c0), (23, .int .i64 x19)] (ar (ar (ar (ar (ar (ar (ar trivial))))))) fun j => ?_
      obtain ⟨y43, g44, hF⟩ := bind_some hF
      refine wpn_idx (T := Ty.u8) r17 hO.base rfl rfl g44 (by decide) fun a45 _ k46 m47 => ?_
      obtain rfl : _ = ([.int .u8 y43.toNat] : List Value) := k46
      refine wpn_ld rfl (m47.le hO.base).fst ?_
      refine wpn_qa hO [] [(0, .slice A0 p0.length c0), (2, .int .u64 (orI .u64 x18 y41)), (4, .int .i64 x19), (7, .int .i64 (minI (p0.length : Int) 10)), (8, .int .i64 x19), (26, .bool (decide ((y43.toNat : Int) < 128)))] (ar (ar (ar (ar (ar (ar trivial)))))) fun j => ?_
      refine wpn_clast ?_
      rcases ite_some hF with ⟨hb48, hF⟩ | ⟨hb48, hF⟩
      · refine wpn_cT (congrArg Value.bool hb48) ?_
        refine wpn_assoc ?_
        refine wpn_qa hO [] [(2, .int .u64 (orI .u64 x18 y41)), (3, .int .i64 (IntKind.i64.wrap (x19 + 1)))] (ar (ar trivial)) fun j => ?_
        refine wpn_rt ?_
        refine inb_r1 ?_
        refine thn_r1 ?_
        refine thn_r1 ?_
        refine inb_r1 ?_
        refine thn_r1 ?_
        injection hF with hF
        subst hF
        exact hQ _ _ _ _ _ rfl hO hL ⟨rfl, rfl⟩
      · refine wpn_cF (congrArg Value.bool hb48) ?_
        refine wpn_sk ?_
        refine wpn_end ?_
        refine inb_i ?_
        refine thn_i ?_
        refine wpn_rlast ?_
        refine wpn_qa hO [] [(0, .slice A0 p0.length c0), (2, .int .u64 (orI .u64 x18 y41)), (7, .int .i64 (minI (p0.length : Int) 10)), (8, .int .i64 (IntKind.i64.wrap (x19 + 1)))] (ar (ar (ar (ar trivial)))) fun j => ?_
        refine wpn_end ?_
        refine thn_i ?_
        exact ⟨n34, Nat.lt_succ_self _, (orI .u64 x18 y41), (IntKind.i64.wrap (x19 + 1)), _, ar (ar (ar (ar trivial))), hO, hL, r17, hF⟩
    · refine wpn_cF (congrArg Value.bool hb35) ?_
      refine wpn_ex ?_
      refine thn_x ?_
      refine inb_x ?_
      refine thn_i ?_
      refine wpn_qa hO [] [(2, .int .u64 0), (3, .int .i64 0)] (ar (ar trivial)) fun j => ?_
      refine wpn_r1 ?_
      injection hF with hF
      subst hF
      exact hQ _ _ _ _ _ rfl hO hL ⟨rfl, rfl⟩
theorem zdH {τ : Hp} {v0 : Value} {p0 : (List UInt8)} {v1 : Value} {p1 : (List UInt8)} (r0 : RdT Ty.u8 τ v0 p0) (r1 : RdT Ty.u8 τ v1 p1) {rr : Bool} (hF : z9 p0 p1 = some rr) :
    Ctr Try.prog 99 #[v0, v1] τ [] (fun v τ' vs' => v = .bool rr ∧ vs' = []) := by
  obtain ⟨A0, c0, rfl, -⟩ := r0.form
  obtain ⟨A1, c1, rfl, -⟩ := r1.form
  refine ctr_of (args := [.slice A0 p0.length c0, .slice A1 p1.length c1]) hm Try.func99 s99 rfl fun w0 σ hO Q hQ => ?_
  unfold z9 at hF
  have hL := Hp.le.refl τ
  show wpn _ _ a99.body _ _ _
  unfold a99
  dsimp only
  refine wpn_qa hO [] [(0, .slice A0 p0.length c0), (1, .slice A1 p1.length c1)] (ar (ar trivial)) fun j => ?_
  refine wpn_assoc ?_
  refine wpn_qa hO [] [(0, .slice A0 p0.length c0), (1, .slice A1 p1.length c1), (10, .bool ((p0.length : Int) != (p1.length : Int)))] (ar (ar (ar trivial))) fun j => ?_
  rcases ite_some hF with ⟨hb3, hF⟩ | ⟨hb3, hF⟩
  · refine wpn_cT (congrArg Value.bool hb3) ?_
    refine wpn_assoc ?_
    refine wpn_qa hO [] [(4, .bool false)] (ar trivial) fun j => ?_
    refine wpn_rt ?_
    injection hF with hF
    subst hF
    exact hQ _ _ _ _ _ rfl hO hL ⟨rfl, rfl⟩
  · refine wpn_cF (congrArg Value.bool hb3) ?_
    refine wpn_sk ?_
    refine wpn_assoc ?_
    refine wpn_qa hO [] [(0, .slice A0 p0.length c0), (1, .slice A1 p1.length c1), (12, .int .i64 (p0.length : Int)), (13, .int .i64 0)] (ar (ar (ar (ar trivial)))) fun j => ?_
    refine wpn_bl ?_
    refine wpn_lp (fun (n : Nat) e' σ' => ∃ (x20 : Int) (τ' : Hp), agr [(0, .slice A0 p0.length c0), (1, .slice A1 p1.length c1), (12, .int .i64 (p0.length : Int)), (13, .int .i64 x20)] e' ∧ Obs τ' σ' [] ∧ Hp.le τ τ' ∧ RdT Ty.u8 τ' (.slice A0 p0.length c0) p0 ∧ RdT Ty.u8 τ' (.slice A1 p1.length c1) p1 ∧ zb4 p0 p1 n x20 = some rr) big ⟨0, _, ar (ar (ar (ar trivial))), hO, hL, r0, r1, hF⟩ ?_
    clear hF hO hL
    rintro n33 e σ ⟨x20, _, hA, hO, hL, r18, r19, hF⟩
    rw [← sets_agr _ _ hA]
    cases n33 with
    | zero => exact nomatch (show none = some rr from hF)
    | succ n33 =>
      replace hF : zbs (zb4 p0 p1 n33) p0 p1 x20 = some rr := hF
      unfold zbs at hF
      refine wpn_qa hO [] [(0, .slice A0 p0.length c0), (1, .slice A1 p1.length c1), (12, .int .i64 (p0.length : Int)), (13, .int .i64 x20), (14, .bool (decide (x20 < (p0.length : Int))))] (ar (ar (ar (ar (ar trivial))))) fun j => ?_
      rcases ite_some hF with ⟨hb34, hF⟩ | ⟨hb34, hF⟩
      · refine wpn_cT (congrArg Value.bool hb34) ?_
        refine wpn_sk ?_
        refine wpn_bl ?_
        refine wpn_qa hO [] [(0, .slice A0 p0.length c0), (1, .slice A1 p1.length c1), (5, .int .i64 x20), (12, .int .i64 (p0.length : Int)), (13, .int .i64 x20)] (ar (ar (ar (ar (ar trivial))))) fun j => ?_
        refine wpn_p2r ?_
        refine wpn_q hO 2 [] [(0, .slice A0 p0.length c0), (1, .slice A1 p1.length c1), (5, .int .i64 x20), (12, .int .i64 (p0.length : Int)), (13, .int .i64 x20), (16, .slice A0 p0.length c0), (17, .int .i64 x20)] (ar (ar (ar (ar (ar (ar (ar trivial))))))) fun j => ?_
        obtain ⟨y35, g36, hF⟩ := bind_some hF
        refine wpn_idx (T := Ty.u8) r18 hO.base rfl rfl g36 (by decide) fun a37 _ k38 m39 => ?_
        obtain rfl : _ = ([.int .u8 y35.toNat] : List Value) := k38
        refine wpn_ld rfl (m39.le hO.base).fst ?_
        refine wpn_q hO 2 [] [(0, .slice A0 p0.length c0), (1, .slice A1 p1.length c1), (12, .int .i64 (p0.length : Int)), (13, .int .i64 x20), (19, .int .u8 (y35.toNat : Int)), (20, .slice A1 p1.length c1), (21, .int .i64 x20)] (ar (ar (ar (ar (ar (ar (ar trivial))))))) fun j => ?_
        obtain ⟨y40, g41, hF⟩ := bind_some hF
        refine wpn_idx (T := Ty.u8) r19 hO.base rfl rfl g41 (by decide) fun a42 _ k43 m44 => ?_
        obtain rfl : _ = ([.int .u8 y40.toNat] : List Value) := k43
        refine wpn_ld rfl (m44.le hO.base).fst ?_
        refine wpn_qa hO [] [(0, .slice A0 p0.length c0), (1, .slice A1 p1.length c1), (12, .int .i64 (p0.length : Int)), (13, .int .i64 x20), (24, .bool ((y35.toNat : Int) != (y40.toNat : Int)))] (ar (ar (ar (ar (ar trivial))))) fun j => ?_
        refine wpn_clast ?_
        rcases ite_some hF with ⟨hb45, hF⟩ | ⟨hb45, hF⟩
        · refine wpn_cT (congrArg Value.bool hb45) ?_
          refine wpn_assoc ?_
          refine wpn_qa hO [] [(4, .bool false)] (ar trivial) fun j => ?_
          refine wpn_rt ?_
          refine inb_r1 ?_
          refine thn_r1 ?_
          refine thn_r1 ?_
          refine inb_r1 ?_
          refine thn_r1 ?_
          injection hF with hF
          subst hF
          exact hQ _ _ _ _ _ rfl hO hL ⟨rfl, rfl⟩
        · refine wpn_cF (congrArg Value.bool hb45) ?_
          refine wpn_sk ?_
          refine wpn_end ?_
          refine inb_i ?_
          refine thn_i ?_
          refine wpn_rlast ?_
          refine wpn_qa hO [] [(0, .slice A0 p0.length c0), (1, .slice A1 p1.length c1), (12, .int .i64 (p0.length : Int)), (13, .int .i64 (IntKind.i64.wrap (x20 + 1)))] (ar (ar (ar (ar trivial)))) fun j => ?_
          refine wpn_end ?_
          refine thn_i ?_
          exact ⟨n33, Nat.lt_succ_self _, (IntKind.i64.wrap (x20 + 1)), _, ar (ar (ar (ar trivial))), hO, hL, r18, r19, hF⟩
      · refine wpn_cF (congrArg Value.bool hb34) ?_
        refine wpn_ex ?_
        refine thn_x ?_
        refine inb_x ?_
        refine thn_i ?_
        refine wpn_qa hO [] [(4, .bool true)] (ar trivial) fun j => ?_
        refine wpn_r1 ?_
        injection hF with hF
        subst hF
        exact hQ _ _ _ _ _ rfl hO hL ⟨rfl, rfl⟩
theorem zeF {τ : Hp} {p0 : Int} {p1 : Int}  {rr : Int} (hF : zbo p0 p1 = some rr) :
    Ctr Try.prog 93 #[.int .u64 p0, .int .i64 p1] τ [] (fun v τ' vs' => v = .int .i64 rr ∧ vs' = []) := by
  refine ctr_of (args := [.int .u64 p0, .int .i64 p1]) hm Try.func93 s93 rfl fun w0 σ hO Q hQ => ?_
  unfold zbo at hF
  have hL := Hp.le.refl τ
  show wpn _ _ a93.body _ _ _
  unfold a93
  dsimp only
  refine wpn_qa hO [] [(0, .int .u64 p0), (1, .int .i64 p1)] (ar (ar trivial)) fun j => ?_
  refine wpn_qa hO [] [(0, .int .u64 p0), (5, .int .i64 (maxI 0 (IntKind.i64.wrap (64 - (IntKind.i64.wrap (7 * p1))))))] (ar (ar trivial)) fun j => ?_
  refine wpn_q hO 2 [] [(5, .int .i64 (maxI 0 (IntKind.i64.wrap (64 - (IntKind.i64.wrap (7 * p1)))))), (10, .int .u64 p0), (11, .int .i64 (maxI 0 (IntKind.i64.wrap (64 - (IntKind.i64.wrap (7 * p1))))))] (ar (ar (ar trivial))) fun j => ?_
  obtain ⟨y3, g4, hF⟩ := bind_some hF
  refine wpn_bn (shlO_bin g4) ?_
  refine wpn_q hO 2 [] [(13, .int .i64 (IntKind.i64.wrap y3)), (14, .int .i64 (maxI 0 (IntKind.i64.wrap (64 - (IntKind.i64.wrap (7 * p1))))))] (ar (ar trivial)) fun j => ?_
  obtain ⟨y5, g6, hF⟩ := bind_some hF
  refine wpn_bn (shrO_bin g6) ?_
  refine wpn_qa hO [] [(4, .int .i64 y5)] (ar trivial) fun j => ?_
  refine wpn_r1 ?_
  injection hF with hF
  subst hF
  exact hQ _ _ _ _ _ rfl hO hL ⟨rfl, rfl⟩
theorem ze8 {τ : Hp} {v0 : Value} {p0 : (List UInt8)} {p1 : Int} (r0 : RdT Ty.u8 τ v0 p0) {rr : Int × Int × Int} (hF : zcJ p0 p1 = some rr) :
    Ctr Try.prog 92 #[v0, .int .i64 p1, .func (.func 93) #[] #[], .func (.func 62) #[] #[]] τ [] (fun v τ' vs' => v = .tuple #[.int .i64 rr.1, .int .i64 rr.2.1, .int .i64 rr.2.2] ∧ vs' = []) := by
  obtain ⟨A0, c0, rfl, -⟩ := r0.form
  refine ctr_of (args := [.slice A0 p0.length c0, .int .i64 p1, .func (.func 93) #[] #[], .func (.func 62) #[] #[]]) hm Try.func92 s92 rfl fun w0 σ hO Q hQ => ?_
  unfold zcJ at hF
  have hL := Hp.le.refl τ
  show wpn _ _ a92.body _ _ _
  unfold a92
  dsimp only
  refine wpn_qa hO [] [(0, .slice A0 p0.length c0), (1, .int .i64 p1), (2, .func (.func 93) #[] #[]), (3, .func (.func 62) #[] #[])] (ar (ar (ar (ar trivial)))) fun j => ?_
  refine wpn_assoc ?_
  refine wpn_qa hO [] [(0, .slice A0 p0.length c0), (1, .int .i64 p1), (2, .func (.func 93) #[] #[]), (3, .func (.func 62) #[] #[]), (21, .bool ((decide (p1 < 0)) || (decide (p1 > (p0.length : Int)))))] (And.intro (And.intro rfl rfl) (fun _ => ar (ar (ar (ar (ar trivial)))))) fun j => ?_
  rcases ite_some hF with ⟨hb5, hF⟩ | ⟨hb5, hF⟩
  · refine wpn_cT (congrArg Value.bool hb5) ?_
    refine wpn_assoc ?_
    refine wpn_qa hO [] [(8, .int .i64 0), (9, .int .i64 0), (10, .int .i64 1)] (ar (ar (ar trivial))) fun j => ?_
    refine wpn_rt ?_
    injection hF with hF
    subst hF
    exact hQ _ _ _ _ _ rfl hO hL ⟨rfl, rfl⟩
  · refine wpn_cF (congrArg Value.bool hb5) ?_
    refine wpn_sk ?_
    refine wpn_q hO 2 [] [(0, .slice A0 p0.length c0), (1, .int .i64 p1), (2, .func (.func 93) #[] #[]), (3, .func (.func 62) #[] #[]), (23, .slice A0 p0.length c0), (24, .int .i64 p1)] (ar (ar (ar (ar (ar (ar trivial)))))) fun j => ?_
    obtain ⟨y6, g7, hF⟩ := bind_some hF
    refine wpn_sl (T := Ty.u8) r0 rfl rfl rfl g7 fun _ r8 => ?_
    obtain ⟨A9, c10, rfl, -⟩ := r8.form
    obtain ⟨c11, h12, hF⟩ := bind_some hF
    refine wpn_c0 hO (zdI r8 h12) rfl fun _ σ _ _ hO h13 h14 => ?_
    have hL := hL.trans h13
    have r0 := r0.le h13
    have r8 := r8.le h13
    obtain ⟨rfl, rfl⟩ := h14
    have hO : Obs _ _ [] := hO
    refine wpn_qa hO [] [(0, .slice A0 p0.length c0), (1, .int .i64 p1), (2, .func (.func 93) #[] #[]), (3, .func (.func 62) #[] #[]), (11, .int .u64 c11.1), (12, .int .i64 c11.2)] (ar (ar (ar (ar (ar (ar trivial)))))) fun j => ?_
    refine wpn_q hO 3 [] [(0, .slice A0 p0.length c0), (1, .int .i64 p1), (3, .func (.func 62) #[] #[]), (12, .int .i64 c11.2), (29, .func (.func 93) #[] #[]), (30, .int .u64 c11.1), (31, .int .i64 c11.2)] (ar (ar (ar (ar (ar (ar (ar trivial))))))) fun j => ?_
    obtain ⟨c15, h16, hF⟩ := bind_some hF
    refine wpn_cv0 rfl (by kernel_rfl) hO (zeF h16) rfl fun _ σ _ _ hO h17 h18 => ?_
    have hL := hL.trans h17
    have r0 := r0.le h17
    obtain ⟨rfl, rfl⟩ := h18
    have hO : Obs _ _ [] := hO
    refine wpn_qa hO [] [(0, .slice A0 p0.length c0), (1, .int .i64 p1), (3, .func (.func 62) #[] #[]), (12, .int .i64 c11.2), (13, .int .i64 c15)] (ar (ar (ar (ar (ar trivial))))) fun j => ?_
    refine wpn_assoc ?_
    refine wpn_p2r ?_
    refine wpn_q hO 3 [] [(0, .slice A0 p0.length c0), (1, .int .i64 p1), (3, .func (.func 62) #[] #[]), (12, .int .i64 c11.2), (13, .int .i64 c15), (35, .bool (c11.2 == 0))] (ar (ar (ar (ar (ar (ar trivial)))))) fun j => ?_
    obtain ⟨c19, h20, hF⟩ := bind_some hF
    refine wpn_mid 2 (fun e' σ' => ∃ (τ' : Hp), agr [(47, .bool c19), (1, .int .i64 p1), (12, .int .i64 c11.2), (13, .int .i64 c15)] e' ∧ Obs τ' σ' [] ∧ Hp.le τ τ') ?_ ?_
    · have hF := h20
      rcases ite_some hF with ⟨hb21, hF⟩ | ⟨hb21, hF⟩
      · refine wpn_gF (congrArg (fun x => isB (.bool x) false) hb21) ?_
        refine wpn_pk (congrArg Value.bool hb21) ?_
        refine wpn_nil ?_
        injection hF with hF
        subst hF
        refine wpn_end ?_
        exact ⟨rfl, _, ar (ar (ar (ar trivial))), hO, hL⟩
      · refine wpn_gT (congrArg (fun x => isB (.bool x) false) hb21) ?_
        refine wpn_q hO 7 [] [(1, .int .i64 p1), (12, .int .i64 c11.2), (13, .int .i64 c15), (35, .bool (c11.2 == 0)), (36, .func (.func 62) #[] #[]), (37, .int .i64 c15), (39, .slice A0 p0.length c0), (40, .int .i64 p1), (43, .int .i64 (IntKind.i64.wrap (p1 + c11.2)))] (ar (ar (ar (ar (ar (ar (ar (ar (ar trivial))))))))) fun j => ?_
        obtain ⟨y22, g23, hF⟩ := bind_some hF
        refine wpn_sl (T := Ty.u8) r0 rfl rfl rfl g23 fun _ r24 => ?_
        obtain ⟨A25, c26, rfl, -⟩ := r24.form
        obtain ⟨c27, h28, hF⟩ := bind_some hF
        refine wpn_cv0 rfl (by kernel_rfl) hO (zdG (RdT.nil Ty.u8 _) h28) rfl fun _ σ _ _ hO h29 h30 => ?_
        have hL := hL.trans h29
        have r0 := r0.le h29
        have r24 := r24.le h29
        obtain ⟨v31, o34, rfl, rfl, w35⟩ := h30
        obtain ⟨A32, c33, rfl, -⟩ := w35.form
        have hO : Obs _ _ [_] := hO
        obtain ⟨_, h37, r36, hO⟩ := w35.share hO (i := 0) rfl
        have hL := hL.trans h37
        have r0 := r0.le h37
        have r24 := r24.le h37
        have hO : Obs _ _ [_] := hO
        obtain ⟨c38, h39, hF⟩ := bind_some hF
        refine wpn_c0 hO (zdH r36 r24 h39) rfl fun _ σ _ _ hO h40 h41 => ?_
        have hL := hL.trans h40
        have r36 := r36.le h40
        have r0 := r0.le h40
        have r24 := r24.le h40
        obtain ⟨rfl, rfl⟩ := h41
        have hO : Obs _ _ [_] := hO
        refine wpn_q hO 1 [] [(1, .int .i64 p1), (12, .int .i64 c11.2), (13, .int .i64 c15), (35, .bool (c11.2 == 0)), (46, .bool (!c38))] (ar (ar (ar (ar (ar trivial))))) fun j => ?_
        refine wpn_pk (congrArg Value.bool hb21) ?_
        refine wpn_nil ?_
        injection hF with hF
        subst hF
        refine wpn_end ?_
        have hO := hO.sel [] (by decide)
        exact ⟨rfl, _, ar (ar (ar (ar trivial))), hO, hL⟩
    · rintro e σ ⟨_, hA, hO, hL⟩
      rw [← sets_agr _ _ hA]
      refine wpn_nil ?_
      rcases ite_some hF with ⟨hb42, hF⟩ | ⟨hb42, hF⟩
      · refine wpn_cT (congrArg Value.bool hb42) ?_
        refine wpn_assoc ?_
        refine wpn_qa hO [] [(8, .int .i64 0), (9, .int .i64 0), (10, .int .i64 5)] (ar (ar (ar trivial))) fun j => ?_
        refine wpn_rt ?_
        injection hF with hF
        subst hF
        exact hQ _ _ _ _ _ rfl hO hL ⟨rfl, rfl⟩
      · refine wpn_cF (congrArg Value.bool hb42) ?_
        refine wpn_sk ?_
        refine wpn_qa hO [] [(8, .int .i64 c15), (9, .int .i64 (IntKind.i64.wrap (p1 + c11.2))), (10, .int .i64 0)] (ar (ar (ar trivial))) fun j => ?_
        refine wpn_r1 ?_
        injection hF with hF
        subst hF
        exact hQ _ _ _ _ _ rfl hO hL ⟨rfl, rfl⟩
theorem zdU {τ : Hp} {v0 : Value} {p0 : (List UInt8)} {p1 : Int} (r0 : RdT Ty.u8 τ v0 p0) {rr : Int × Int × Int} (hF : zch p0 p1 = some rr) :
    Ctr Try.prog 64 #[v0, .int .i64 p1] τ [] (fun v τ' vs' => v = .tuple #[.int .i64 rr.1, .int .i64 rr.2.1, .int .i64 rr.2.2] ∧ vs' = []) := by
  obtain ⟨A0, c0, rfl, -⟩ := r0.form
  refine ctr_of (args := [.slice A0 p0.length c0, .int .i64 p1]) hm Try.func64 s64 rfl fun w0 σ hO Q hQ => ?_
  unfold zch at hF
  have hL := Hp.le.refl τ
  show wpn _ _ a64.body _ _ _
  unfold a64
  dsimp only
  refine wpn_qa hO [] [(0, .slice A0 p0.length c0), (1, .int .i64 p1)] (ar (ar trivial)) fun j => ?_
  refine wpn_q hO 2 [] [(7, .slice A0 p0.length c0), (8, .int .i64 p1)] (ar (ar trivial)) fun j => ?_
  obtain ⟨c3, h4, hF⟩ := bind_some hF
  refine wpn_c0 hO (ze8 r0 h4) rfl fun _ σ _ _ hO h5 h6 => ?_
  have hL := hL.trans h5
  have r0 := r0.le h5
  obtain ⟨rfl, rfl⟩ := h6
  have hO : Obs _ _ [] := hO
  refine wpn_qa hO [] [(4, .int .i64 c3.1), (5, .int .i64 c3.2.1), (6, .int .i64 c3.2.2)] (ar (ar (ar trivial))) fun j => ?_
  refine wpn_r1 ?_
  injection hF with hF
  subst hF
  exact hQ _ _ _ _ _ rfl hO hL ⟨rfl, rfl⟩
theorem zdx {τ : Hp} {v0 : Value} {p0 : (List UInt8)} {p1 : Int} {q2 : za} {bm2 : Nat} (r0 : RdT Ty.u8 τ v0 p0) {rr : Int × Bool × za} (hF : zH p0 p1 q2 = some rr) :
    Ctr Try.prog 63 #[v0, .int .i64 p1, .pointer (some ⟨bm2, 0, none⟩)] τ [some (bm2, ⟨[.int .u8 q2.Kind.toNat, .int .u8 q2.Op.toNat, .int .i64 q2.R, .int .i64 q2.S, .int .i64 q2.T, .int .i64 q2.N, .int .i64 q2.M], 24, 7, true⟩)] (fun v τ' vs' => v = .tuple #[.int .i64 rr.1, .bool rr.2.1] ∧ vs' = [some (bm2, ⟨[.int .u8 rr.2.2.Kind.toNat, .int .u8 rr.2.2.Op.toNat, .int .i64 rr.2.2.R, .int .i64 rr.2.2.S, .int .i64 rr.2.2.T, .int .i64 rr.2.2.N, .int .i64 rr.2.2.M], 24, 7, true⟩)]) := by
  obtain ⟨A0, c0, rfl, -⟩ := r0.form
  refine ctr_of (args := [.slice A0 p0.length c0, .int .i64 p1, .pointer (some ⟨bm2, 0, none⟩)]) hm Try.func63 s63 rfl fun w0 σ hO Q hQ => ?_
  unfold zH at hF
  have hL := Hp.le.refl τ
  show wpn _ _ a63.body _ _ _
  unfold a63
  dsimp only
  refine wpn_qa hO [] [(0, .slice A0 p0.length c0), (1, .int .i64 p1), (2, .pointer (some ⟨bm2, 0, none⟩))] (ar (ar (ar trivial))) fun j => ?_
  refine wpn_q hO 2 [] [(2, .pointer (some ⟨bm2, 0, none⟩)), (12, .slice A0 p0.length c0), (13, .int .i64 p1)] (ar (ar (ar trivial))) fun j => ?_
  obtain ⟨c4, h5, hF⟩ := bind_some hF
  refine wpn_c0 hO (zdU r0 h5) rfl fun _ σ _ _ hO h6 h7 => ?_
  have hL := hL.trans h6
  have r0 := r0.le h6
  obtain ⟨rfl, rfl⟩ := h7
  have hO : Obs _ _ [_] := hO
  refine wpn_qa hO [] [(2, .pointer (some ⟨bm2, 0, none⟩)), (8, .int .i64 c4.1), (9, .int .i64 c4.2.1), (10, .int .i64 c4.2.2)] (ar (ar (ar (ar trivial)))) fun j => ?_
  refine wpn_q hO 4 [] [(2, .pointer (some ⟨bm2, 0, none⟩)), (9, .int .i64 c4.2.1), (10, .int .i64 c4.2.2), (19, .int .i64 c4.1), (21, .pointer (some ⟨bm2, 5, none⟩))] (ar (ar (ar (ar (ar trivial))))) fun j => ?_
  refine wpn_st hO (i := 0) rfl (off := 5) rfl rfl rfl rfl (Nat.le_of_ble_eq_true rfl) rfl fun σ hO => ?_
  have hO : Obs _ _ [_] := hO
  refine wpn_nil ?_
  refine wpn_qa hO [] [(2, .pointer (some ⟨bm2, 0, none⟩)), (6, .int .i64 c4.2.1), (7, .bool (c4.2.2 == 0))] (ar (ar (ar trivial))) fun j => ?_
  refine wpn_r1 ?_
  injection hF with hF
  subst hF
  exact hQ _ _ _ _ _ rfl hO hL ⟨rfl, rfl⟩
theorem zdV {τ : Hp} {q0 : za} {bm0 : Nat}  {rr : Bool × za} (hF : zcH q0 = some rr) :
    Ctr Try.prog 65 #[.pointer (some ⟨bm0, 0, none⟩)] τ [some (bm0, ⟨[.int .u8 q0.Kind.toNat, .int .u8 q0.Op.toNat, .int .i64 q0.R, .int .i64 q0.S, .int .i64 q0.T, .int .i64 q0.N, .int .i64 q0.M], 24, 7, true⟩)] (fun v τ' vs' => v = .bool rr.1 ∧ vs' = [some (bm0, ⟨[.int .u8 rr.2.Kind.toNat, .int .u8 rr.2.Op.toNat, .int .i64 rr.2.R, .int .i64 rr.2.S, .int .i64 rr.2.T, .int .i64 rr.2.N, .int .i64 rr.2.M], 24, 7, true⟩)]) := by
  refine ctr_of (args := [.pointer (some ⟨bm0, 0, none⟩)]) hm Try.func65 s65 rfl fun w0 σ hO Q hQ => ?_
  unfold zcH at hF
  have hL := Hp.le.refl τ
  show wpn _ _ a65.body _ _ _
  unfold a65
  dsimp only
  refine wpn_qa hO [] [(0, .pointer (some ⟨bm0, 0, none⟩))] (ar trivial) fun j => ?_
  refine wpn_q hO 4 [0] [(0, .pointer (some ⟨bm0, 0, none⟩)), (6, .int .i64 q0.R)] (And.intro (And.intro rfl rfl) (ar (ar trivial))) fun j => ?_
  obtain ⟨c2, h3, hF⟩ := bind_some hF
  refine wpn_c0 hO (zcW h3) rfl fun _ σ _ _ hO h4 h5 => ?_
  have hL := hL.trans h4
  obtain ⟨rfl, rfl⟩ := h5
  have hO : Obs _ _ [_] := hO
  refine wpn_q hO 1 [] [(0, .pointer (some ⟨bm0, 0, none⟩)), (8, .bool c2)] (ar (ar trivial)) fun j => ?_
  obtain ⟨c6, h7, hF⟩ := bind_some hF
  refine wpn_mid 2 (fun e' σ' => ∃ (τ' : Hp), agr [(14, .bool c6), (0, .pointer (some ⟨bm0, 0, none⟩))] e' ∧ Obs τ' σ' [some (bm0, ⟨[.int .u8 (q0.Kind.toNat : Int), .int .u8 (q0.Op.toNat : Int), .int .i64 q0.R, .int .i64 q0.S, .int .i64 q0.T, .int .i64 q0.N, .int .i64 q0.M], 24, 7, true⟩)] ∧ Hp.le τ τ') ?_ ?_
  · have hF := h7
    rcases ite_some hF with ⟨hb8, hF⟩ | ⟨hb8, hF⟩
    · refine wpn_gT (congrArg (fun x => isB (.bool x) true) hb8) ?_
      refine wpn_q hO 4 [0] [(0, .pointer (some ⟨bm0, 0, none⟩)), (8, .bool c2), (12, .int .i64 q0.S)] (And.intro (And.intro rfl rfl) (ar (ar (ar trivial)))) fun j => ?_
      obtain ⟨c9, h10, hF⟩ := bind_some hF
      refine wpn_c0 hO (zcW h10) rfl fun _ σ _ _ hO h11 h12 => ?_
      have hL := hL.trans h11
      obtain ⟨rfl, rfl⟩ := h12
      have hO : Obs _ _ [_] := hO
      refine wpn_pk (congrArg Value.bool hb8) ?_
      refine wpn_nil ?_
      injection hF with hF
      subst hF
      refine wpn_end ?_
      exact ⟨rfl, _, ar (ar trivial), hO, hL⟩
    · refine wpn_gF (congrArg (fun x => isB (.bool x) true) hb8) ?_
      refine wpn_pk (congrArg Value.bool hb8) ?_
      refine wpn_nil ?_
      injection hF with hF
      subst hF
      refine wpn_end ?_
      exact ⟨rfl, _, ar (ar trivial), hO, hL⟩
  · rintro e σ ⟨_, hA, hO, hL⟩
    rw [← sets_agr _ _ hA]
    refine wpn_qa hO [] [(0, .pointer (some ⟨bm0, 0, none⟩)), (2, .bool c6)] (ar (ar trivial)) fun j => ?_
    refine wpn_r1 ?_
    injection hF with hF
    subst hF
    exact hQ _ _ _ _ _ rfl hO hL ⟨rfl, rfl⟩
theorem zeS {τ : Hp} {p0 : Int} {p1 : Int}  {rr : Int × Bool} (hF : zbg p0 p1 = some rr) :
    Ctr Try.prog 67 #[.int .i64 p0, .int .i64 p1] τ [] (fun v τ' vs' => v = .tuple #[.int .u8 rr.1, .bool rr.2] ∧ vs' = []) := by
  refine ctr_of (args := [.int .i64 p0, .int .i64 p1]) hm Try.func67 s67 rfl fun w0 σ hO Q hQ => ?_
  unfold zbg at hF
  have hL := Hp.le.refl τ
  show wpn _ _ a67.body _ _ _
  unfold a67
  dsimp only
  refine wpn_qa hO [] [(0, .int .i64 p0), (1, .int .i64 p1)] (ar (ar trivial)) fun j => ?_
  refine wpn_assoc ?_
  refine wpn_qa hO [] [(0, .int .i64 p0), (1, .int .i64 p1), (19, .bool ((((decide (p0 < 0)) || (decide (p0 ≥ 16))) || (decide (p1 < 0))) || (decide (p1 ≥ 16))))] (And.intro (And.intro rfl rfl) (fun _ => And.intro (And.intro rfl rfl) (fun _ => And.intro (And.intro rfl rfl) (fun _ => ar (ar (ar trivial)))))) fun j => ?_
  rcases ite_some hF with ⟨hb3, hF⟩ | ⟨hb3, hF⟩
  · refine wpn_cT (congrArg Value.bool hb3) ?_
    refine wpn_assoc ?_
    refine wpn_qa hO [] [(4, .int .u8 0), (5, .bool false)] (ar (ar trivial)) fun j => ?_
    refine wpn_rt ?_
    injection hF with hF
    subst hF
    exact hQ _ _ _ _ _ rfl hO hL ⟨rfl, rfl⟩
  · refine wpn_cF (congrArg Value.bool hb3) ?_
    refine wpn_sk ?_
    refine wpn_qa hO [] [(4, .int .u8 (IntKind.u8.wrap (orI .i64 (shlI .i64 p0 4) p1))), (5, .bool true)] (ar (ar trivial)) fun j => ?_
    refine wpn_r1 ?_
    injection hF with hF
    subst hF
    exact hQ _ _ _ _ _ rfl hO hL ⟨rfl, rfl⟩
theorem zee {τ : Hp} {q0 : za} {bm0 : Nat}  {rr : Int × za} (hF : zcu q0 = some rr) :
    Ctr Try.prog 66 #[.pointer (some ⟨bm0, 0, none⟩)] τ [some (bm0, ⟨[.int .u8 q0.Kind.toNat, .int .u8 q0.Op.toNat, .int .i64 q0.R, .int .i64 q0.S, .int .i64 q0.T, .int .i64 q0.N, .int .i64 q0.M], 24, 7, true⟩)] (fun v τ' vs' => v = .int .u8 rr.1 ∧ vs' = [some (bm0, ⟨[.int .u8 rr.2.Kind.toNat, .int .u8 rr.2.Op.toNat, .int .i64 rr.2.R, .int .i64 rr.2.S, .int .i64 rr.2.T, .int .i64 rr.2.N, .int .i64 rr.2.M], 24, 7, true⟩)]) := by
  refine ctr_of (args := [.pointer (some ⟨bm0, 0, none⟩)]) hm Try.func66 s66 rfl fun w0 σ hO Q hQ => ?_
  unfold zcu at hF
  have hL := Hp.le.refl τ
  show wpn _ _ a66.body _ _ _
  unfold a66
  dsimp only
  refine wpn_qa hO [] [(0, .pointer (some ⟨bm0, 0, none⟩))] (ar trivial) fun j => ?_
  refine wpn_p2r ?_
  refine wpn_q hO 8 [0, 0] [(0, .pointer (some ⟨bm0, 0, none⟩)), (9, .int .i64 q0.R), (13, .int .i64 q0.S)] (And.intro (And.intro rfl rfl) (And.intro (And.intro rfl rfl) (ar (ar (ar trivial))))) fun j => ?_
  obtain ⟨c2, h3, hF⟩ := bind_some hF
  refine wpn_c0 hO (zeS h3) rfl fun _ σ _ _ hO h4 h5 => ?_
  have hL := hL.trans h4
  obtain ⟨rfl, rfl⟩ := h5
  have hO : Obs _ _ [_] := hO
  refine wpn_qa hO [] [(0, .pointer (some ⟨bm0, 0, none⟩)), (3, .int .u8 c2.1)] (ar (ar trivial)) fun j => ?_
  refine wpn_qa hO [] [(0, .pointer (some ⟨bm0, 0, none⟩)), (2, .int .u8 c2.1)] (ar (ar trivial)) fun j => ?_
  refine wpn_r1 ?_
  injection hF with hF
  subst hF
  exact hQ _ _ _ _ _ rfl hO hL ⟨rfl, rfl⟩
theorem ze9 {τ : Hp} {p0 : Int}  {rr : Int × Int} (hF : zbv p0 = some rr) :
    Ctr Try.prog 69 #[.int .u8 p0] τ [] (fun v τ' vs' => v = .tuple #[.int .i64 rr.1, .int .i64 rr.2] ∧ vs' = []) := by
  refine ctr_of (args := [.int .u8 p0]) hm Try.func69 s69 rfl fun w0 σ hO Q hQ => ?_
  unfold zbv at hF
  have hL := Hp.le.refl τ
  show wpn _ _ a69.body _ _ _
  unfold a69
  dsimp only
  refine wpn_qa hO [] [(0, .int .u8 p0)] (ar trivial) fun j => ?_
  refine wpn_qa hO [] [(2, .int .i64 (IntKind.i64.wrap (shrI .u8 p0 4))), (3, .int .i64 (IntKind.i64.wrap (andI .u8 p0 15)))] (ar (ar trivial)) fun j => ?_
  refine wpn_r1 ?_
  injection hF with hF
  subst hF
  exact hQ _ _ _ _ _ rfl hO hL ⟨rfl, rfl⟩
theorem zd1 {τ : Hp} {q0 : za} {bm0 : Nat} {p1 : Int}  {rr : za} (hF : zbE q0 p1 = some rr) :
    Ctr Try.prog 68 #[.pointer (some ⟨bm0, 0, none⟩), .int .u8 p1] τ [some (bm0, ⟨[.int .u8 q0.Kind.toNat, .int .u8 q0.Op.toNat, .int .i64 q0.R, .int .i64 q0.S, .int .i64 q0.T, .int .i64 q0.N, .int .i64 q0.M], 24, 7, true⟩)] (fun v τ' vs' => v = .tuple #[] ∧ vs' = [some (bm0, ⟨[.int .u8 rr.Kind.toNat, .int .u8 rr.Op.toNat, .int .i64 rr.R, .int .i64 rr.S, .int .i64 rr.T, .int .i64 rr.N, .int .i64 rr.M], 24, 7, true⟩)]) := by
  refine ctr_ofn (args := [.pointer (some ⟨bm0, 0, none⟩), .int .u8 p1]) hm Try.func68 s68 rfl fun w0 σ hO Q hQ => ?_
  unfold zbE at hF
  have hL := Hp.le.refl τ
  show wpn _ _ a68.body _ _ _
  unfold a68
  dsimp only
  refine wpn_rlast ?_
  refine wpn_q hO 3 [] [(0, .pointer (some ⟨bm0, 0, none⟩)), (5, .pointer (some ⟨bm0, 0, none⟩)), (6, .pointer (some ⟨bm0, 0, none⟩)), (7, .int .u8 p1)] (ar (ar (ar (ar trivial)))) fun j => ?_
  obtain ⟨c3, h4, hF⟩ := bind_some hF
  refine wpn_c0 hO (ze9 h4) rfl fun _ σ _ _ hO h5 h6 => ?_
  have hL := hL.trans h5
  obtain ⟨rfl, rfl⟩ := h6
  have hO : Obs _ _ [_] := hO
  refine wpn_q hO 5 [] [(0, .pointer (some ⟨bm0, 0, none⟩)), (6, .pointer (some ⟨bm0, 0, none⟩)), (9, .int .i64 c3.1), (10, .int .i64 c3.2), (12, .pointer (some ⟨bm0, 2, none⟩))] (ar (ar (ar (ar (ar trivial))))) fun j => ?_
  refine wpn_st hO (i := 0) rfl (off := 2) rfl rfl rfl rfl (Nat.le_of_ble_eq_true rfl) rfl fun σ hO => ?_
  have hO : Obs _ _ [_] := hO
  refine wpn_q hO 2 [] [(0, .pointer (some ⟨bm0, 0, none⟩)), (10, .int .i64 c3.2), (14, .pointer (some ⟨bm0, 3, none⟩))] (ar (ar (ar trivial))) fun j => ?_
  refine wpn_st hO (i := 0) rfl (off := 3) rfl rfl rfl rfl (Nat.le_of_ble_eq_true rfl) rfl fun σ hO => ?_
  have hO : Obs _ _ [_] := hO
  refine wpn_nil ?_
  refine wpn_end ?_
  injection hF with hF
  subst hF
  exact (hQ _ _ _ _ _ rfl hO hL ⟨rfl, rfl⟩).2
theorem zfj {τ : Hp}   {rr : zd} (hF : zdb  = some rr) :
    Ctr Try.prog 56 #[.func (.func 65) #[] #[], .func (.func 66) #[] #[], .func (.func 68) #[] #[]] τ [] (fun v τ' vs' => ∃ (f0_0 : Fn) (a0_0 c0_0 : Array Value) (f0_1 : Fn) (a0_1 c0_1 : Array Value) (f0_2 : Fn) (a0_2 c0_2 : Array Value), v = .agg #[.func f0_0 a0_0 c0_0, .func f0_1 a0_1 c0_1, .func f0_2 a0_2 c0_2] ∧ vs' = [] ∧ zi τ' rr (.func f0_0 a0_0 c0_0) (.func f0_1 a0_1 c0_1) (.func f0_2 a0_2 c0_2)) := by
  refine ctr_of (args := [.func (.func 65) #[] #[], .func (.func 66) #[] #[], .func (.func 68) #[] #[]]) hm Try.func56 s56 rfl fun w0 σ hO Q hQ => ?_
  unfold zdb at hF
  have hL := Hp.le.refl τ
  show wpn _ _ a56.body _ _ _
  unfold a56
  dsimp only
  refine wpn_bx (n := 1) hO rfl rfl fun b4 σ hO => ?_
  have hO : Obs _ _ [_] := hO
  refine wpn_bx (n := 1) hO rfl rfl fun b5 σ hO => ?_
  have hO : Obs _ _ [_, _] := hO
  refine wpn_al hO fun b6 σ hO => ?_
  have hO : Obs _ _ [_, _, _] := hO
  refine wpn_nil ?_
  refine wpn_q hO 4 [] [(6, .pointer (some ⟨b6, 0, none⟩)), (10, .agg #[(.func (.func 65) #[] #[]), (.func (.func 89) #[] #[(.pointer (some ⟨b4, 0, none⟩))]), (.func (.func 90) #[] #[(.pointer (some ⟨b5, 0, none⟩))])])] (ar (ar trivial)) fun j => ?_
  refine wpn_st hO (i := 2) rfl (off := 0) rfl rfl rfl rfl (Nat.le_of_ble_eq_true rfl) rfl fun σ hO => ?_
  have hO : Obs _ _ [_, _, _] := hO
  refine wpn_nil ?_
  refine wpn_r1 ?_
  obtain ⟨_, h8, m7, hO⟩ := hO.shareV (i := 0) rfl
  have hL := hL.trans h8
  have hO : Obs _ _ [_, _, _] := hO
  obtain ⟨_, h10, m9, hO⟩ := hO.shareV (i := 1) rfl
  have hL := hL.trans h10
  have m7 := m7.le h10
  have hO : Obs _ _ [_, _, _] := hO
  injection hF with hF
  subst hF
  have hV0 := hO.val (i := 2) rfl (off := 0) (agg := true) (n := 3) rfl
  have hO := hO.sel [] (by decide)
  exact hQ _ _ _ _ _ (resvs_c rfl (hV0) rfl) hO hL ⟨_, _, _, _, _, _, _, _, _, rfl, rfl, ⟨(⟨b4, 0, none⟩ : Addr), (⟨b5, 0, none⟩ : Addr), rfl, rfl, rfl, m7, m9⟩⟩
theorem zbu {τ : Hp}   {rr : zd} (hF : zN  = some rr) :
    Ctr Try.prog 49 #[] τ [] (fun v τ' vs' => ∃ (f0_0 : Fn) (a0_0 c0_0 : Array Value) (f0_1 : Fn) (a0_1 c0_1 : Array Value) (f0_2 : Fn) (a0_2 c0_2 : Array Value), v = .agg #[.func f0_0 a0_0 c0_0, .func f0_1 a0_1 c0_1, .func f0_2 a0_2 c0_2] ∧ vs' = [] ∧ zi τ' rr (.func f0_0 a0_0 c0_0) (.func f0_1 a0_1 c0_1) (.func f0_2 a0_2 c0_2)) := by
  refine ctr_of (args := []) hm Try.func49 s49 rfl fun w0 σ hO Q hQ => ?_
  unfold zN at hF
  have hL := Hp.le.refl τ
  show wpn _ _ a49.body _ _ _
  unfold a49
  dsimp only
  refine wpn_al hO fun b1 σ hO => ?_
  have hO : Obs _ _ [_] := hO
  refine wpn_nil ?_
  obtain ⟨c2, h3, hF⟩ := bind_some hF
  refine wpn_c0 hO (zfj h3) rfl fun _ σ _ _ hO h4 h5 => ?_
  have hL := hL.trans h4
  obtain ⟨f7, a8, c9, f10, a11, c12, f13, a14, c15, rfl, rfl, r6⟩ := h5
  have hO : Obs _ _ [_] := hO
  refine wpn_st hO (i := 0) rfl (off := 0) rfl rfl rfl rfl (Nat.le_of_ble_eq_true rfl) rfl fun σ hO => ?_
  have hO : Obs _ _ [_] := hO
  refine wpn_nil ?_
  refine wpn_r1 ?_
  injection hF with hF
  subst hF
  have hV0 := hO.val (i := 0) rfl (off := 0) (agg := true) (n := 3) rfl
  have hO := hO.sel [] (by decide)
  exact hQ _ _ _ _ _ (resvs_c rfl (hV0) rfl) hO hL ⟨_, _, _, _, _, _, _, _, _, rfl, rfl, r6⟩
theorem zeU {τ : Hp} {q0 : za} {bm0 : Nat}  {rr : Int × za} (hF : zcq q0 = some rr) :
    Ctr Try.prog 71 #[.pointer (some ⟨bm0, 0, none⟩)] τ [some (bm0, ⟨[.int .u8 q0.Kind.toNat, .int .u8 q0.Op.toNat, .int .i64 q0.R, .int .i64 q0.S, .int .i64 q0.T, .int .i64 q0.N, .int .i64 q0.M], 24, 7, true⟩)] (fun v τ' vs' => v = .int .u8 rr.1 ∧ vs' = [some (bm0, ⟨[.int .u8 rr.2.Kind.toNat, .int .u8 rr.2.Op.toNat, .int .i64 rr.2.R, .int .i64 rr.2.S, .int .i64 rr.2.T, .int .i64 rr.2.N, .int .i64 rr.2.M], 24, 7, true⟩)]) := by
  refine ctr_of (args := [.pointer (some ⟨bm0, 0, none⟩)]) hm Try.func71 s71 rfl fun w0 σ hO Q hQ => ?_
  unfold zcq at hF
  have hL := Hp.le.refl τ
  show wpn _ _ a71.body _ _ _
  unfold a71
  dsimp only
  refine wpn_qa hO [] [(0, .pointer (some ⟨bm0, 0, none⟩))] (ar trivial) fun j => ?_
  refine wpn_qa hO [0] [(0, .pointer (some ⟨bm0, 0, none⟩)), (2, .int .u8 (q0.Op.toNat : Int))] (And.intro (And.intro rfl rfl) (ar (ar trivial))) fun j => ?_
  refine wpn_r1 ?_
  injection hF with hF
  subst hF
  exact hQ _ _ _ _ _ rfl hO hL ⟨rfl, rfl⟩
theorem ze5 {τ : Hp} {q0 : za} {bm0 : Nat} {p1 : Int}  {rr : za} (hF : zcd q0 p1 = some rr) :
    Ctr Try.prog 72 #[.pointer (some ⟨bm0, 0, none⟩), .int .u8 p1] τ [some (bm0, ⟨[.int .u8 q0.Kind.toNat, .int .u8 q0.Op.toNat, .int .i64 q0.R, .int .i64 q0.S, .int .i64 q0.T, .int .i64 q0.N, .int .i64 q0.M], 24, 7, true⟩)] (fun v τ' vs' => v = .tuple #[] ∧ vs' = [some (bm0, ⟨[.int .u8 rr.Kind.toNat, .int .u8 rr.Op.toNat, .int .i64 rr.R, .int .i64 rr.S, .int .i64 rr.T, .int .i64 rr.N, .int .i64 rr.M], 24, 7, true⟩)]) := by
  refine ctr_ofn (args := [.pointer (some ⟨bm0, 0, none⟩), .int .u8 p1]) hm Try.func72 s72 rfl fun w0 σ hO Q hQ => ?_
  unfold zcd at hF
  have hL := Hp.le.refl τ
  show wpn _ _ a72.body _ _ _
  unfold a72
  dsimp only
  refine wpn_rlast ?_
  refine wpn_q hO 4 [] [(0, .pointer (some ⟨bm0, 0, none⟩)), (5, .int .u8 p1), (7, .pointer (some ⟨bm0, 1, none⟩))] (ar (ar (ar trivial))) fun j => ?_
  refine wpn_st hO (i := 0) rfl (off := 1) rfl rfl rfl rfl (Nat.le_of_ble_eq_true rfl) rfl fun σ hO => ?_
  have hO : Obs _ _ [_] := hO
  refine wpn_nil ?_
  refine wpn_end ?_
  obtain ⟨z3, hz3, hF⟩ := bind_some hF
  injection hF with hF
  subst hF
  exact (hQ _ _ _ _ _ rfl hO hL ⟨(by first | rfl | (simp only [u8o_eq hz3]; done) | (simp only [← u8o_eq hz3]; try rfl)), (by first | rfl | (simp only [u8o_eq hz3]; done) | (simp only [← u8o_eq hz3]; try rfl))⟩).2
theorem zeZ {τ : Hp} {q0_0 : Int} {a0_0 : Addr} {q0_1 : Int} {a0_1 : Addr} (m0_0 : At τ a0_0 [.int .u8 q0_0]) (m0_1 : At τ a0_1 [.int .u8 q0_1]) {rr : zd} (hF : zc1 q0_0 q0_1 = some rr) :
    Ctr Try.prog 56 #[.func (.func 70) #[] #[(.pointer (some a0_0)), (.pointer (some a0_1))], .func (.func 71) #[] #[], .func (.func 72) #[] #[]] τ [] (fun v τ' vs' => ∃ (f0_0 : Fn) (a0_0 c0_0 : Array Value) (f0_1 : Fn) (a0_1 c0_1 : Array Value) (f0_2 : Fn) (a0_2 c0_2 : Array Value), v = .agg #[.func f0_0 a0_0 c0_0, .func f0_1 a0_1 c0_1, .func f0_2 a0_2 c0_2] ∧ vs' = [] ∧ zi τ' rr (.func f0_0 a0_0 c0_0) (.func f0_1 a0_1 c0_1) (.func f0_2 a0_2 c0_2)) := by
  refine ctr_of (args := [.func (.func 70) #[] #[(.pointer (some a0_0)), (.pointer (some a0_1))], .func (.func 71) #[] #[], .func (.func 72) #[] #[]]) hm Try.func56 s56 rfl fun w0 σ hO Q hQ => ?_
  unfold zc1 at hF
  have hL := Hp.le.refl τ
  show wpn _ _ a56.body _ _ _
  unfold a56
  dsimp only
  refine wpn_bx (n := 1) hO rfl rfl fun b4 σ hO => ?_
  have hO : Obs _ _ [_] := hO
  refine wpn_bx (n := 1) hO rfl rfl fun b5 σ hO => ?_
  have hO : Obs _ _ [_, _] := hO
  refine wpn_al hO fun b6 σ hO => ?_
  have hO : Obs _ _ [_, _, _] := hO
  refine wpn_nil ?_
  refine wpn_q hO 4 [] [(6, .pointer (some ⟨b6, 0, none⟩)), (10, .agg #[(.func (.func 70) #[] #[(.pointer (some a0_0)), (.pointer (some a0_1))]), (.func (.func 89) #[] #[(.pointer (some ⟨b4, 0, none⟩))]), (.func (.func 90) #[] #[(.pointer (some ⟨b5, 0, none⟩))])])] (ar (ar trivial)) fun j => ?_
  refine wpn_st hO (i := 2) rfl (off := 0) rfl rfl rfl rfl (Nat.le_of_ble_eq_true rfl) rfl fun σ hO => ?_
  have hO : Obs _ _ [_, _, _] := hO
  refine wpn_nil ?_
  refine wpn_r1 ?_
  obtain ⟨_, h8, m7, hO⟩ := hO.shareV (i := 0) rfl
  have hL := hL.trans h8
  have m0_0 := m0_0.le h8
  have m0_1 := m0_1.le h8
  have hO : Obs _ _ [_, _, _] := hO
  obtain ⟨_, h10, m9, hO⟩ := hO.shareV (i := 1) rfl
  have hL := hL.trans h10
  have m0_0 := m0_0.le h10
  have m0_1 := m0_1.le h10
  have m7 := m7.le h10
  have hO : Obs _ _ [_, _, _] := hO
  injection hF with hF
  subst hF
  have hV0 := hO.val (i := 2) rfl (off := 0) (agg := true) (n := 3) rfl
  have hO := hO.sel [] (by decide)
  exact hQ _ _ _ _ _ (resvs_c rfl (hV0) rfl) hO hL ⟨_, _, _, _, _, _, _, _, _, rfl, rfl, ⟨a0_0, a0_1, (⟨b4, 0, none⟩ : Addr), (⟨b5, 0, none⟩ : Addr), rfl, rfl, rfl, m0_0, m0_1, m7, m9⟩⟩
theorem zdK {τ : Hp} {p0 : Int} {p1 : Int}  {rr : zd} (hF : zcT p0 p1 = some rr) :
    Ctr Try.prog 50 #[.int .u8 p0, .int .u8 p1] τ [] (fun v τ' vs' => ∃ (f0_0 : Fn) (a0_0 c0_0 : Array Value) (f0_1 : Fn) (a0_1 c0_1 : Array Value) (f0_2 : Fn) (a0_2 c0_2 : Array Value), v = .agg #[.func f0_0 a0_0 c0_0, .func f0_1 a0_1 c0_1, .func f0_2 a0_2 c0_2] ∧ vs' = [] ∧ zi τ' rr (.func f0_0 a0_0 c0_0) (.func f0_1 a0_1 c0_1) (.func f0_2 a0_2 c0_2)) := by
  refine ctr_of (args := [.int .u8 p0, .int .u8 p1]) hm Try.func50 s50 rfl fun w0 σ hO Q hQ => ?_
  unfold zcT at hF
  have hL := Hp.le.refl τ
  show wpn _ _ a50.body _ _ _
  unfold a50
  dsimp only
  refine wpn_bx (n := 1) hO rfl rfl fun b3 σ hO => ?_
  have hO : Obs _ _ [_] := hO
  refine wpn_bx (n := 1) hO rfl rfl fun b4 σ hO => ?_
  have hO : Obs _ _ [_, _] := hO
  refine wpn_al hO fun b5 σ hO => ?_
  have hO : Obs _ _ [_, _, _] := hO
  refine wpn_nil ?_
  refine wpn_q hO 1 [] [(4, .pointer (some ⟨b5, 0, none⟩)), (5, .func (.func 70) #[] #[(.pointer (some ⟨b3, 0, none⟩)), (.pointer (some ⟨b4, 0, none⟩))])] (ar (ar trivial)) fun j => ?_
  obtain ⟨_, h7, m6, hO⟩ := hO.shareV (i := 0) rfl
  have hL := hL.trans h7
  have hO : Obs _ _ [_, _, _] := hO
  obtain ⟨_, h9, m8, hO⟩ := hO.shareV (i := 1) rfl
  have hL := hL.trans h9
  have m6 := m6.le h9
  have hO : Obs _ _ [_, _, _] := hO
  obtain ⟨c10, h11, hF⟩ := bind_some hF
  refine wpn_c0 hO (zeZ m6 m8 h11) rfl fun _ σ _ _ hO h12 h13 => ?_
  have hL := hL.trans h12
  have m6 := m6.le h12
  have m8 := m8.le h12
  obtain ⟨f15, a16, c17, f18, a19, c20, f21, a22, c23, rfl, rfl, r14⟩ := h13
  have hO : Obs _ _ [_, _, _] := hO
  refine wpn_st hO (i := 2) rfl (off := 0) rfl rfl rfl rfl (Nat.le_of_ble_eq_true rfl) rfl fun σ hO => ?_
  have hO : Obs _ _ [_, _, _] := hO
  refine wpn_nil ?_
  refine wpn_r1 ?_
  injection hF with hF
  subst hF
  have hV0 := hO.val (i := 2) rfl (off := 0) (agg := true) (n := 3) rfl
  have hO := hO.sel [] (by decide)
  exact hQ _ _ _ _ _ (resvs_c rfl (hV0) rfl) hO hL ⟨_, _, _, _, _, _, _, _, _, rfl, rfl, r14⟩
theorem zeM {τ : Hp} {q0 : za} {bm0 : Nat}  {rr : Bool × za} (hF : zcB q0 = some rr) :
    Ctr Try.prog 73 #[.pointer (some ⟨bm0, 0, none⟩)] τ [some (bm0, ⟨[.int .u8 q0.Kind.toNat, .int .u8 q0.Op.toNat, .int .i64 q0.R, .int .i64 q0.S, .int .i64 q0.T, .int .i64 q0.N, .int .i64 q0.M], 24, 7, true⟩)] (fun v τ' vs' => v = .bool rr.1 ∧ vs' = [some (bm0, ⟨[.int .u8 rr.2.Kind.toNat, .int .u8 rr.2.Op.toNat, .int .i64 rr.2.R, .int .i64 rr.2.S, .int .i64 rr.2.T, .int .i64 rr.2.N, .int .i64 rr.2.M], 24, 7, true⟩)]) := by
  refine ctr_of (args := [.pointer (some ⟨bm0, 0, none⟩)]) hm Try.func73 s73 rfl fun w0 σ hO Q hQ => ?_
  unfold zcB at hF
  have hL := Hp.le.refl τ
  show wpn _ _ a73.body _ _ _
  unfold a73
  dsimp only
  refine wpn_qa hO [] [(0, .pointer (some ⟨bm0, 0, none⟩))] (ar trivial) fun j => ?_
  refine wpn_q hO 4 [0] [(0, .pointer (some ⟨bm0, 0, none⟩)), (6, .int .i64 q0.T)] (And.intro (And.intro rfl rfl) (ar (ar trivial))) fun j => ?_
  obtain ⟨c2, h3, hF⟩ := bind_some hF
  refine wpn_c0 hO (zcW h3) rfl fun _ σ _ _ hO h4 h5 => ?_
  have hL := hL.trans h4
  obtain ⟨rfl, rfl⟩ := h5
  have hO : Obs _ _ [_] := hO
  refine wpn_qa hO [] [(0, .pointer (some ⟨bm0, 0, none⟩)), (2, .bool c2)] (ar (ar trivial)) fun j => ?_
  refine wpn_r1 ?_
  injection hF with hF
  subst hF
  exact hQ _ _ _ _ _ rfl hO hL ⟨rfl, rfl⟩
theorem zeA {τ : Hp} {q0 : za} {bm0 : Nat}  {rr : Int × za} (hF : zcE q0 = some rr) :
    Ctr Try.prog 74 #[.pointer (some ⟨bm0, 0, none⟩)] τ [some (bm0, ⟨[.int .u8 q0.Kind.toNat, .int .u8 q0.Op.toNat, .int .i64 q0.R, .int .i64 q0.S, .int .i64 q0.T, .int .i64 q0.N, .int .i64 q0.M], 24, 7, true⟩)] (fun v τ' vs' => v = .int .u8 rr.1 ∧ vs' = [some (bm0, ⟨[.int .u8 rr.2.Kind.toNat, .int .u8 rr.2.Op.toNat, .int .i64 rr.2.R, .int .i64 rr.2.S, .int .i64 rr.2.T, .int .i64 rr.2.N, .int .i64 rr.2.M], 24, 7, true⟩)]) := by
  refine ctr_of (args := [.pointer (some ⟨bm0, 0, none⟩)]) hm Try.func74 s74 rfl fun w0 σ hO Q hQ => ?_
  unfold zcE at hF
  have hL := Hp.le.refl τ
  show wpn _ _ a74.body _ _ _
  unfold a74
  dsimp only
  refine wpn_qa hO [] [(0, .pointer (some ⟨bm0, 0, none⟩))] (ar trivial) fun j => ?_
  refine wpn_qa hO [0] [(0, .pointer (some ⟨bm0, 0, none⟩)), (2, .int .u8 (IntKind.u8.wrap q0.T))] (And.intro (And.intro rfl rfl) (ar (ar trivial))) fun j => ?_
  refine wpn_r1 ?_
  injection hF with hF
  subst hF
  exact hQ _ _ _ _ _ rfl hO hL ⟨rfl, rfl⟩
theorem zd8 {τ : Hp} {q0 : za} {bm0 : Nat} {p1 : Int}  {rr : za} (hF : zbS q0 p1 = some rr) :
    Ctr Try.prog 75 #[.pointer (some ⟨bm0, 0, none⟩), .int .u8 p1] τ [some (bm0, ⟨[.int .u8 q0.Kind.toNat, .int .u8 q0.Op.toNat, .int .i64 q0.R, .int .i64 q0.S, .int .i64 q0.T, .int .i64 q0.N, .int .i64 q0.M], 24, 7, true⟩)] (fun v τ' vs' => v = .tuple #[] ∧ vs' = [some (bm0, ⟨[.int .u8 rr.Kind.toNat, .int .u8 rr.Op.toNat, .int .i64 rr.R, .int .i64 rr.S, .int .i64 rr.T, .int .i64 rr.N, .int .i64 rr.M], 24, 7, true⟩)]) := by
  refine ctr_ofn (args := [.pointer (some ⟨bm0, 0, none⟩), .int .u8 p1]) hm Try.func75 s75 rfl fun w0 σ hO Q hQ => ?_
  unfold zbS at hF
  have hL := Hp.le.refl τ
  show wpn _ _ a75.body _ _ _
  unfold a75
  dsimp only
  refine wpn_rlast ?_
  refine wpn_q hO 5 [] [(0, .pointer (some ⟨bm0, 0, none⟩)), (6, .int .i64 (IntKind.i64.wrap p1)), (8, .pointer (some ⟨bm0, 4, none⟩))] (ar (ar (ar trivial))) fun j => ?_
  refine wpn_st hO (i := 0) rfl (off := 4) rfl rfl rfl rfl (Nat.le_of_ble_eq_true rfl) rfl fun σ hO => ?_
  have hO : Obs _ _ [_] := hO
  refine wpn_nil ?_
  refine wpn_end ?_
  injection hF with hF
  subst hF
  exact (hQ _ _ _ _ _ rfl hO hL ⟨rfl, rfl⟩).2
theorem zez {τ : Hp}   {rr : zd} (hF : zc8  = some rr) :
    Ctr Try.prog 56 #[.func (.func 73) #[] #[], .func (.func 74) #[] #[], .func (.func 75) #[] #[]] τ [] (fun v τ' vs' => ∃ (f0_0 : Fn) (a0_0 c0_0 : Array Value) (f0_1 : Fn) (a0_1 c0_1 : Array Value) (f0_2 : Fn) (a0_2 c0_2 : Array Value), v = .agg #[.func f0_0 a0_0 c0_0, .func f0_1 a0_1 c0_1, .func f0_2 a0_2 c0_2] ∧ vs' = [] ∧ zi τ' rr (.func f0_0 a0_0 c0_0) (.func f0_1 a0_1 c0_1) (.func f0_2 a0_2 c0_2)) := by
  refine ctr_of (args := [.func (.func 73) #[] #[], .func (.func 74) #[] #[], .func (.func 75) #[] #[]]) hm Try.func56 s56 rfl fun w0 σ hO Q hQ => ?_
  unfold zc8 at hF
  have hL := Hp.le.refl τ
  show wpn _ _ a56.body _ _ _
  unfold a56
  dsimp only
  refine wpn_bx (n := 1) hO rfl rfl fun b4 σ hO => ?_
  have hO : Obs _ _ [_] := hO
  refine wpn_bx (n := 1) hO rfl rfl fun b5 σ hO => ?_
  have hO : Obs _ _ [_, _] := hO
  refine wpn_al hO fun b6 σ hO => ?_
  have hO : Obs _ _ [_, _, _] := hO
  refine wpn_nil ?_
  refine wpn_q hO 4 [] [(6, .pointer (some ⟨b6, 0, none⟩)), (10, .agg #[(.func (.func 73) #[] #[]), (.func (.func 89) #[] #[(.pointer (some ⟨b4, 0, none⟩))]), (.func (.func 90) #[] #[(.pointer (some ⟨b5, 0, none⟩))])])] (ar (ar trivial)) fun j => ?_
  refine wpn_st hO (i := 2) rfl (off := 0) rfl rfl rfl rfl (Nat.le_of_ble_eq_true rfl) rfl fun σ hO => ?_
  have hO : Obs _ _ [_, _, _] := hO
  refine wpn_nil ?_
  refine wpn_r1 ?_
  obtain ⟨_, h8, m7, hO⟩ := hO.shareV (i := 0) rfl
  have hL := hL.trans h8
  have hO : Obs _ _ [_, _, _] := hO
  obtain ⟨_, h10, m9, hO⟩ := hO.shareV (i := 1) rfl
  have hL := hL.trans h10
  have m7 := m7.le h10
  have hO : Obs _ _ [_, _, _] := hO
  injection hF with hF
  subst hF
  have hV0 := hO.val (i := 2) rfl (off := 0) (agg := true) (n := 3) rfl
  have hO := hO.sel [] (by decide)
  exact hQ _ _ _ _ _ (resvs_c rfl (hV0) rfl) hO hL ⟨_, _, _, _, _, _, _, _, _, rfl, rfl, ⟨(⟨b4, 0, none⟩ : Addr), (⟨b5, 0, none⟩ : Addr), rfl, rfl, rfl, m7, m9⟩⟩
theorem zdh {τ : Hp}   {rr : zd} (hF : zcn  = some rr) :
    Ctr Try.prog 51 #[] τ [] (fun v τ' vs' => ∃ (f0_0 : Fn) (a0_0 c0_0 : Array Value) (f0_1 : Fn) (a0_1 c0_1 : Array Value) (f0_2 : Fn) (a0_2 c0_2 : Array Value), v = .agg #[.func f0_0 a0_0 c0_0, .func f0_1 a0_1 c0_1, .func f0_2 a0_2 c0_2] ∧ vs' = [] ∧ zi τ' rr (.func f0_0 a0_0 c0_0) (.func f0_1 a0_1 c0_1) (.func f0_2 a0_2 c0_2)) := by
  refine ctr_of (args := []) hm Try.func51 s51 rfl fun w0 σ hO Q hQ => ?_
  unfold zcn at hF
  have hL := Hp.le.refl τ
  show wpn _ _ a51.body _ _ _
  unfold a51
  dsimp only
  refine wpn_al hO fun b1 σ hO => ?_
  have hO : Obs _ _ [_] := hO
  refine wpn_nil ?_
  obtain ⟨c2, h3, hF⟩ := bind_some hF
  refine wpn_c0 hO (zez h3) rfl fun _ σ _ _ hO h4 h5 => ?_
  have hL := hL.trans h4
  obtain ⟨f7, a8, c9, f10, a11, c12, f13, a14, c15, rfl, rfl, r6⟩ := h5
  have hO : Obs _ _ [_] := hO
  refine wpn_st hO (i := 0) rfl (off := 0) rfl rfl rfl rfl (Nat.le_of_ble_eq_true rfl) rfl fun σ hO => ?_
  have hO : Obs _ _ [_] := hO
  refine wpn_nil ?_
  refine wpn_r1 ?_
  injection hF with hF
  subst hF
  have hV0 := hO.val (i := 0) rfl (off := 0) (agg := true) (n := 3) rfl
  have hO := hO.sel [] (by decide)
  exact hQ _ _ _ _ _ (resvs_c rfl (hV0) rfl) hO hL ⟨_, _, _, _, _, _, _, _, _, rfl, rfl, r6⟩
theorem zeR {τ : Hp} {q0 : za} {bm0 : Nat}  {rr : Bool × za} (hF : zcC q0 = some rr) :
    Ctr Try.prog 52 #[.pointer (some ⟨bm0, 0, none⟩)] τ [some (bm0, ⟨[.int .u8 q0.Kind.toNat, .int .u8 q0.Op.toNat, .int .i64 q0.R, .int .i64 q0.S, .int .i64 q0.T, .int .i64 q0.N, .int .i64 q0.M], 24, 7, true⟩)] (fun v τ' vs' => v = .bool rr.1 ∧ vs' = [some (bm0, ⟨[.int .u8 rr.2.Kind.toNat, .int .u8 rr.2.Op.toNat, .int .i64 rr.2.R, .int .i64 rr.2.S, .int .i64 rr.2.T, .int .i64 rr.2.N, .int .i64 rr.2.M], 24, 7, true⟩)]) := by
  refine ctr_of (args := [.pointer (some ⟨bm0, 0, none⟩)]) hm Try.func52 s52 rfl fun w0 σ hO Q hQ => ?_
  unfold zcC at hF
  have hL := Hp.le.refl τ
  show wpn _ _ a52.body _ _ _
  unfold a52
  dsimp only
  refine wpn_qa hO [] [(0, .pointer (some ⟨bm0, 0, none⟩))] (ar trivial) fun j => ?_
  refine wpn_qa hO [0, 0] [(0, .pointer (some ⟨bm0, 0, none⟩)), (2, .bool ((decide (q0.N ≥ (-65536))) && (decide (q0.N ≤ 65536))))] (And.intro (And.intro rfl rfl) (And.intro (And.intro rfl rfl) (And.intro (And.intro rfl rfl) (fun _ => ar (ar trivial))))) fun j => ?_
  refine wpn_r1 ?_
  injection hF with hF
  subst hF
  exact hQ _ _ _ _ _ rfl hO hL ⟨rfl, rfl⟩
theorem zeu {τ : Hp} {q0 : za} {bm0 : Nat}  {rr : Bool × za} (hF : zcU q0 = some rr) :
    Ctr Try.prog 76 #[.pointer (some ⟨bm0, 0, none⟩)] τ [some (bm0, ⟨[.int .u8 q0.Kind.toNat, .int .u8 q0.Op.toNat, .int .i64 q0.R, .int .i64 q0.S, .int .i64 q0.T, .int .i64 q0.N, .int .i64 q0.M], 24, 7, true⟩)] (fun v τ' vs' => v = .bool rr.1 ∧ vs' = [some (bm0, ⟨[.int .u8 rr.2.Kind.toNat, .int .u8 rr.2.Op.toNat, .int .i64 rr.2.R, .int .i64 rr.2.S, .int .i64 rr.2.T, .int .i64 rr.2.N, .int .i64 rr.2.M], 24, 7, true⟩)]) := by
  refine ctr_of (args := [.pointer (some ⟨bm0, 0, none⟩)]) hm Try.func76 s76 rfl fun w0 σ hO Q hQ => ?_
  unfold zcU at hF
  have hL := Hp.le.refl τ
  show wpn _ _ a76.body _ _ _
  unfold a76
  dsimp only
  refine wpn_qa hO [] [(0, .pointer (some ⟨bm0, 0, none⟩))] (ar trivial) fun j => ?_
  refine wpn_qa hO [0, 0] [(0, .pointer (some ⟨bm0, 0, none⟩)), (2, .bool ((decide (q0.M ≥ 1)) && (decide (q0.M ≤ 65536))))] (And.intro (And.intro rfl rfl) (And.intro (And.intro rfl rfl) (And.intro (And.intro rfl rfl) (fun _ => ar (ar trivial))))) fun j => ?_
  refine wpn_r1 ?_
  injection hF with hF
  subst hF
  exact hQ _ _ _ _ _ rfl hO hL ⟨rfl, rfl⟩
theorem zdv {τ : Hp} {v0 : Value} {p0 : (List UInt8)} {p1 : Int} (r0 : RdT Ty.u8 τ v0 p0) {rr : (List UInt8)} (hF : zU p0 p1 = some rr) :
    Ctr Try.prog 78 #[v0, .int .u64 p1] τ [] (fun v τ' vs' => ∃ (v0 : Value) (o0 : Ob), v = v0 ∧ vs' = [o0] ∧ OwnO Ty.u8 5 τ' v0 rr o0) := by
  obtain ⟨A0, c0, rfl, -⟩ := r0.form
  refine ctr_of (args := [.slice A0 p0.length c0, .int .u64 p1]) hm Try.func78 s78 rfl fun w0 σ hO Q hQ => ?_
  unfold zU at hF
  have hL := Hp.le.refl τ
  show wpn _ _ a78.body _ _ _
  unfold a78
  dsimp only
  refine wpn_qa hO [] [(0, .slice A0 p0.length c0), (1, .int .u64 p1)] (ar (ar trivial)) fun j => ?_
  refine wpn_q hO 1 [] [(1, .int .u64 p1), (6, .slice A0 p0.length c0)] (ar (ar trivial)) fun j => ?_
  obtain ⟨c3, h4, hF⟩ := bind_some hF
  refine wpn_c0 hO (zc5 r0 h4) rfl fun _ σ _ _ hO h5 h6 => ?_
  have hL := hL.trans h5
  have r0 := r0.le h5
  obtain ⟨v7, o10, rfl, rfl, w11⟩ := h6
  obtain ⟨A8, c9, rfl, -⟩ := w11.form
  have hO : Obs _ _ [_] := hO
  refine wpn_qa hO [] [(1, .int .u64 p1), (5, .slice A8 c3.length c9)] (ar (ar trivial)) fun j => ?_
  refine wpn_bl ?_
  refine wpn_lp (fun (n : Nat) e' σ' => ∃ (x28 : Int) (A29 : Option Addr) (c30 : Nat) (o31 : Ob) (x32 : List UInt8) (τ' : Hp), agr [(1, .int .u64 x28), (5, .slice A29 x32.length c30)] e' ∧ Obs τ' σ' [o31] ∧ Hp.le τ τ' ∧ OwnO Ty.u8 5 τ' (.slice A29 x32.length c30) x32 o31 ∧ zcb  n x28 x32 = some rr) big ⟨p1, A8, c9, o10, c3, _, ar (ar trivial), hO, hL, w11, hF⟩ ?_
  clear hF hO hL
  rintro n45 e σ ⟨x28, A29, c30, o31, x32, _, hA, hO, hL, w33, hF⟩
  rw [← sets_agr _ _ hA]
  cases n45 with
  | zero => exact nomatch (show none = some rr from hF)
  | succ n45 =>
    replace hF : zbY (zcb  n45) x28 x32 = some rr := hF
    unfold zbY at hF
    refine wpn_assoc ?_
    refine wpn_qa hO [] [(1, .int .u64 x28), (5, .slice A29 x32.length c30), (9, .bool (decide (x28 > 127)))] (ar (ar (ar trivial))) fun j => ?_
    rcases ite_some hF with ⟨hb46, hF⟩ | ⟨hb46, hF⟩
    · refine wpn_cT (congrArg Value.bool hb46) ?_
      refine wpn_sk ?_
      refine wpn_blast ?_
      refine wpn_bl ?_
      refine wpn_q hO 4 [] [(1, .int .u64 x28), (10, .slice A29 x32.length c30), (13, .int .u8 (orI .u8 (IntKind.u8.wrap x28) 128))] (ar (ar (ar trivial))) fun j => ?_
      obtain ⟨z47, hz47, hF⟩ := bind_some hF
      obtain ⟨_, hr, hF⟩ := bind_some hF
      refine wpn_ap1 (T := Ty.u8) (y := z47) hO w33 (i := 0) rfl rfl (fun _ => rfl) rfl (u8R hz47) rfl hr (by decide) fun u _ σ o50 w51 hO => ?_
      obtain ⟨A48, c49, rfl, -⟩ := w51.form
      have hO : Obs _ _ [_] := hO
      refine wpn_qa hO [] [(1, .int .u64 x28), (5, .slice A48 (x32 ++ [z47]).length c49)] (ar (ar trivial)) fun j => ?_
      refine wpn_rlast ?_
      refine wpn_qa hO [] [(1, .int .u64 (shrI .u64 x28 7)), (5, .slice A48 (x32 ++ [z47]).length c49)] (ar (ar trivial)) fun j => ?_
      refine wpn_end ?_
      refine inb_i ?_
      refine thn_i ?_
      refine wpn_end ?_
      refine thn_i ?_
      exact ⟨n45, Nat.lt_succ_self _, (shrI .u64 x28 7), A48, c49, o50, (x32 ++ [z47]), _, ar (ar trivial), hO, hL, w51, hF⟩
    · refine wpn_cF (congrArg Value.bool hb46) ?_
      refine wpn_ex ?_
      refine thn_x ?_
      refine inb_x ?_
      refine thn_i ?_
      refine wpn_q hO 3 [] [(18, .slice A29 x32.length c30), (20, .int .u8 (IntKind.u8.wrap x28))] (ar (ar trivial)) fun j => ?_
      obtain ⟨z52, hz52, hF⟩ := bind_some hF
      obtain ⟨_, hr, hF⟩ := bind_some hF
      refine wpn_ap1 (T := Ty.u8) (y := z52) hO w33 (i := 0) rfl rfl (fun _ => rfl) rfl (u8R hz52) rfl hr (by decide) fun u _ σ o55 w56 hO => ?_
      obtain ⟨A53, c54, rfl, -⟩ := w56.form
      have hO : Obs _ _ [_] := hO
      refine wpn_qa hO [] [(4, .slice A53 (x32 ++ [z52]).length c54)] (ar trivial) fun j => ?_
      refine wpn_r1 ?_
      injection hF with hF
      subst hF
      exact hQ _ _ _ _ _ rfl hO hL ⟨_, _, rfl, rfl, w56⟩
theorem zfe {τ : Hp} {p0 : Int} {p1 : Int}  {rr : Int} (hF : zcN p0 p1 = some rr) :
    Ctr Try.prog 95 #[.int .u64 p0, .int .i64 p1] τ [] (fun v τ' vs' => v = .int .u64 rr ∧ vs' = []) := by
  refine ctr_of (args := [.int .u64 p0, .int .i64 p1]) hm Try.func95 s95 rfl fun w0 σ hO Q hQ => ?_
  unfold zcN at hF
  have hL := Hp.le.refl τ
  show wpn _ _ a95.body _ _ _
  unfold a95
  dsimp only
  refine wpn_qa hO [] [(0, .int .u64 p0)] (ar trivial) fun j => ?_
  refine wpn_qa hO [] [(4, .int .u64 p0)] (ar trivial) fun j => ?_
  refine wpn_r1 ?_
  injection hF with hF
  subst hF
  exact hQ _ _ _ _ _ rfl hO hL ⟨rfl, rfl⟩
theorem zd6 {τ : Hp} {v0 : Value} {p0 : (List UInt8)} {p1 : Int} (r0 : RdT Ty.u8 τ v0 p0) {rr : Int × Int × Int} (hF : zco p0 p1 = some rr) :
    Ctr Try.prog 94 #[v0, .int .i64 p1, .func (.func 95) #[] #[], .func (.func 78) #[] #[]] τ [] (fun v τ' vs' => v = .tuple #[.int .u64 rr.1, .int .i64 rr.2.1, .int .i64 rr.2.2] ∧ vs' = []) := by
  obtain ⟨A0, c0, rfl, -⟩ := r0.form
  refine ctr_of (args := [.slice A0 p0.length c0, .int .i64 p1, .func (.func 95) #[] #[], .func (.func 78) #[] #[]]) hm Try.func94 s94 rfl fun w0 σ hO Q hQ => ?_
  unfold zco at hF
  have hL := Hp.le.refl τ
  show wpn _ _ a94.body _ _ _
  unfold a94
  dsimp only
  refine wpn_qa hO [] [(0, .slice A0 p0.length c0), (1, .int .i64 p1), (2, .func (.func 95) #[] #[]), (3, .func (.func 78) #[] #[])] (ar (ar (ar (ar trivial)))) fun j => ?_
  refine wpn_assoc ?_
  refine wpn_qa hO [] [(0, .slice A0 p0.length c0), (1, .int .i64 p1), (2, .func (.func 95) #[] #[]), (3, .func (.func 78) #[] #[]), (21, .bool ((decide (p1 < 0)) || (decide (p1 > (p0.length : Int)))))] (And.intro (And.intro rfl rfl) (fun _ => ar (ar (ar (ar (ar trivial)))))) fun j => ?_
  rcases ite_some hF with ⟨hb5, hF⟩ | ⟨hb5, hF⟩
  · refine wpn_cT (congrArg Value.bool hb5) ?_
    refine wpn_assoc ?_
    refine wpn_qa hO [] [(8, .int .u64 0), (9, .int .i64 0), (10, .int .i64 1)] (ar (ar (ar trivial))) fun j => ?_
    refine wpn_rt ?_
    injection hF with hF
    subst hF
    exact hQ _ _ _ _ _ rfl hO hL ⟨rfl, rfl⟩
  · refine wpn_cF (congrArg Value.bool hb5) ?_
    refine wpn_sk ?_
    refine wpn_q hO 2 [] [(0, .slice A0 p0.length c0), (1, .int .i64 p1), (2, .func (.func 95) #[] #[]), (3, .func (.func 78) #[] #[]), (23, .slice A0 p0.length c0), (24, .int .i64 p1)] (ar (ar (ar (ar (ar (ar trivial)))))) fun j => ?_
    obtain ⟨y6, g7, hF⟩ := bind_some hF
    refine wpn_sl (T := Ty.u8) r0 rfl rfl rfl g7 fun _ r8 => ?_
    obtain ⟨A9, c10, rfl, -⟩ := r8.form
    obtain ⟨c11, h12, hF⟩ := bind_some hF
    refine wpn_c0 hO (zdI r8 h12) rfl fun _ σ _ _ hO h13 h14 => ?_
    have hL := hL.trans h13
    have r0 := r0.le h13
    have r8 := r8.le h13
    obtain ⟨rfl, rfl⟩ := h14
    have hO : Obs _ _ [] := hO
    refine wpn_qa hO [] [(0, .slice A0 p0.length c0), (1, .int .i64 p1), (2, .func (.func 95) #[] #[]), (3, .func (.func 78) #[] #[]), (11, .int .u64 c11.1), (12, .int .i64 c11.2)] (ar (ar (ar (ar (ar (ar trivial)))))) fun j => ?_
    refine wpn_q hO 3 [] [(0, .slice A0 p0.length c0), (1, .int .i64 p1), (3, .func (.func 78) #[] #[]), (12, .int .i64 c11.2), (29, .func (.func 95) #[] #[]), (30, .int .u64 c11.1), (31, .int .i64 c11.2)] (ar (ar (ar (ar (ar (ar (ar trivial))))))) fun j => ?_
    obtain ⟨c15, h16, hF⟩ := bind_some hF
    refine wpn_cv0 rfl (by kernel_rfl) hO (zfe h16) rfl fun _ σ _ _ hO h17 h18 => ?_
    have hL := hL.trans h17
    have r0 := r0.le h17
    obtain ⟨rfl, rfl⟩ := h18
    have hO : Obs _ _ [] := hO
    refine wpn_qa hO [] [(0, .slice A0 p0.length c0), (1, .int .i64 p1), (3, .func (.func 78) #[] #[]), (12, .int .i64 c11.2), (13, .int .u64 c15)] (ar (ar (ar (ar (ar trivial))))) fun j => ?_
    refine wpn_assoc ?_
    refine wpn_p2r ?_
    refine wpn_q hO 3 [] [(0, .slice A0 p0.length c0), (1, .int .i64 p1), (3, .func (.func 78) #[] #[]), (12, .int .i64 c11.2), (13, .int .u64 c15), (35, .bool (c11.2 == 0))] (ar (ar (ar (ar (ar (ar trivial)))))) fun j => ?_
    obtain ⟨c19, h20, hF⟩ := bind_some hF
    refine wpn_mid 2 (fun e' σ' => ∃ (τ' : Hp), agr [(47, .bool c19), (1, .int .i64 p1), (12, .int .i64 c11.2), (13, .int .u64 c15)] e' ∧ Obs τ' σ' [] ∧ Hp.le τ τ') ?_ ?_
    · have hF := h20
      rcases ite_some hF with ⟨hb21, hF⟩ | ⟨hb21, hF⟩
      · refine wpn_gF (congrArg (fun x => isB (.bool x) false) hb21) ?_
        refine wpn_pk (congrArg Value.bool hb21) ?_
        refine wpn_nil ?_
        injection hF with hF
        subst hF
        refine wpn_end ?_
        exact ⟨rfl, _, ar (ar (ar (ar trivial))), hO, hL⟩
      · refine wpn_gT (congrArg (fun x => isB (.bool x) false) hb21) ?_
        refine wpn_q hO 7 [] [(1, .int .i64 p1), (12, .int .i64 c11.2), (13, .int .u64 c15), (35, .bool (c11.2 == 0)), (36, .func (.func 78) #[] #[]), (37, .int .u64 c15), (39, .slice A0 p0.length c0), (40, .int .i64 p1), (43, .int .i64 (IntKind.i64.wrap (p1 + c11.2)))] (ar (ar (ar (ar (ar (ar (ar (ar (ar trivial))))))))) fun j => ?_
        obtain ⟨y22, g23, hF⟩ := bind_some hF
        refine wpn_sl (T := Ty.u8) r0 rfl rfl rfl g23 fun _ r24 => ?_
        obtain ⟨A25, c26, rfl, -⟩ := r24.form
        obtain ⟨c27, h28, hF⟩ := bind_some hF
        refine wpn_cv0 rfl (by kernel_rfl) hO (zdv (RdT.nil Ty.u8 _) h28) rfl fun _ σ _ _ hO h29 h30 => ?_
        have hL := hL.trans h29
        have r0 := r0.le h29
        have r24 := r24.le h29
        obtain ⟨v31, o34, rfl, rfl, w35⟩ := h30
        obtain ⟨A32, c33, rfl, -⟩ := w35.form
        have hO : Obs _ _ [_] := hO
        obtain ⟨_, h37, r36, hO⟩ := w35.share hO (i := 0) rfl
        have hL := hL.trans h37
        have r0 := r0.le h37
        have r24 := r24.le h37
        have hO : Obs _ _ [_] := hO
        obtain ⟨c38, h39, hF⟩ := bind_some hF
        refine wpn_c0 hO (zdH r36 r24 h39) rfl fun _ σ _ _ hO h40 h41 => ?_
        have hL := hL.trans h40
        have r36 := r36.le h40
        have r0 := r0.le h40
        have r24 := r24.le h40
        obtain ⟨rfl, rfl⟩ := h41
        have hO : Obs _ _ [_] := hO
        refine wpn_q hO 1 [] [(1, .int .i64 p1), (12, .int .i64 c11.2), (13, .int .u64 c15), (35, .bool (c11.2 == 0)), (46, .bool (!c38))] (ar (ar (ar (ar (ar trivial))))) fun j => ?_
        refine wpn_pk (congrArg Value.bool hb21) ?_
        refine wpn_nil ?_
        injection hF with hF
        subst hF
        refine wpn_end ?_
        have hO := hO.sel [] (by decide)
        exact ⟨rfl, _, ar (ar (ar (ar trivial))), hO, hL⟩
    · rintro e σ ⟨_, hA, hO, hL⟩
      rw [← sets_agr _ _ hA]
      refine wpn_nil ?_
      rcases ite_some hF with ⟨hb42, hF⟩ | ⟨hb42, hF⟩
      · refine wpn_cT (congrArg Value.bool hb42) ?_
        refine wpn_assoc ?_
        refine wpn_qa hO [] [(8, .int .u64 0), (9, .int .i64 0), (10, .int .i64 5)] (ar (ar (ar trivial))) fun j => ?_
        refine wpn_rt ?_
        injection hF with hF
        subst hF
        exact hQ _ _ _ _ _ rfl hO hL ⟨rfl, rfl⟩
      · refine wpn_cF (congrArg Value.bool hb42) ?_
        refine wpn_sk ?_
        refine wpn_qa hO [] [(8, .int .u64 c15), (9, .int .i64 (IntKind.i64.wrap (p1 + c11.2))), (10, .int .i64 0)] (ar (ar (ar trivial))) fun j => ?_
        refine wpn_r1 ?_
        injection hF with hF
        subst hF
        exact hQ _ _ _ _ _ rfl hO hL ⟨rfl, rfl⟩
theorem zeL {τ : Hp} {v0 : Value} {p0 : (List UInt8)} {p1 : Int} (r0 : RdT Ty.u8 τ v0 p0) {rr : Int × Int × Int} (hF : zbH p0 p1 = some rr) :
    Ctr Try.prog 80 #[v0, .int .i64 p1] τ [] (fun v τ' vs' => v = .tuple #[.int .u64 rr.1, .int .i64 rr.2.1, .int .i64 rr.2.2] ∧ vs' = []) := by
  obtain ⟨A0, c0, rfl, -⟩ := r0.form
  refine ctr_of (args := [.slice A0 p0.length c0, .int .i64 p1]) hm Try.func80 s80 rfl fun w0 σ hO Q hQ => ?_
  unfold zbH at hF
  have hL := Hp.le.refl τ
  show wpn _ _ a80.body _ _ _
  unfold a80
  dsimp only
  refine wpn_qa hO [] [(0, .slice A0 p0.length c0), (1, .int .i64 p1)] (ar (ar trivial)) fun j => ?_
  refine wpn_q hO 2 [] [(7, .slice A0 p0.length c0), (8, .int .i64 p1)] (ar (ar trivial)) fun j => ?_
  obtain ⟨c3, h4, hF⟩ := bind_some hF
  refine wpn_c0 hO (zd6 r0 h4) rfl fun _ σ _ _ hO h5 h6 => ?_
  have hL := hL.trans h5
  have r0 := r0.le h5
  obtain ⟨rfl, rfl⟩ := h6
  have hO : Obs _ _ [] := hO
  refine wpn_qa hO [] [(4, .int .u64 c3.1), (5, .int .i64 c3.2.1), (6, .int .i64 c3.2.2)] (ar (ar (ar trivial))) fun j => ?_
  refine wpn_r1 ?_
  injection hF with hF
  subst hF
  exact hQ _ _ _ _ _ rfl hO hL ⟨rfl, rfl⟩
theorem zd3 {τ : Hp} {v0 : Value} {p0 : (List UInt8)} {p1 : Int} {q2 : za} {bm2 : Nat} (r0 : RdT Ty.u8 τ v0 p0) {rr : Int × Bool × za} (hF : zbB p0 p1 q2 = some rr) :
    Ctr Try.prog 79 #[v0, .int .i64 p1, .pointer (some ⟨bm2, 0, none⟩)] τ [some (bm2, ⟨[.int .u8 q2.Kind.toNat, .int .u8 q2.Op.toNat, .int .i64 q2.R, .int .i64 q2.S, .int .i64 q2.T, .int .i64 q2.N, .int .i64 q2.M], 24, 7, true⟩)] (fun v τ' vs' => v = .tuple #[.int .i64 rr.1, .bool rr.2.1] ∧ vs' = [some (bm2, ⟨[.int .u8 rr.2.2.Kind.toNat, .int .u8 rr.2.2.Op.toNat, .int .i64 rr.2.2.R, .int .i64 rr.2.2.S, .int .i64 rr.2.2.T, .int .i64 rr.2.2.N, .int .i64 rr.2.2.M], 24, 7, true⟩)]) := by
  obtain ⟨A0, c0, rfl, -⟩ := r0.form
  refine ctr_of (args := [.slice A0 p0.length c0, .int .i64 p1, .pointer (some ⟨bm2, 0, none⟩)]) hm Try.func79 s79 rfl fun w0 σ hO Q hQ => ?_
  unfold zbB at hF
  have hL := Hp.le.refl τ
  show wpn _ _ a79.body _ _ _
  unfold a79
  dsimp only
  refine wpn_qa hO [] [(0, .slice A0 p0.length c0), (1, .int .i64 p1), (2, .pointer (some ⟨bm2, 0, none⟩))] (ar (ar (ar trivial))) fun j => ?_
  refine wpn_q hO 2 [] [(2, .pointer (some ⟨bm2, 0, none⟩)), (12, .slice A0 p0.length c0), (13, .int .i64 p1)] (ar (ar (ar trivial))) fun j => ?_
  obtain ⟨c4, h5, hF⟩ := bind_some hF
  refine wpn_c0 hO (zeL r0 h5) rfl fun _ σ _ _ hO h6 h7 => ?_
  have hL := hL.trans h6
  have r0 := r0.le h6
  obtain ⟨rfl, rfl⟩ := h7
  have hO : Obs _ _ [_] := hO
  refine wpn_qa hO [] [(2, .pointer (some ⟨bm2, 0, none⟩)), (8, .int .u64 c4.1), (9, .int .i64 c4.2.1), (10, .int .i64 c4.2.2)] (ar (ar (ar (ar trivial)))) fun j => ?_
  refine wpn_q hO 6 [] [(2, .pointer (some ⟨bm2, 0, none⟩)), (9, .int .i64 c4.2.1), (10, .int .i64 c4.2.2), (21, .int .i64 (IntKind.i64.wrap (minI c4.1 16777216))), (23, .pointer (some ⟨bm2, 6, none⟩))] (ar (ar (ar (ar (ar trivial))))) fun j => ?_
  refine wpn_st hO (i := 0) rfl (off := 6) rfl rfl rfl rfl (Nat.le_of_ble_eq_true rfl) rfl fun σ hO => ?_
  have hO : Obs _ _ [_] := hO
  refine wpn_nil ?_
  refine wpn_qa hO [] [(2, .pointer (some ⟨bm2, 0, none⟩)), (6, .int .i64 c4.2.1), (7, .bool (c4.2.2 == 0))] (ar (ar (ar trivial))) fun j => ?_
  refine wpn_r1 ?_
  injection hF with hF
  subst hF
  exact hQ _ _ _ _ _ rfl hO hL ⟨rfl, rfl⟩
theorem ze0 {τ : Hp}   {rr : zd} (hF : zc9  = some rr) :
    Ctr Try.prog 53 #[] τ [] (fun v τ' vs' => ∃ (f0_0 : Fn) (a0_0 c0_0 : Array Value) (f0_1 : Fn) (a0_1 c0_1 : Array Value) (f0_2 : Fn) (a0_2 c0_2 : Array Value), v = .agg #[.func f0_0 a0_0 c0_0, .func f0_1 a0_1 c0_1, .func f0_2 a0_2 c0_2] ∧ vs' = [] ∧ zi τ' rr (.func f0_0 a0_0 c0_0) (.func f0_1 a0_1 c0_1) (.func f0_2 a0_2 c0_2)) := by
  refine ctr_of (args := []) hm Try.func53 s53 rfl fun w0 σ hO Q hQ => ?_
  unfold zc9 at hF
  have hL := Hp.le.refl τ
  show wpn _ _ a53.body _ _ _
  unfold a53
  dsimp only
  refine wpn_al hO fun b1 σ hO => ?_
  have hO : Obs _ _ [_] := hO
  refine wpn_nil ?_
  refine wpn_q hO 1 [] [(0, .pointer (some ⟨b1, 0, none⟩)), (1, .agg #[(.func (.func 76) #[] #[]), (.func (.func 77) #[] #[]), (.func (.func 79) #[] #[])])] (ar (ar trivial)) fun j => ?_
  refine wpn_st hO (i := 0) rfl (off := 0) rfl rfl rfl rfl (Nat.le_of_ble_eq_true rfl) rfl fun σ hO => ?_
  have hO : Obs _ _ [_] := hO
  refine wpn_nil ?_
  refine wpn_r1 ?_
  injection hF with hF
  subst hF
  have hV0 := hO.val (i := 0) rfl (off := 0) (agg := true) (n := 3) rfl
  have hO := hO.sel [] (by decide)
  exact hQ _ _ _ _ _ (resvs_c rfl (hV0) rfl) hO hL ⟨_, _, _, _, _, _, _, _, _, rfl, rfl, ⟨rfl, rfl, rfl⟩⟩
theorem zfd {τ : Hp} {q0 : za} {bm0 : Nat}  {rr : Bool × za} (hF : zcs q0 = some rr) :
    Ctr Try.prog 81 #[.pointer (some ⟨bm0, 0, none⟩)] τ [some (bm0, ⟨[.int .u8 q0.Kind.toNat, .int .u8 q0.Op.toNat, .int .i64 q0.R, .int .i64 q0.S, .int .i64 q0.T, .int .i64 q0.N, .int .i64 q0.M], 24, 7, true⟩)] (fun v τ' vs' => v = .bool rr.1 ∧ vs' = [some (bm0, ⟨[.int .u8 rr.2.Kind.toNat, .int .u8 rr.2.Op.toNat, .int .i64 rr.2.R, .int .i64 rr.2.S, .int .i64 rr.2.T, .int .i64 rr.2.N, .int .i64 rr.2.M], 24, 7, true⟩)]) := by
  refine ctr_of (args := [.pointer (some ⟨bm0, 0, none⟩)]) hm Try.func81 s81 rfl fun w0 σ hO Q hQ => ?_
  unfold zcs at hF
  have hL := Hp.le.refl τ
  show wpn _ _ a81.body _ _ _
  unfold a81
  dsimp only
  refine wpn_qa hO [] [(0, .pointer (some ⟨bm0, 0, none⟩))] (ar trivial) fun j => ?_
  refine wpn_qa hO [0, 0] [(0, .pointer (some ⟨bm0, 0, none⟩)), (2, .bool ((decide (q0.N ≥ 0)) && (decide (q0.N < 16777216))))] (And.intro (And.intro rfl rfl) (And.intro (And.intro rfl rfl) (And.intro (And.intro rfl rfl) (fun _ => ar (ar trivial))))) fun j => ?_
  refine wpn_r1 ?_
  injection hF with hF
  subst hF
  exact hQ _ _ _ _ _ rfl hO hL ⟨rfl, rfl⟩
theorem zeP {τ : Hp} {p1 : Int} (r0 : RdT Ty.u8 τ (.slice none 0 0) []) {rr : (List UInt8)} (hF : zb8 [] p1 = some rr) :
    Ctr Try.prog 100 #[.slice none 0 0, .int .i64 p1] τ [] (fun v τ' vs' => ∃ (v0 : Value) (o0 : Ob), v = v0 ∧ vs' = [o0] ∧ OwnO Ty.u8 5 τ' v0 rr o0) := by
  refine ctr_of (args := [.slice none 0 0, .int .i64 p1]) hm Try.func100 s100 rfl fun w0 σ hO Q hQ => ?_
  unfold zb8 at hF
  have hL := Hp.le.refl τ
  show wpn _ _ a100.body _ _ _
  unfold a100
  dsimp only
  refine wpn_qa hO [] [(0, .slice none 0 0), (1, .int .i64 p1)] (ar (ar trivial)) fun j => ?_
  refine wpn_assoc ?_
  refine wpn_qa hO [] [(0, .slice none 0 0), (1, .int .i64 p1), (6, .bool (decide (p1 < 0)))] (ar (ar (ar trivial))) fun j => ?_
  refine wpn_cut (fun e' σ' => ∃ (τ' : Hp), agr [(0, .slice none 0 0), (1, .int .i64 p1)] e' ∧ Obs τ' σ' [] ∧ Hp.le τ τ' ∧ zcK p1 = some rr) ?_ ?_
  · refine wpn_clast ?_
    rcases ite_some hF with ⟨hb14, hF⟩ | ⟨hb14, hF⟩
    · refine wpn_cT (congrArg Value.bool hb14) ?_
      refine wpn_q hO 1 [] [(0, .slice none 0 0), (1, .int .i64 p1), (7, .iface 9 (.string (⟨#[99, 97, 110, 110, 111, 116, 32, 98, 101, 32, 110, 101, 103, 97, 116, 105, 118, 101]⟩ : ByteArray)))] (ar (ar (ar trivial))) fun j => ?_
      exact nomatch (show none = some _ from hF)
    · refine wpn_cF (congrArg Value.bool hb14) ?_
      refine wpn_sk ?_
      refine wpn_end ?_
      refine thn_i ?_
      exact ⟨_, ar (ar trivial), hO, hL, hF⟩
  · rintro e σ ⟨_, hA, hO, hL, hF⟩
    rw [← sets_agr _ _ hA]
    unfold zcK at hF
    refine wpn_assoc ?_
    refine wpn_qa hO [] [(0, .slice none 0 0), (1, .int .i64 (IntKind.i64.wrap (p1 - (IntKind.i64.wrap (0 - 0)))))] (ar (ar trivial)) fun j => ?_
    refine wpn_assoc ?_
    refine wpn_qa hO [] [(0, .slice none 0 0), (1, .int .i64 (IntKind.i64.wrap (p1 - (IntKind.i64.wrap (0 - 0))))), (16, .bool (decide ((IntKind.i64.wrap (p1 - (IntKind.i64.wrap (0 - 0)))) > 0)))] (ar (ar (ar trivial))) fun j => ?_
    rcases ite_some hF with ⟨hb4, hF⟩ | ⟨hb4, hF⟩
    · refine wpn_cT (congrArg Value.bool hb4) ?_
      refine wpn_q hO 3 [] [(0, .slice none 0 0), (1, .int .i64 (IntKind.i64.wrap (p1 - (IntKind.i64.wrap (0 - 0))))), (17, .slice none 0 0), (19, .int .i64 0)] (ar (ar (ar (ar trivial)))) fun j => ?_
      refine wpn_n0 rfl rfl rfl ?_
      refine wpn_q hO 1 [] [(0, .slice none 0 0), (20, .slice none 0 0), (21, .int .i64 (IntKind.i64.wrap (p1 - (IntKind.i64.wrap (0 - 0)))))] (ar (ar (ar trivial))) fun j => ?_
      have hO := hO.no
      have hO : Obs _ _ [_] := hO
      have w5 := OwnO.nil0 (T := Ty.u8) (ty := 5) hO
      obtain ⟨_, g10, hF⟩ := bind_some hF
      obtain ⟨_, hr, hF⟩ := bind_some hF
      refine wpn_apz (T := Ty.u8) (z := (0 : UInt8)) hO w5 (i := 0) rfl rfl rfl (nneg_le g10) (show _ = _ from rfl) hr (by decide) fun _ σ o8 w9 hO => ?_
      obtain ⟨A6, c7, rfl, -⟩ := w9.form
      have hO : Obs _ _ [_] := hO
      refine wpn_q hO 2 [] [(22, .slice A6 (([] : List UInt8) ++ List.replicate (Int.toNat (IntKind.i64.wrap (p1 - (IntKind.i64.wrap (0 - 0))))) (0 : UInt8)).length c7), (24, .int .i64 0)] (ar (ar trivial)) fun j => ?_
      obtain ⟨y11, g12, hF⟩ := bind_some hF
      refine wpn_tr (T := Ty.u8) w9 rfl rfl g12 fun w13 => ?_
      refine wpn_qa hO [] [(0, .slice A6 y11.length c7)] (ar trivial) fun j => ?_
      refine wpn_qa hO [] [(4, .slice A6 y11.length c7)] (ar trivial) fun j => ?_
      refine wpn_r1 ?_
      injection hF with hF
      subst hF
      exact hQ _ _ _ _ _ rfl hO hL ⟨_, _, rfl, rfl, w13⟩
    · refine wpn_cF (congrArg Value.bool hb4) ?_
      refine wpn_sk ?_
      refine wpn_qa hO [] [(4, .slice none 0 0)] (ar trivial) fun j => ?_
      refine wpn_r1 ?_
      have hO := hO.no
      have hO : Obs _ _ [_] := hO
      injection hF with hF
      subst hF
      exact hQ _ _ _ _ _ rfl hO hL ⟨_, _, rfl, rfl, (OwnO.nil _ _ _)⟩
theorem zdY {τ : Hp} {v0 : Value} {p0 : (List (List UInt8))} (r0 : RdT (Ty.slice Ty.u8) τ v0 p0) {rr : (List UInt8)} (hF : zck p0 = some rr) :
    Ctr Try.prog 96 #[v0] τ [] (fun v τ' vs' => ∃ (v0 : Value) (o0 : Ob), v = v0 ∧ vs' = [o0] ∧ OwnO Ty.u8 5 τ' v0 rr o0) := by
  obtain ⟨A0, c0, rfl, -⟩ := r0.form
  refine ctr_of (args := [.slice A0 p0.length c0]) hm Try.func96 s96 rfl fun w0 σ hO Q hQ => ?_
  unfold zck at hF
  have hL := Hp.le.refl τ
  show wpn _ _ a96.body _ _ _
  unfold a96
  dsimp only
  refine wpn_qa hO [] [(0, .slice A0 p0.length c0)] (ar trivial) fun j => ?_
  refine wpn_qa hO [] [(0, .slice A0 p0.length c0), (3, .int .i64 0)] (ar (ar trivial)) fun j => ?_
  refine wpn_assoc ?_
  refine wpn_qa hO [] [(0, .slice A0 p0.length c0), (3, .int .i64 0), (9, .slice A0 p0.length c0), (10, .int .i64 (p0.length : Int)), (11, .int .i64 0)] (ar (ar (ar (ar (ar trivial))))) fun j => ?_
  refine wpn_bl ?_
  refine wpn_lp (fun (n : Nat) e' σ' => ∃ (x81 : Int) (x83 : Int) (τ' : Hp), agr [(0, .slice A0 p0.length c0), (3, .int .i64 x81), (9, .slice A0 p0.length c0), (10, .int .i64 (p0.length : Int)), (11, .int .i64 x83)] e' ∧ Obs τ' σ' [] ∧ Hp.le τ τ' ∧ RdT (Ty.slice Ty.u8) τ' (.slice A0 p0.length c0) p0 ∧ RdT (Ty.slice Ty.u8) τ' (.slice A0 p0.length c0) p0 ∧ zbW p0 n x81 x83 = some rr) big ⟨0, 0, _, ar (ar (ar (ar (ar trivial)))), hO, hL, r0, r0, hF⟩ ?_
  clear hF hO hL
  rintro n160 e σ ⟨x81, x83, _, hA, hO, hL, r80, r82, hF⟩
  rw [← sets_agr _ _ hA]
  cases n160 with
  | zero => exact nomatch (show none = some rr from hF)
  | succ n160 =>
    replace hF : zbw (zbW p0 n160) p0 x81 x83 = some rr := hF
    unfold zbw at hF
    refine wpn_qa hO [] [(0, .slice A0 p0.length c0), (3, .int .i64 x81), (9, .slice A0 p0.length c0), (10, .int .i64 (p0.length : Int)), (11, .int .i64 x83), (12, .bool (decide (x83 < (p0.length : Int))))] (ar (ar (ar (ar (ar (ar trivial)))))) fun j => ?_
    rcases ite_some hF with ⟨hb161, hF⟩ | ⟨hb161, hF⟩
    · refine wpn_cT (congrArg Value.bool hb161) ?_
      refine wpn_sk ?_
      refine wpn_bl ?_
      obtain ⟨y162, g163, hF⟩ := bind_some hF
      refine wpn_idx (T := (Ty.slice Ty.u8)) r82 hO.base rfl rfl g163 (by decide) fun a164 _ k165 m166 => ?_
      obtain ⟨v167, rfl, r168⟩ := k165
      obtain ⟨A169, c170, rfl, -⟩ := r168.form
      refine wpn_ld rfl (m166.le hO.base).fst ?_
      refine wpn_qa hO [] [(0, .slice A0 p0.length c0), (3, .int .i64 x81), (5, .slice A169 y162.length c170), (9, .slice A0 p0.length c0), (10, .int .i64 (p0.length : Int)), (11, .int .i64 x83)] (ar (ar (ar (ar (ar (ar trivial)))))) fun j => ?_
      refine wpn_qa hO [] [(0, .slice A0 p0.length c0), (3, .int .i64 (IntKind.i64.wrap (x81 + (y162.length : Int)))), (9, .slice A0 p0.length c0), (10, .int .i64 (p0.length : Int)), (11, .int .i64 x83)] (ar (ar (ar (ar (ar trivial))))) fun j => ?_
      refine wpn_qa hO [] [(0, .slice A0 p0.length c0), (3, .int .i64 (IntKind.i64.wrap (x81 + (y162.length : Int)))), (9, .slice A0 p0.length c0), (10, .int .i64 (p0.length : Int)), (11, .int .i64 x83), (20, .bool (decide ((IntKind.i64.wrap (x81 + (y162.length : Int))) < 0)))] (ar (ar (ar (ar (ar (ar trivial)))))) fun j => ?_
      refine wpn_clast ?_
      rcases ite_some hF with ⟨hb171, hF⟩ | ⟨hb171, hF⟩
      · refine wpn_cT (congrArg Value.bool hb171) ?_
        refine wpn_q hO 1 [] [(0, .slice A0 p0.length c0), (3, .int .i64 (IntKind.i64.wrap (x81 + (y162.length : Int)))), (9, .slice A0 p0.length c0), (10, .int .i64 (p0.length : Int)), (11, .int .i64 x83), (21, .iface 9 (.string (⟨#[108, 101, 110, 32, 111, 117, 116, 32, 111, 102, 32, 114, 97, 110, 103, 101]⟩ : ByteArray)))] (ar (ar (ar (ar (ar (ar trivial)))))) fun j => ?_
        exact nomatch (show none = some _ from hF)
      · refine wpn_cF (congrArg Value.bool hb171) ?_
        refine wpn_sk ?_
        refine wpn_end ?_
        refine inb_i ?_
        refine thn_i ?_
        refine wpn_rlast ?_
        refine wpn_qa hO [] [(0, .slice A0 p0.length c0), (3, .int .i64 (IntKind.i64.wrap (x81 + (y162.length : Int)))), (9, .slice A0 p0.length c0), (10, .int .i64 (p0.length : Int)), (11, .int .i64 (IntKind.i64.wrap (x83 + 1)))] (ar (ar (ar (ar (ar trivial))))) fun j => ?_
        refine wpn_end ?_
        refine thn_i ?_
        exact ⟨n160, Nat.lt_succ_self _, (IntKind.i64.wrap (x81 + (y162.length : Int))), (IntKind.i64.wrap (x83 + 1)), _, ar (ar (ar (ar (ar trivial)))), hO, hL, r80, r82, hF⟩
    · refine wpn_cF (congrArg Value.bool hb161) ?_
      refine wpn_ex ?_
      refine thn_x ?_
      refine inb_x ?_
      refine thn_i ?_
      refine wpn_q hO 1 [] [(0, .slice A0 p0.length c0), (23, .int .i64 x81)] (ar (ar trivial)) fun j => ?_
      obtain ⟨c172, h173, hF⟩ := bind_some hF
      refine wpn_c0 hO (zeP (RdT.nil Ty.u8 _) h173) rfl fun _ σ _ _ hO h174 h175 => ?_
      have hL := hL.trans h174
      have r80 := r80.le h174
      obtain ⟨v176, o179, rfl, rfl, w180⟩ := h175
      obtain ⟨A177, c178, rfl, -⟩ := w180.form
      have hO : Obs _ _ [_] := hO
      refine wpn_qa hO [] [(0, .slice A0 p0.length c0), (6, .slice A177 c172.length c178)] (ar (ar trivial)) fun j => ?_
      refine wpn_assoc ?_
      refine wpn_qa hO [] [(6, .slice A177 c172.length c178), (25, .slice A0 p0.length c0), (26, .int .i64 (p0.length : Int)), (27, .int .i64 0)] (ar (ar (ar (ar trivial)))) fun j => ?_
      refine wpn_bl ?_
      refine wpn_lp (fun (n : Nat) e' σ' => ∃ (A201 : Option Addr) (c202 : Nat) (o203 : Ob) (x204 : List UInt8) (x207 : Int) (τ' : Hp), agr [(6, .slice A201 x204.length c202), (25, .slice A0 p0.length c0), (26, .int .i64 (p0.length : Int)), (27, .int .i64 x207)] e' ∧ Obs τ' σ' [o203] ∧ Hp.le τ τ' ∧ OwnO Ty.u8 5 τ' (.slice A201 x204.length c202) x204 o203 ∧ RdT (Ty.slice Ty.u8) τ' (.slice A0 p0.length c0) p0 ∧ zbx p0 n x204 x207 = some rr) big ⟨A177, c178, o179, c172, 0, _, ar (ar (ar (ar trivial))), hO, hL, w180, r80, hF⟩ ?_
      clear hF hO hL
      rintro n222 e σ ⟨A201, c202, o203, x204, x207, _, hA, hO, hL, w205, r206, hF⟩
      rw [← sets_agr _ _ hA]
      cases n222 with
      | zero => exact nomatch (show none = some rr from hF)
      | succ n222 =>
        replace hF : zbp (zbx p0 n222) p0 x204 x207 = some rr := hF
        unfold zbp at hF
        refine wpn_qa hO [] [(6, .slice A201 x204.length c202), (25, .slice A0 p0.length c0), (26, .int .i64 (p0.length : Int)), (27, .int .i64 x207), (28, .bool (decide (x207 < (p0.length : Int))))] (ar (ar (ar (ar (ar trivial))))) fun j => ?_
        rcases ite_some hF with ⟨hb223, hF⟩ | ⟨hb223, hF⟩
        · refine wpn_cT (congrArg Value.bool hb223) ?_
          refine wpn_sk ?_
          refine wpn_bl ?_
          obtain ⟨y224, g225, hF⟩ := bind_some hF
          refine wpn_idx (T := (Ty.slice Ty.u8)) r206 hO.base rfl rfl g225 (by decide) fun a226 _ k227 m228 => ?_
          obtain ⟨v229, rfl, r230⟩ := k227
          obtain ⟨A231, c232, rfl, -⟩ := r230.form
          refine wpn_ld rfl (m228.le hO.base).fst ?_
          refine wpn_qa hO [] [(6, .slice A201 x204.length c202), (8, .slice A231 y224.length c232), (25, .slice A0 p0.length c0), (26, .int .i64 (p0.length : Int)), (27, .int .i64 x207)] (ar (ar (ar (ar (ar trivial))))) fun j => ?_
          refine wpn_rlast ?_
          refine wpn_q hO 2 [] [(25, .slice A0 p0.length c0), (26, .int .i64 (p0.length : Int)), (27, .int .i64 x207), (31, .slice A201 x204.length c202), (32, .slice A231 y224.length c232)] (ar (ar (ar (ar (ar trivial))))) fun j => ?_
          obtain ⟨_, hr, hF⟩ := bind_some hF
          refine wpn_apl (T := Ty.u8) hO w205 (i := 0) rfl rfl rfl r230 hr (by decide) fun _ σ o235 w236 hO => ?_
          obtain ⟨A233, c234, rfl, -⟩ := w236.form
          have hO : Obs _ _ [_] := hO
          refine wpn_qa hO [] [(6, .slice A233 (x204 ++ y224).length c234), (25, .slice A0 p0.length c0), (26, .int .i64 (p0.length : Int)), (27, .int .i64 x207)] (ar (ar (ar (ar trivial)))) fun j => ?_
          refine wpn_end ?_
          refine inb_i ?_
          refine thn_i ?_
          refine wpn_rlast ?_
          refine wpn_qa hO [] [(6, .slice A233 (x204 ++ y224).length c234), (25, .slice A0 p0.length c0), (26, .int .i64 (p0.length : Int)), (27, .int .i64 (IntKind.i64.wrap (x207 + 1)))] (ar (ar (ar (ar trivial)))) fun j => ?_
          refine wpn_end ?_
          refine thn_i ?_
          exact ⟨n222, Nat.lt_succ_self _, A233, c234, o235, (x204 ++ y224), (IntKind.i64.wrap (x207 + 1)), _, ar (ar (ar (ar trivial))), hO, hL, w236, r206, hF⟩
        · refine wpn_cF (congrArg Value.bool hb223) ?_
          refine wpn_ex ?_
          refine thn_x ?_
          refine inb_x ?_
          refine thn_i ?_
          refine wpn_qa hO [] [(2, .slice A201 x204.length c202)] (ar trivial) fun j => ?_
          refine wpn_r1 ?_
          injection hF with hF
          subst hF
          exact hQ _ _ _ _ _ rfl hO hL ⟨_, _, rfl, rfl, w205⟩
theorem zef {τ : Hp} {v0 : Value} {p0 : (List UInt8)} {p1 : Int} (r0 : RdT Ty.u8 τ v0 p0) {rr : (List UInt8) × Int} (hF : zci p0 p1 = some rr) :
    Ctr Try.prog 83 #[v0, .int .i64 p1] τ [] (fun v τ' vs' => ∃ (v0 : Value) (o0 : Ob), v = .tuple #[v0, .int .i64 rr.2] ∧ vs' = [o0] ∧ OwnO Ty.u8 5 τ' v0 rr.1 o0) := by
  obtain ⟨A0, c0, rfl, -⟩ := r0.form
  refine ctr_of (args := [.slice A0 p0.length c0, .int .i64 p1]) hm Try.func83 s83 rfl fun w0 σ hO Q hQ => ?_
  unfold zci at hF
  have hL := Hp.le.refl τ
  show wpn _ _ a83.body _ _ _
  unfold a83
  dsimp only
  refine wpn_qa hO [] [(0, .slice A0 p0.length c0), (1, .int .i64 p1)] (ar (ar trivial)) fun j => ?_
  refine wpn_assoc ?_
  refine wpn_qa hO [] [(0, .slice A0 p0.length c0), (1, .int .i64 p1), (13, .bool ((decide (p1 < 0)) || (decide (p1 ≥ 16777216))))] (And.intro (And.intro rfl rfl) (fun _ => ar (ar (ar trivial)))) fun j => ?_
  rcases ite_some hF with ⟨hb3, hF⟩ | ⟨hb3, hF⟩
  · refine wpn_cT (congrArg Value.bool hb3) ?_
    refine wpn_assoc ?_
    refine wpn_qa hO [] [(4, .slice none 0 0), (5, .int .i64 1)] (ar (ar trivial)) fun j => ?_
    refine wpn_rt ?_
    have hO := hO.no
    have hO : Obs _ _ [_] := hO
    injection hF with hF
    subst hF
    exact hQ _ _ _ _ _ rfl hO hL ⟨_, _, rfl, rfl, (OwnO.nil _ _ _)⟩
  · refine wpn_cF (congrArg Value.bool hb3) ?_
    refine wpn_sk ?_
    refine wpn_ar (T := Ty.u8) (l := ([(0 : UInt8), (0 : UInt8), (0 : UInt8)] : List UInt8)) hO ⟨[.int .u8 0], _, rfl, rfl, ⟨[.int .u8 0], _, rfl, rfl, ⟨[.int .u8 0], _, rfl, rfl, rfl⟩⟩⟩ rfl (by decide) fun b4 σ o5 w6 hO => ?_
    have hO : Obs _ _ [_] := hO
    refine wpn_nil ?_
    refine wpn_assoc ?_
    refine wpn_qa hO [] [(0, .slice A0 p0.length c0), (1, .int .i64 p1), (6, .pointer (some ⟨b4, 0, none⟩)), (14, .int .i64 0)] (ar (ar (ar (ar trivial)))) fun j => ?_
    refine wpn_bl ?_
    refine wpn_lp (fun (n : Nat) e' σ' => ∃ (o43 : Ob) (x44 : List UInt8) (x46 : Int) (τ' : Hp), agr [(0, .slice A0 p0.length c0), (1, .int .i64 p1), (6, .pointer (some ⟨b4, 0, none⟩)), (14, .int .i64 x46)] e' ∧ Obs τ' σ' [o43] ∧ Hp.le τ τ' ∧ RdT Ty.u8 τ' (.slice A0 p0.length c0) p0 ∧ OwnO Ty.u8 99 τ' (.slice (some ⟨b4, 0, none⟩) 3 3) x44 o43 ∧ z6 p0 p1 n x44 x46 = some rr) big ⟨o5, ([(0 : UInt8), (0 : UInt8), (0 : UInt8)] : List UInt8), 0, _, ar (ar (ar (ar trivial))), hO, hL, r0, w6, hF⟩ ?_
    clear hF hO hL
    rintro n78 e σ ⟨o43, x44, x46, _, hA, hO, hL, r42, w45, hF⟩
    rw [← sets_agr _ _ hA]
    cases n78 with
    | zero => exact nomatch (show none = some rr from hF)
    | succ n78 =>
      replace hF : zcm (z6 p0 p1 n78) p0 p1 x44 x46 = some rr := hF
      unfold zcm at hF
      refine wpn_qa hO [] [(0, .slice A0 p0.length c0), (1, .int .i64 p1), (6, .pointer (some ⟨b4, 0, none⟩)), (14, .int .i64 x46), (15, .bool (decide (x46 < 3)))] (ar (ar (ar (ar (ar trivial))))) fun j => ?_
      rcases ite_some hF with ⟨hb79, hF⟩ | ⟨hb79, hF⟩
      · refine wpn_cT (congrArg Value.bool hb79) ?_
        refine wpn_sk ?_
        refine wpn_bl ?_
        refine wpn_qa hO [] [(0, .slice A0 p0.length c0), (1, .int .i64 p1), (6, .pointer (some ⟨b4, 0, none⟩)), (7, .int .i64 x46), (14, .int .i64 x46)] (ar (ar (ar (ar (ar trivial))))) fun j => ?_
        refine wpn_rlast ?_
        refine wpn_q hO 5 [] [(0, .slice A0 p0.length c0), (1, .int .i64 p1), (6, .pointer (some ⟨b4, 0, none⟩)), (14, .int .i64 x46), (18, .int .i64 (IntKind.i64.wrap (2 - x46))), (19, .int .i64 p1), (21, .int .i64 (IntKind.i64.wrap (8 * x46)))] (ar (ar (ar (ar (ar (ar (ar trivial))))))) fun j => ?_
        obtain ⟨y80, g81, hF⟩ := bind_some hF
        refine wpn_bn (shrO_bin g81) ?_
        refine wpn_q hO 1 [] [(0, .slice A0 p0.length c0), (1, .int .i64 p1), (6, .pointer (some ⟨b4, 0, none⟩)), (14, .int .i64 x46), (18, .int .i64 (IntKind.i64.wrap (2 - x46))), (23, .int .u8 (IntKind.u8.wrap y80))] (ar (ar (ar (ar (ar (ar trivial)))))) fun j => ?_
        obtain ⟨y82, g83, hF⟩ := bind_some hF
        refine wpn_aa (T := Ty.u8) hO w45 (i := 0) rfl rfl rfl g83 rfl fun a84 _ k85 m86 i87 => ?_
        have k88 := k85
        obtain rfl : _ = ([.int .u8 y82.toNat] : List Value) := k88
        obtain ⟨z89, hz89, hF⟩ := bind_some hF
        refine wpn_sto (T := Ty.u8) (off := 0) (vs := [.int .u8 (IntKind.u8.wrap y80)]) hO w45 (i := 0) rfl (by rw [add_zero]; rfl) i87 g83 k85 m86 rfl rfl rfl rfl (by decide) (u8R hz89) fun σ o90 w91 hO => ?_
        have hO : Obs _ _ [_] := hO
        refine wpn_nil ?_
        refine wpn_end ?_
        refine inb_i ?_
        refine thn_i ?_
        refine wpn_rlast ?_
        refine wpn_qa hO [] [(0, .slice A0 p0.length c0), (1, .int .i64 p1), (6, .pointer (some ⟨b4, 0, none⟩)), (14, .int .i64 (IntKind.i64.wrap (x46 + 1)))] (ar (ar (ar (ar trivial)))) fun j => ?_
        refine wpn_end ?_
        refine thn_i ?_
        exact ⟨n78, Nat.lt_succ_self _, o90, (x44.set (Int.toNat (IntKind.i64.wrap (2 - x46))) z89), (IntKind.i64.wrap (x46 + 1)), _, ar (ar (ar (ar trivial))), hO, hL, r42, w91, hF⟩
      · refine wpn_cF (congrArg Value.bool hb79) ?_
        refine wpn_ex ?_
        refine thn_x ?_
        refine inb_x ?_
        refine thn_i ?_
        refine wpn_q hO 1 [] [(6, .pointer (some ⟨b4, 0, none⟩)), (26, .slice A0 p0.length c0)] (ar (ar trivial)) fun j => ?_
        refine wpn_sa (T := Ty.u8) rfl ?_
        have l94 : 3 = x44.length := w45.len
        obtain ⟨_, h93, r92, hO⟩ := w45.share hO (i := 0) rfl
        have hL := hL.trans h93
        have r42 := r42.le h93
        have hO : Obs _ _ [_] := hO
        refine wpn_lit (T := (Ty.slice Ty.u8)) (l := ([p0, x44] : List (List UInt8))) (cs := [.slice A0 p0.length c0, .slice (some ⟨b4, 0, none⟩) 3 3]) hO rfl ⟨[.slice A0 p0.length c0], _, rfl, ⟨_, rfl, r42⟩, ⟨[.slice (some ⟨b4, 0, none⟩) 3 3], _, rfl, ⟨_, rfl, r92⟩, rfl⟩⟩ rfl (by decide) fun _ σ o97 w98 hO => ?_
        obtain ⟨A95, c96, rfl, -⟩ := w98.form
        have hO : Obs _ _ [_, _] := hO
        obtain ⟨_, h100, r99, hO⟩ := w98.share hO (i := 1) rfl
        have hL := hL.trans h100
        have r42 := r42.le h100
        have r92 := r92.le h100
        have hO : Obs _ _ [_, _] := hO
        obtain ⟨c101, h102, hF⟩ := bind_some hF
        refine wpn_c0 hO (zdY r99 h102) rfl fun _ σ _ _ hO h103 h104 => ?_
        have hL := hL.trans h103
        have r42 := r42.le h103
        have r92 := r92.le h103
        have r99 := r99.le h103
        obtain ⟨v105, o108, rfl, rfl, w109⟩ := h104
        obtain ⟨A106, c107, rfl, -⟩ := w109.form
        have hO : Obs _ _ [_, _, _] := hO
        refine wpn_qa hO [] [(4, .slice A106 c101.length c107), (5, .int .i64 0)] (ar (ar trivial)) fun j => ?_
        refine wpn_r1 ?_
        injection hF with hF
        subst hF
        have hO := hO.sel [2] (by decide)
        exact hQ _ _ _ _ _ rfl hO hL ⟨_, _, rfl, rfl, w109⟩
theorem zeI {τ : Hp} {v0 : Value} {p0 : (List UInt8)} {p1 : Int} (r0 : RdT Ty.u8 τ v0 p0) {rr : Int × Int × Int} (hF : zA p0 p1 = some rr) :
    Ctr Try.prog 85 #[v0, .int .i64 p1] τ [] (fun v τ' vs' => v = .tuple #[.int .i64 rr.1, .int .i64 rr.2.1, .int .i64 rr.2.2] ∧ vs' = []) := by
  obtain ⟨A0, c0, rfl, -⟩ := r0.form
  refine ctr_of (args := [.slice A0 p0.length c0, .int .i64 p1]) hm Try.func85 s85 rfl fun w0 σ hO Q hQ => ?_
  unfold zA at hF
  have hL := Hp.le.refl τ
  show wpn _ _ a85.body _ _ _
  unfold a85
  dsimp only
  refine wpn_qa hO [] [(0, .slice A0 p0.length c0), (1, .int .i64 p1), (4, .int .i64 0)] (ar (ar (ar trivial))) fun j => ?_
  refine wpn_q hO 2 [] [(4, .int .i64 0), (11, .slice A0 p0.length c0), (12, .int .i64 p1)] (ar (ar (ar trivial))) fun j => ?_
  obtain ⟨c3, h4, hF⟩ := bind_some hF
  refine wpn_c0 hO (zdA r0 h4) rfl fun _ σ _ _ hO h5 h6 => ?_
  have hL := hL.trans h5
  have r0 := r0.le h5
  obtain ⟨v7, rfl, rfl, r10⟩ := h6
  obtain ⟨A8, c9, rfl, -⟩ := r10.form
  have hO : Obs _ _ [] := hO
  refine wpn_qa hO [] [(4, .int .i64 0), (5, .int .i64 c3.2.1), (6, .int .i64 c3.2.2), (7, .slice A8 c3.1.length c9)] (ar (ar (ar (ar trivial)))) fun j => ?_
  refine wpn_assoc ?_
  refine wpn_qa hO [] [(4, .int .i64 0), (5, .int .i64 c3.2.1), (6, .int .i64 c3.2.2), (17, .slice A8 c3.1.length c9), (18, .int .i64 (c3.1.length : Int)), (19, .int .i64 0)] (ar (ar (ar (ar (ar (ar trivial)))))) fun j => ?_
  refine wpn_bl ?_
  refine wpn_lp (fun (n : Nat) e' σ' => ∃ (x18 : Int) (x20 : Int) (τ' : Hp), agr [(4, .int .i64 x18), (5, .int .i64 c3.2.1), (6, .int .i64 c3.2.2), (17, .slice A8 c3.1.length c9), (18, .int .i64 (c3.1.length : Int)), (19, .int .i64 x20)] e' ∧ Obs τ' σ' [] ∧ Hp.le τ τ' ∧ RdT Ty.u8 τ' (.slice A8 c3.1.length c9) c3.1 ∧ z4 c3 n x18 x20 = some rr) big ⟨0, 0, _, ar (ar (ar (ar (ar (ar trivial))))), hO, hL, r10, hF⟩ ?_
  clear hF hO hL
  rintro n27 e σ ⟨x18, x20, _, hA, hO, hL, r19, hF⟩
  rw [← sets_agr _ _ hA]
  cases n27 with
  | zero => exact nomatch (show none = some rr from hF)
  | succ n27 =>
    replace hF : zcV (z4 c3 n27) c3 x18 x20 = some rr := hF
    unfold zcV at hF
    refine wpn_qa hO [] [(4, .int .i64 x18), (5, .int .i64 c3.2.1), (6, .int .i64 c3.2.2), (17, .slice A8 c3.1.length c9), (18, .int .i64 (c3.1.length : Int)), (19, .int .i64 x20), (20, .bool (decide (x20 < (c3.1.length : Int))))] (ar (ar (ar (ar (ar (ar (ar trivial))))))) fun j => ?_
    rcases ite_some hF with ⟨hb28, hF⟩ | ⟨hb28, hF⟩
    · refine wpn_cT (congrArg Value.bool hb28) ?_
      refine wpn_sk ?_
      refine wpn_bl ?_
      obtain ⟨y29, g30, hF⟩ := bind_some hF
      refine wpn_idx (T := Ty.u8) r19 hO.base rfl rfl g30 (by decide) fun a31 _ k32 m33 => ?_
      obtain rfl : _ = ([.int .u8 y29.toNat] : List Value) := k32
      refine wpn_ld rfl (m33.le hO.base).fst ?_
      refine wpn_qa hO [] [(4, .int .i64 x18), (5, .int .i64 c3.2.1), (6, .int .i64 c3.2.2), (9, .int .u8 (y29.toNat : Int)), (17, .slice A8 c3.1.length c9), (18, .int .i64 (c3.1.length : Int)), (19, .int .i64 x20)] (ar (ar (ar (ar (ar (ar (ar trivial))))))) fun j => ?_
      refine wpn_rlast ?_
      refine wpn_qa hO [] [(4, .int .i64 (orI .i64 (shlI .i64 x18 8) (IntKind.i64.wrap (y29.toNat : Int)))), (5, .int .i64 c3.2.1), (6, .int .i64 c3.2.2), (17, .slice A8 c3.1.length c9), (18, .int .i64 (c3.1.length : Int)), (19, .int .i64 x20)] (ar (ar (ar (ar (ar (ar trivial)))))) fun j => ?_
      refine wpn_end ?_
      refine inb_i ?_
      refine thn_i ?_
      refine wpn_rlast ?_
      refine wpn_qa hO [] [(4, .int .i64 (orI .i64 (shlI .i64 x18 8) (IntKind.i64.wrap (y29.toNat : Int)))), (5, .int .i64 c3.2.1), (6, .int .i64 c3.2.2), (17, .slice A8 c3.1.length c9), (18, .int .i64 (c3.1.length : Int)), (19, .int .i64 (IntKind.i64.wrap (x20 + 1)))] (ar (ar (ar (ar (ar (ar trivial)))))) fun j => ?_
      refine wpn_end ?_
      refine thn_i ?_
      exact ⟨n27, Nat.lt_succ_self _, (orI .i64 (shlI .i64 x18 8) (IntKind.i64.wrap (y29.toNat : Int))), (IntKind.i64.wrap (x20 + 1)), _, ar (ar (ar (ar (ar (ar trivial))))), hO, hL, r19, hF⟩
    · refine wpn_cF (congrArg Value.bool hb28) ?_
      refine wpn_ex ?_
      refine thn_x ?_
      refine inb_x ?_
      refine thn_i ?_
      refine wpn_qa hO [] [(4, .int .i64 x18), (5, .int .i64 c3.2.1), (6, .int .i64 c3.2.2)] (ar (ar (ar trivial))) fun j => ?_
      refine wpn_r1 ?_
      injection hF with hF
      subst hF
      exact hQ _ _ _ _ _ rfl hO hL ⟨rfl, rfl⟩
theorem zel {τ : Hp} {v0 : Value} {p0 : (List UInt8)} {p1 : Int} {q2 : za} {bm2 : Nat} (r0 : RdT Ty.u8 τ v0 p0) {rr : Int × Bool × za} (hF : zbl p0 p1 q2 = some rr) :
    Ctr Try.prog 84 #[v0, .int .i64 p1, .pointer (some ⟨bm2, 0, none⟩)] τ [some (bm2, ⟨[.int .u8 q2.Kind.toNat, .int .u8 q2.Op.toNat, .int .i64 q2.R, .int .i64 q2.S, .int .i64 q2.T, .int .i64 q2.N, .int .i64 q2.M], 24, 7, true⟩)] (fun v τ' vs' => v = .tuple #[.int .i64 rr.1, .bool rr.2.1] ∧ vs' = [some (bm2, ⟨[.int .u8 rr.2.2.Kind.toNat, .int .u8 rr.2.2.Op.toNat, .int .i64 rr.2.2.R, .int .i64 rr.2.2.S, .int .i64 rr.2.2.T, .int .i64 rr.2.2.N, .int .i64 rr.2.2.M], 24, 7, true⟩)]) := by
  obtain ⟨A0, c0, rfl, -⟩ := r0.form
  refine ctr_of (args := [.slice A0 p0.length c0, .int .i64 p1, .pointer (some ⟨bm2, 0, none⟩)]) hm Try.func84 s84 rfl fun w0 σ hO Q hQ => ?_
  unfold zbl at hF
  have hL := Hp.le.refl τ
  show wpn _ _ a84.body _ _ _
  unfold a84
  dsimp only
  refine wpn_qa hO [] [(0, .slice A0 p0.length c0), (1, .int .i64 p1), (2, .pointer (some ⟨bm2, 0, none⟩))] (ar (ar (ar trivial))) fun j => ?_
  refine wpn_q hO 2 [] [(2, .pointer (some ⟨bm2, 0, none⟩)), (12, .slice A0 p0.length c0), (13, .int .i64 p1)] (ar (ar (ar trivial))) fun j => ?_
  obtain ⟨c4, h5, hF⟩ := bind_some hF
  refine wpn_c0 hO (zeI r0 h5) rfl fun _ σ _ _ hO h6 h7 => ?_
  have hL := hL.trans h6
  have r0 := r0.le h6
  obtain ⟨rfl, rfl⟩ := h7
  have hO : Obs _ _ [_] := hO
  refine wpn_qa hO [] [(2, .pointer (some ⟨bm2, 0, none⟩)), (8, .int .i64 c4.1), (9, .int .i64 c4.2.1), (10, .int .i64 c4.2.2)] (ar (ar (ar (ar trivial)))) fun j => ?_
  refine wpn_q hO 4 [] [(2, .pointer (some ⟨bm2, 0, none⟩)), (9, .int .i64 c4.2.1), (10, .int .i64 c4.2.2), (19, .int .i64 c4.1), (21, .pointer (some ⟨bm2, 5, none⟩))] (ar (ar (ar (ar (ar trivial))))) fun j => ?_
  refine wpn_st hO (i := 0) rfl (off := 5) rfl rfl rfl rfl (Nat.le_of_ble_eq_true rfl) rfl fun σ hO => ?_
  have hO : Obs _ _ [_] := hO
  refine wpn_nil ?_
  refine wpn_qa hO [] [(2, .pointer (some ⟨bm2, 0, none⟩)), (6, .int .i64 c4.2.1), (7, .bool (c4.2.2 == 0))] (ar (ar (ar trivial))) fun j => ?_
  refine wpn_r1 ?_
  injection hF with hF
  subst hF
  exact hQ _ _ _ _ _ rfl hO hL ⟨rfl, rfl⟩
theorem zde {τ : Hp}   {rr : zd} (hF : zcQ  = some rr) :
    Ctr Try.prog 54 #[] τ [] (fun v τ' vs' => ∃ (f0_0 : Fn) (a0_0 c0_0 : Array Value) (f0_1 : Fn) (a0_1 c0_1 : Array Value) (f0_2 : Fn) (a0_2 c0_2 : Array Value), v = .agg #[.func f0_0 a0_0 c0_0, .func f0_1 a0_1 c0_1, .func f0_2 a0_2 c0_2] ∧ vs' = [] ∧ zi τ' rr (.func f0_0 a0_0 c0_0) (.func f0_1 a0_1 c0_1) (.func f0_2 a0_2 c0_2)) := by
  refine ctr_of (args := []) hm Try.func54 s54 rfl fun w0 σ hO Q hQ => ?_
  unfold zcQ at hF
  have hL := Hp.le.refl τ
  show wpn _ _ a54.body _ _ _
  unfold a54
  dsimp only
  refine wpn_al hO fun b1 σ hO => ?_
  have hO : Obs _ _ [_] := hO
  refine wpn_nil ?_
  refine wpn_q hO 1 [] [(0, .pointer (some ⟨b1, 0, none⟩)), (1, .agg #[(.func (.func 81) #[] #[]), (.func (.func 82) #[] #[]), (.func (.func 84) #[] #[])])] (ar (ar trivial)) fun j => ?_
  refine wpn_st hO (i := 0) rfl (off := 0) rfl rfl rfl rfl (Nat.le_of_ble_eq_true rfl) rfl fun σ hO => ?_
  have hO : Obs _ _ [_] := hO
  refine wpn_nil ?_
  refine wpn_r1 ?_
  injection hF with hF
  subst hF
  have hV0 := hO.val (i := 0) rfl (off := 0) (agg := true) (n := 3) rfl
  have hO := hO.sel [] (by decide)
  exact hQ _ _ _ _ _ (resvs_c rfl (hV0) rfl) hO hL ⟨_, _, _, _, _, _, _, _, _, rfl, rfl, ⟨rfl, rfl, rfl⟩⟩
theorem zeJ {τ : Hp} {q0 : za} {bm0 : Nat}  {rr : Bool × za} (hF : zcz q0 = some rr) :
    Ctr Try.prog 86 #[.pointer (some ⟨bm0, 0, none⟩)] τ [some (bm0, ⟨[.int .u8 q0.Kind.toNat, .int .u8 q0.Op.toNat, .int .i64 q0.R, .int .i64 q0.S, .int .i64 q0.T, .int .i64 q0.N, .int .i64 q0.M], 24, 7, true⟩)] (fun v τ' vs' => v = .bool rr.1 ∧ vs' = [some (bm0, ⟨[.int .u8 rr.2.Kind.toNat, .int .u8 rr.2.Op.toNat, .int .i64 rr.2.R, .int .i64 rr.2.S, .int .i64 rr.2.T, .int .i64 rr.2.N, .int .i64 rr.2.M], 24, 7, true⟩)]) := by
  refine ctr_of (args := [.pointer (some ⟨bm0, 0, none⟩)]) hm Try.func86 s86 rfl fun w0 σ hO Q hQ => ?_
  unfold zcz at hF
  have hL := Hp.le.refl τ
  show wpn _ _ a86.body _ _ _
  unfold a86
  dsimp only
  refine wpn_qa hO [] [(0, .pointer (some ⟨bm0, 0, none⟩))] (ar trivial) fun j => ?_
  refine wpn_qa hO [0, 0] [(0, .pointer (some ⟨bm0, 0, none⟩)), (2, .bool ((decide (q0.N ≥ 2)) && (decide (q0.N ≤ 4))))] (And.intro (And.intro rfl rfl) (And.intro (And.intro rfl rfl) (And.intro (And.intro rfl rfl) (fun _ => ar (ar trivial))))) fun j => ?_
  refine wpn_r1 ?_
  injection hF with hF
  subst hF
  exact hQ _ _ _ _ _ rfl hO hL ⟨rfl, rfl⟩
theorem zeQ {τ : Hp} {q0 : za} {bm0 : Nat}  {rr : Int × za} (hF : zcv q0 = some rr) :
    Ctr Try.prog 87 #[.pointer (some ⟨bm0, 0, none⟩)] τ [some (bm0, ⟨[.int .u8 q0.Kind.toNat, .int .u8 q0.Op.toNat, .int .i64 q0.R, .int .i64 q0.S, .int .i64 q0.T, .int .i64 q0.N, .int .i64 q0.M], 24, 7, true⟩)] (fun v τ' vs' => v = .int .u8 rr.1 ∧ vs' = [some (bm0, ⟨[.int .u8 rr.2.Kind.toNat, .int .u8 rr.2.Op.toNat, .int .i64 rr.2.R, .int .i64 rr.2.S, .int .i64 rr.2.T, .int .i64 rr.2.N, .int .i64 rr.2.M], 24, 7, true⟩)]) := by
  refine ctr_of (args := [.pointer (some ⟨bm0, 0, none⟩)]) hm Try.func87 s87 rfl fun w0 σ hO Q hQ => ?_
  unfold zcv at hF
  have hL := Hp.le.refl τ
  show wpn _ _ a87.body _ _ _
  unfold a87
  dsimp only
  refine wpn_qa hO [] [(0, .pointer (some ⟨bm0, 0, none⟩))] (ar trivial) fun j => ?_
  refine wpn_qa hO [0] [(0, .pointer (some ⟨bm0, 0, none⟩)), (2, .int .u8 (IntKind.u8.wrap q0.N))] (And.intro (And.intro rfl rfl) (ar (ar trivial))) fun j => ?_
  refine wpn_r1 ?_
  injection hF with hF
  subst hF
  exact hQ _ _ _ _ _ rfl hO hL ⟨rfl, rfl⟩
theorem zdX {τ : Hp} {q0 : za} {bm0 : Nat} {p1 : Int}  {rr : za} (hF : zbP q0 p1 = some rr) :
    Ctr Try.prog 88 #[.pointer (some ⟨bm0, 0, none⟩), .int .u8 p1] τ [some (bm0, ⟨[.int .u8 q0.Kind.toNat, .int .u8 q0.Op.toNat, .int .i64 q0.R, .int .i64 q0.S, .int .i64 q0.T, .int .i64 q0.N, .int .i64 q0.M], 24, 7, true⟩)] (fun v τ' vs' => v = .tuple #[] ∧ vs' = [some (bm0, ⟨[.int .u8 rr.Kind.toNat, .int .u8 rr.Op.toNat, .int .i64 rr.R, .int .i64 rr.S, .int .i64 rr.T, .int .i64 rr.N, .int .i64 rr.M], 24, 7, true⟩)]) := by
  refine ctr_ofn (args := [.pointer (some ⟨bm0, 0, none⟩), .int .u8 p1]) hm Try.func88 s88 rfl fun w0 σ hO Q hQ => ?_
  unfold zbP at hF
  have hL := Hp.le.refl τ
  show wpn _ _ a88.body _ _ _
  unfold a88
  dsimp only
  refine wpn_rlast ?_
  refine wpn_q hO 5 [] [(0, .pointer (some ⟨bm0, 0, none⟩)), (6, .int .i64 (IntKind.i64.wrap p1)), (8, .pointer (some ⟨bm0, 5, none⟩))] (ar (ar (ar trivial))) fun j => ?_
  refine wpn_st hO (i := 0) rfl (off := 5) rfl rfl rfl rfl (Nat.le_of_ble_eq_true rfl) rfl fun σ hO => ?_
  have hO : Obs _ _ [_] := hO
  refine wpn_nil ?_
  refine wpn_end ?_
  injection hF with hF
  subst hF
  exact (hQ _ _ _ _ _ rfl hO hL ⟨rfl, rfl⟩).2
theorem zd9 {τ : Hp}   {rr : zd} (hF : zdd  = some rr) :
    Ctr Try.prog 56 #[.func (.func 86) #[] #[], .func (.func 87) #[] #[], .func (.func 88) #[] #[]] τ [] (fun v τ' vs' => ∃ (f0_0 : Fn) (a0_0 c0_0 : Array Value) (f0_1 : Fn) (a0_1 c0_1 : Array Value) (f0_2 : Fn) (a0_2 c0_2 : Array Value), v = .agg #[.func f0_0 a0_0 c0_0, .func f0_1 a0_1 c0_1, .func f0_2 a0_2 c0_2] ∧ vs' = [] ∧ zi τ' rr (.func f0_0 a0_0 c0_0) (.func f0_1 a0_1 c0_1) (.func f0_2 a0_2 c0_2)) := by
  refine ctr_of (args := [.func (.func 86) #[] #[], .func (.func 87) #[] #[], .func (.func 88) #[] #[]]) hm Try.func56 s56 rfl fun w0 σ hO Q hQ => ?_
  unfold zdd at hF
  have hL := Hp.le.refl τ
  show wpn _ _ a56.body _ _ _
  unfold a56
  dsimp only
  refine wpn_bx (n := 1) hO rfl rfl fun b4 σ hO => ?_
  have hO : Obs _ _ [_] := hO
  refine wpn_bx (n := 1) hO rfl rfl fun b5 σ hO => ?_
  have hO : Obs _ _ [_, _] := hO
  refine wpn_al hO fun b6 σ hO => ?_
  have hO : Obs _ _ [_, _, _] := hO
  refine wpn_nil ?_
  refine wpn_q hO 4 [] [(6, .pointer (some ⟨b6, 0, none⟩)), (10, .agg #[(.func (.func 86) #[] #[]), (.func (.func 89) #[] #[(.pointer (some ⟨b4, 0, none⟩))]), (.func (.func 90) #[] #[(.pointer (some ⟨b5, 0, none⟩))])])] (ar (ar trivial)) fun j => ?_
  refine wpn_st hO (i := 2) rfl (off := 0) rfl rfl rfl rfl (Nat.le_of_ble_eq_true rfl) rfl fun σ hO => ?_
  have hO : Obs _ _ [_, _, _] := hO
  refine wpn_nil ?_
  refine wpn_r1 ?_
  obtain ⟨_, h8, m7, hO⟩ := hO.shareV (i := 0) rfl
  have hL := hL.trans h8
  have hO : Obs _ _ [_, _, _] := hO
  obtain ⟨_, h10, m9, hO⟩ := hO.shareV (i := 1) rfl
  have hL := hL.trans h10
  have m7 := m7.le h10
  have hO : Obs _ _ [_, _, _] := hO
  injection hF with hF
  subst hF
  have hV0 := hO.val (i := 2) rfl (off := 0) (agg := true) (n := 3) rfl
  have hO := hO.sel [] (by decide)
  exact hQ _ _ _ _ _ (resvs_c rfl (hV0) rfl) hO hL ⟨_, _, _, _, _, _, _, _, _, rfl, rfl, ⟨(⟨b4, 0, none⟩ : Addr), (⟨b5, 0, none⟩ : Addr), rfl, rfl, rfl, m7, m9⟩⟩
theorem zec {τ : Hp}   {rr : zd} (hF : zc4  = some rr) :
    Ctr Try.prog 55 #[] τ [] (fun v τ' vs' => ∃ (f0_0 : Fn) (a0_0 c0_0 : Array Value) (f0_1 : Fn) (a0_1 c0_1 : Array Value) (f0_2 : Fn) (a0_2 c0_2 : Array Value), v = .agg #[.func f0_0 a0_0 c0_0, .func f0_1 a0_1 c0_1, .func f0_2 a0_2 c0_2] ∧ vs' = [] ∧ zi τ' rr (.func f0_0 a0_0 c0_0) (.func f0_1 a0_1 c0_1) (.func f0_2 a0_2 c0_2)) := by
  refine ctr_of (args := []) hm Try.func55 s55 rfl fun w0 σ hO Q hQ => ?_
  unfold zc4 at hF
  have hL := Hp.le.refl τ
  show wpn _ _ a55.body _ _ _
  unfold a55
  dsimp only
  refine wpn_al hO fun b1 σ hO => ?_
  have hO : Obs _ _ [_] := hO
  refine wpn_nil ?_
  obtain ⟨c2, h3, hF⟩ := bind_some hF
  refine wpn_c0 hO (zd9 h3) rfl fun _ σ _ _ hO h4 h5 => ?_
  have hL := hL.trans h4
  obtain ⟨f7, a8, c9, f10, a11, c12, f13, a14, c15, rfl, rfl, r6⟩ := h5
  have hO : Obs _ _ [_] := hO
  refine wpn_st hO (i := 0) rfl (off := 0) rfl rfl rfl rfl (Nat.le_of_ble_eq_true rfl) rfl fun σ hO => ?_
  have hO : Obs _ _ [_] := hO
  refine wpn_nil ?_
  refine wpn_r1 ?_
  injection hF with hF
  subst hF
  have hV0 := hO.val (i := 0) rfl (off := 0) (agg := true) (n := 3) rfl
  have hO := hO.sel [] (by decide)
  exact hQ _ _ _ _ _ (resvs_c rfl (hV0) rfl) hO hL ⟨_, _, _, _, _, _, _, _, _, rfl, rfl, r6⟩
theorem zey {τ : Hp}   {rr : zd} (hF : zc0  = some rr) :
    Ctr Try.prog 48 #[.func (.func 46) #[] #[]] τ [] (fun v τ' vs' => ∃ (f0_0 : Fn) (a0_0 c0_0 : Array Value) (f0_1 : Fn) (a0_1 c0_1 : Array Value) (f0_2 : Fn) (a0_2 c0_2 : Array Value), v = .agg #[.func f0_0 a0_0 c0_0, .func f0_1 a0_1 c0_1, .func f0_2 a0_2 c0_2] ∧ vs' = [] ∧ zi τ' rr (.func f0_0 a0_0 c0_0) (.func f0_1 a0_1 c0_1) (.func f0_2 a0_2 c0_2)) := by
  refine ctr_of (args := [.func (.func 46) #[] #[]]) hm Try.func48 s48 rfl fun w0 σ hO Q hQ => ?_
  unfold zc0 at hF
  have hL := Hp.le.refl τ
  show wpn _ _ a48.body _ _ _
  unfold a48
  dsimp only
  refine wpn_al hO fun b2 σ hO => ?_
  have hO : Obs _ _ [_] := hO
  refine wpn_nil ?_
  refine wpn_q hO 2 [] [(2, .pointer (some ⟨b2, 0, none⟩)), (4, .agg #[(.func (.func 46) #[] #[]), (.func (.func 61) #[] #[]), (.func (.func 63) #[] #[])])] (ar (ar trivial)) fun j => ?_
  refine wpn_st hO (i := 0) rfl (off := 0) rfl rfl rfl rfl (Nat.le_of_ble_eq_true rfl) rfl fun σ hO => ?_
  have hO : Obs _ _ [_] := hO
  refine wpn_nil ?_
  refine wpn_r1 ?_
  injection hF with hF
  subst hF
  have hV0 := hO.val (i := 0) rfl (off := 0) (agg := true) (n := 3) rfl
  have hO := hO.sel [] (by decide)
  exact hQ _ _ _ _ _ (resvs_c rfl (hV0) rfl) hO hL ⟨_, _, _, _, _, _, _, _, _, rfl, rfl, ⟨rfl, rfl, rfl⟩⟩
theorem zc3 {τ : Hp}   {rr : zd} (hF : zbk  = some rr) :
    Ctr Try.prog 48 #[.func (.func 52) #[] #[]] τ [] (fun v τ' vs' => ∃ (f0_0 : Fn) (a0_0 c0_0 : Array Value) (f0_1 : Fn) (a0_1 c0_1 : Array Value) (f0_2 : Fn) (a0_2 c0_2 : Array Value), v = .agg #[.func f0_0 a0_0 c0_0, .func f0_1 a0_1 c0_1, .func f0_2 a0_2 c0_2] ∧ vs' = [] ∧ zi τ' rr (.func f0_0 a0_0 c0_0) (.func f0_1 a0_1 c0_1) (.func f0_2 a0_2 c0_2)) := by
  refine ctr_of (args := [.func (.func 52) #[] #[]]) hm Try.func48 s48 rfl fun w0 σ hO Q hQ => ?_
  unfold zbk at hF
  have hL := Hp.le.refl τ
  show wpn _ _ a48.body _ _ _
  unfold a48
  dsimp only
  refine wpn_al hO fun b2 σ hO => ?_
  have hO : Obs _ _ [_] := hO
  refine wpn_nil ?_
  refine wpn_q hO 2 [] [(2, .pointer (some ⟨b2, 0, none⟩)), (4, .agg #[(.func (.func 52) #[] #[]), (.func (.func 61) #[] #[]), (.func (.func 63) #[] #[])])] (ar (ar trivial)) fun j => ?_
  refine wpn_st hO (i := 0) rfl (off := 0) rfl rfl rfl rfl (Nat.le_of_ble_eq_true rfl) rfl fun σ hO => ?_
  have hO : Obs _ _ [_] := hO
  refine wpn_nil ?_
  refine wpn_r1 ?_
  injection hF with hF
  subst hF
  have hV0 := hO.val (i := 0) rfl (off := 0) (agg := true) (n := 3) rfl
  have hO := hO.sel [] (by decide)
  exact hQ _ _ _ _ _ (resvs_c rfl (hV0) rfl) hO hL ⟨_, _, _, _, _, _, _, _, _, rfl, rfl, ⟨rfl, rfl, rfl⟩⟩
theorem zdN {τ : Hp} {p0 : Int}  {rr : (List zd) × Bool} (hF : zX p0 = some rr) :
    Ctr Try.prog 38 #[.int .u8 p0] τ [] (fun v τ' vs' => ∃ (v0 : Value) (o0 : Ob), v = .tuple #[v0, .bool rr.2] ∧ vs' = [o0] ∧ OwnO zk 73 τ' v0 rr.1 o0) := by
  refine ctr_of (args := [.int .u8 p0]) hm Try.func38 s38 rfl fun w0 σ hO Q hQ => ?_
  unfold zX at hF
  have hL := Hp.le.refl τ
  show wpn _ _ a38.body _ _ _
  unfold a38
  dsimp only
  refine wpn_qa hO [] [(0, .int .u8 p0)] (ar trivial) fun j => ?_
  refine wpn_qa hO [] [(0, .int .u8 p0), (4, .func (.func 46) #[] #[])] (ar (ar trivial)) fun j => ?_
  refine wpn_assoc ?_
  refine wpn_qa hO [] [(4, .func (.func 46) #[] #[]), (5, .int .u8 p0)] (ar (ar trivial)) fun j => ?_
  refine wpn_bl ?_
  refine wpn_assoc ?_
  refine wpn_qa hO [] [(4, .func (.func 46) #[] #[]), (5, .int .u8 p0), (6, .bool (p0 == 1))] (ar (ar (ar trivial))) fun j => ?_
  refine wpn_cut (fun e' σ' => ∃ (x3 : Bool) (τ' : Hp), agr [(4, .func (.func 46) #[] #[]), (5, .int .u8 p0), (6, .bool x3)] e' ∧ Obs τ' σ' [] ∧ Hp.le τ τ' ∧ zbK p0 x3 = some rr) ?_ ?_
  · refine wpn_clast ?_
    rcases ite_some hF with ⟨hb354, hF⟩ | ⟨hb354, hF⟩
    · refine wpn_cT (congrArg Value.bool hb354) ?_
      refine wpn_sk ?_
      refine wpn_end ?_
      refine thn_i ?_
      exact ⟨(p0 == 1), _, ar (ar (ar trivial)), hO, hL, hF⟩
    · refine wpn_cF (congrArg Value.bool hb354) ?_
      refine wpn_qa hO [] [(4, .func (.func 46) #[] #[]), (5, .int .u8 p0), (6, .bool (p0 == 13))] (ar (ar (ar trivial))) fun j => ?_
      refine wpn_end ?_
      refine thn_i ?_
      exact ⟨(p0 == 13), _, ar (ar (ar trivial)), hO, hL, hF⟩
  · rintro e σ ⟨x3, _, hA, hO, hL, hF⟩
    rw [← sets_agr _ _ hA]
    unfold zbK at hF
    refine wpn_clast ?_
    rcases ite_some hF with ⟨hb4, hF⟩ | ⟨hb4, hF⟩
    · refine wpn_cT (congrArg Value.bool hb4) ?_
      refine wpn_assoc ?_
      refine wpn_qa hO [] [(2, .slice none 0 0), (3, .bool true)] (ar (ar trivial)) fun j => ?_
      refine wpn_rt ?_
      refine inb_r1 ?_
      refine thn_r1 ?_
      have hO := hO.no
      have hO : Obs _ _ [_] := hO
      injection hF with hF
      subst hF
      exact hQ _ _ _ _ _ rfl hO hL ⟨_, _, rfl, rfl, (OwnO.nil _ _ _)⟩
    · refine wpn_cF (congrArg Value.bool hb4) ?_
      refine wpn_assoc ?_
      refine wpn_qa hO [] [(4, .func (.func 46) #[] #[]), (5, .int .u8 p0), (9, .bool (p0 == 2))] (ar (ar (ar trivial))) fun j => ?_
      rcases ite_some hF with ⟨hb5, hF⟩ | ⟨hb5, hF⟩
      · refine wpn_cT (congrArg Value.bool hb5) ?_
        refine wpn_assoc ?_
        obtain ⟨c6, h7, hF⟩ := bind_some hF
        refine wpn_c0 hO (zcY h7) rfl fun _ σ _ _ hO h8 h9 => ?_
        have hL := hL.trans h8
        obtain ⟨f11, a12, c13, f14, a15, c16, f17, a18, c19, rfl, rfl, r10⟩ := h9
        have hO : Obs _ _ [] := hO
        refine wpn_q hO 1 [] [(11, .agg #[(.func f11 a12 c13), (.func f14 a15 c16), (.func f17 a18 c19)]), (12, .func (.func 46) #[] #[])] (ar (ar trivial)) fun j => ?_
        obtain ⟨c20, h21, hF⟩ := bind_some hF
        refine wpn_c0 hO (zey h21) rfl fun _ σ _ _ hO h22 h23 => ?_
        have hL := hL.trans h22
        have r10 := r10.le h22
        obtain ⟨f25, a26, c27, f28, a29, c30, f31, a32, c33, rfl, rfl, r24⟩ := h23
        have hO : Obs _ _ [] := hO
        refine wpn_lit (T := zk) (l := ([c6, c20] : List zd)) (cs := [.func f11 a12 c13, .func f14 a15 c16, .func f17 a18 c19, .func f25 a26 c27, .func f28 a29 c30, .func f31 a32 c33]) hO rfl ⟨[.func f11 a12 c13, .func f14 a15 c16, .func f17 a18 c19], _, rfl, ⟨_, _, _, _, _, _, _, _, _, rfl, r10⟩, ⟨[.func f25 a26 c27, .func f28 a29 c30, .func f31 a32 c33], _, rfl, ⟨_, _, _, _, _, _, _, _, _, rfl, r24⟩, rfl⟩⟩ rfl (by decide) fun _ σ o36 w37 hO => ?_
        obtain ⟨A34, c35, rfl, -⟩ := w37.form
        have hO : Obs _ _ [_] := hO
        refine wpn_qa hO [] [(2, .slice A34 ([c6, c20] : List zd).length c35), (3, .bool true)] (ar (ar trivial)) fun j => ?_
        refine wpn_rt ?_
        refine inb_r1 ?_
        refine thn_r1 ?_
        injection hF with hF
        subst hF
        exact hQ _ _ _ _ _ rfl hO hL ⟨_, _, rfl, rfl, w37⟩
      · refine wpn_cF (congrArg Value.bool hb5) ?_
        refine wpn_assoc ?_
        refine wpn_qa hO [] [(5, .int .u8 p0), (15, .bool (p0 == 3))] (ar (ar trivial)) fun j => ?_
        rcases ite_some hF with ⟨hb38, hF⟩ | ⟨hb38, hF⟩
        · refine wpn_cT (congrArg Value.bool hb38) ?_
          refine wpn_assoc ?_
          obtain ⟨c39, h40, hF⟩ := bind_some hF
          refine wpn_c0 hO (zbu h40) rfl fun _ σ _ _ hO h41 h42 => ?_
          have hL := hL.trans h41
          obtain ⟨f44, a45, c46, f47, a48, c49, f50, a51, c52, rfl, rfl, r43⟩ := h42
          have hO : Obs _ _ [] := hO
          refine wpn_lit (T := zk) (l := ([c39] : List zd)) (cs := [.func f44 a45 c46, .func f47 a48 c49, .func f50 a51 c52]) hO rfl ⟨[.func f44 a45 c46, .func f47 a48 c49, .func f50 a51 c52], _, rfl, ⟨_, _, _, _, _, _, _, _, _, rfl, r43⟩, rfl⟩ rfl (by decide) fun _ σ o55 w56 hO => ?_
          obtain ⟨A53, c54, rfl, -⟩ := w56.form
          have hO : Obs _ _ [_] := hO
          refine wpn_qa hO [] [(2, .slice A53 ([c39] : List zd).length c54), (3, .bool true)] (ar (ar trivial)) fun j => ?_
          refine wpn_rt ?_
          refine inb_r1 ?_
          refine thn_r1 ?_
          injection hF with hF
          subst hF
          exact hQ _ _ _ _ _ rfl hO hL ⟨_, _, rfl, rfl, w56⟩
        · refine wpn_cF (congrArg Value.bool hb38) ?_
          refine wpn_assoc ?_
          refine wpn_qa hO [] [(5, .int .u8 p0), (19, .bool (p0 == 4))] (ar (ar trivial)) fun j => ?_
          rcases ite_some hF with ⟨hb57, hF⟩ | ⟨hb57, hF⟩
          · refine wpn_cT (congrArg Value.bool hb57) ?_
            refine wpn_assoc ?_
            obtain ⟨c58, h59, hF⟩ := bind_some hF
            refine wpn_c0 hO (zdK h59) rfl fun _ σ _ _ hO h60 h61 => ?_
            have hL := hL.trans h60
            obtain ⟨f63, a64, c65, f66, a67, c68, f69, a70, c71, rfl, rfl, r62⟩ := h61
            have hO : Obs _ _ [] := hO
            obtain ⟨c72, h73, hF⟩ := bind_some hF
            refine wpn_c0 hO (zbu h73) rfl fun _ σ _ _ hO h74 h75 => ?_
            have hL := hL.trans h74
            have r62 := r62.le h74
            obtain ⟨f77, a78, c79, f80, a81, c82, f83, a84, c85, rfl, rfl, r76⟩ := h75
            have hO : Obs _ _ [] := hO
            obtain ⟨c86, h87, hF⟩ := bind_some hF
            refine wpn_c0 hO (zdh h87) rfl fun _ σ _ _ hO h88 h89 => ?_
            have hL := hL.trans h88
            have r62 := r62.le h88
            have r76 := r76.le h88
            obtain ⟨f91, a92, c93, f94, a95, c96, f97, a98, c99, rfl, rfl, r90⟩ := h89
            have hO : Obs _ _ [] := hO
            refine wpn_lit (T := zk) (l := ([c58, c72, c86] : List zd)) (cs := [.func f63 a64 c65, .func f66 a67 c68, .func f69 a70 c71, .func f77 a78 c79, .func f80 a81 c82, .func f83 a84 c85, .func f91 a92 c93, .func f94 a95 c96, .func f97 a98 c99]) hO rfl ⟨[.func f63 a64 c65, .func f66 a67 c68, .func f69 a70 c71], _, rfl, ⟨_, _, _, _, _, _, _, _, _, rfl, r62⟩, ⟨[.func f77 a78 c79, .func f80 a81 c82, .func f83 a84 c85], _, rfl, ⟨_, _, _, _, _, _, _, _, _, rfl, r76⟩, ⟨[.func f91 a92 c93, .func f94 a95 c96, .func f97 a98 c99], _, rfl, ⟨_, _, _, _, _, _, _, _, _, rfl, r90⟩, rfl⟩⟩⟩ rfl (by decide) fun _ σ o102 w103 hO => ?_
            obtain ⟨A100, c101, rfl, -⟩ := w103.form
            have hO : Obs _ _ [_] := hO
            refine wpn_qa hO [] [(2, .slice A100 ([c58, c72, c86] : List zd).length c101), (3, .bool true)] (ar (ar trivial)) fun j => ?_
            refine wpn_rt ?_
            refine inb_r1 ?_
            refine thn_r1 ?_
            injection hF with hF
            subst hF
            exact hQ _ _ _ _ _ rfl hO hL ⟨_, _, rfl, rfl, w103⟩
          · refine wpn_cF (congrArg Value.bool hb57) ?_
            refine wpn_assoc ?_
            refine wpn_qa hO [] [(5, .int .u8 p0), (25, .bool (p0 == 5))] (ar (ar trivial)) fun j => ?_
            rcases ite_some hF with ⟨hb104, hF⟩ | ⟨hb104, hF⟩
            · refine wpn_cT (congrArg Value.bool hb104) ?_
              refine wpn_assoc ?_
              obtain ⟨c105, h106, hF⟩ := bind_some hF
              refine wpn_c0 hO (zdK h106) rfl fun _ σ _ _ hO h107 h108 => ?_
              have hL := hL.trans h107
              obtain ⟨f110, a111, c112, f113, a114, c115, f116, a117, c118, rfl, rfl, r109⟩ := h108
              have hO : Obs _ _ [] := hO
              obtain ⟨c119, h120, hF⟩ := bind_some hF
              refine wpn_c0 hO (zbu h120) rfl fun _ σ _ _ hO h121 h122 => ?_
              have hL := hL.trans h121
              have r109 := r109.le h121
              obtain ⟨f124, a125, c126, f127, a128, c129, f130, a131, c132, rfl, rfl, r123⟩ := h122
              have hO : Obs _ _ [] := hO
              refine wpn_lit (T := zk) (l := ([c105, c119] : List zd)) (cs := [.func f110 a111 c112, .func f113 a114 c115, .func f116 a117 c118, .func f124 a125 c126, .func f127 a128 c129, .func f130 a131 c132]) hO rfl ⟨[.func f110 a111 c112, .func f113 a114 c115, .func f116 a117 c118], _, rfl, ⟨_, _, _, _, _, _, _, _, _, rfl, r109⟩, ⟨[.func f124 a125 c126, .func f127 a128 c129, .func f130 a131 c132], _, rfl, ⟨_, _, _, _, _, _, _, _, _, rfl, r123⟩, rfl⟩⟩ rfl (by decide) fun _ σ o135 w136 hO => ?_
              obtain ⟨A133, c134, rfl, -⟩ := w136.form
              have hO : Obs _ _ [_] := hO
              refine wpn_qa hO [] [(2, .slice A133 ([c105, c119] : List zd).length c134), (3, .bool true)] (ar (ar trivial)) fun j => ?_
              refine wpn_rt ?_
              refine inb_r1 ?_
              refine thn_r1 ?_
              injection hF with hF
              subst hF
              exact hQ _ _ _ _ _ rfl hO hL ⟨_, _, rfl, rfl, w136⟩
            · refine wpn_cF (congrArg Value.bool hb104) ?_
              refine wpn_assoc ?_
              refine wpn_assoc ?_
              refine wpn_qa hO [] [(5, .int .u8 p0), (30, .bool (p0 == 6))] (ar (ar trivial)) fun j => ?_
              refine wpn_cut (fun e' σ' => ∃ (x138 : Bool) (τ' : Hp), agr [(5, .int .u8 p0), (30, .bool x138)] e' ∧ Obs τ' σ' [] ∧ Hp.le τ τ' ∧ zbD p0 x138 = some rr) ?_ ?_
              · refine wpn_clast ?_
                rcases ite_some hF with ⟨hb353, hF⟩ | ⟨hb353, hF⟩
                · refine wpn_cT (congrArg Value.bool hb353) ?_
                  refine wpn_sk ?_
                  refine wpn_end ?_
                  refine thn_i ?_
                  exact ⟨(p0 == 6), _, ar (ar trivial), hO, hL, hF⟩
                · refine wpn_cF (congrArg Value.bool hb353) ?_
                  refine wpn_qa hO [] [(5, .int .u8 p0), (30, .bool (p0 == 7))] (ar (ar trivial)) fun j => ?_
                  refine wpn_end ?_
                  refine thn_i ?_
                  exact ⟨(p0 == 7), _, ar (ar trivial), hO, hL, hF⟩
              · rintro e σ ⟨x138, _, hA, hO, hL, hF⟩
                rw [← sets_agr _ _ hA]
                unfold zbD at hF
                rcases ite_some hF with ⟨hb139, hF⟩ | ⟨hb139, hF⟩
                · refine wpn_cT (congrArg Value.bool hb139) ?_
                  refine wpn_assoc ?_
                  obtain ⟨c140, h141, hF⟩ := bind_some hF
                  refine wpn_c0 hO (zbu h141) rfl fun _ σ _ _ hO h142 h143 => ?_
                  have hL := hL.trans h142
                  obtain ⟨f145, a146, c147, f148, a149, c150, f151, a152, c153, rfl, rfl, r144⟩ := h143
                  have hO : Obs _ _ [] := hO
                  obtain ⟨c154, h155, hF⟩ := bind_some hF
                  refine wpn_c0 hO (zc3 h155) rfl fun _ σ _ _ hO h156 h157 => ?_
                  have hL := hL.trans h156
                  have r144 := r144.le h156
                  obtain ⟨f159, a160, c161, f162, a163, c164, f165, a166, c167, rfl, rfl, r158⟩ := h157
                  have hO : Obs _ _ [] := hO
                  refine wpn_lit (T := zk) (l := ([c140, c154] : List zd)) (cs := [.func f145 a146 c147, .func f148 a149 c150, .func f151 a152 c153, .func f159 a160 c161, .func f162 a163 c164, .func f165 a166 c167]) hO rfl ⟨[.func f145 a146 c147, .func f148 a149 c150, .func f151 a152 c153], _, rfl, ⟨_, _, _, _, _, _, _, _, _, rfl, r144⟩, ⟨[.func f159 a160 c161, .func f162 a163 c164, .func f165 a166 c167], _, rfl, ⟨_, _, _, _, _, _, _, _, _, rfl, r158⟩, rfl⟩⟩ rfl (by decide) fun _ σ o170 w171 hO => ?_
                  obtain ⟨A168, c169, rfl, -⟩ := w171.form
                  have hO : Obs _ _ [_] := hO
                  refine wpn_qa hO [] [(2, .slice A168 ([c140, c154] : List zd).length c169), (3, .bool true)] (ar (ar trivial)) fun j => ?_
                  refine wpn_rt ?_
                  refine inb_r1 ?_
                  refine thn_r1 ?_
                  injection hF with hF
                  subst hF
                  exact hQ _ _ _ _ _ rfl hO hL ⟨_, _, rfl, rfl, w171⟩
                · refine wpn_cF (congrArg Value.bool hb139) ?_
                  refine wpn_assoc ?_
                  refine wpn_assoc ?_
                  refine wpn_qa hO [] [(5, .int .u8 p0), (36, .bool (p0 == 8))] (ar (ar trivial)) fun j => ?_
                  refine wpn_cut (fun e' σ' => ∃ (x173 : Bool) (τ' : Hp), agr [(5, .int .u8 p0), (36, .bool x173)] e' ∧ Obs τ' σ' [] ∧ Hp.le τ τ' ∧ zbM p0 x173 = some rr) ?_ ?_
                  · refine wpn_clast ?_
                    rcases ite_some hF with ⟨hb352, hF⟩ | ⟨hb352, hF⟩
                    · refine wpn_cT (congrArg Value.bool hb352) ?_
                      refine wpn_sk ?_
                      refine wpn_end ?_
                      refine thn_i ?_
                      exact ⟨(p0 == 8), _, ar (ar trivial), hO, hL, hF⟩
                    · refine wpn_cF (congrArg Value.bool hb352) ?_
                      refine wpn_qa hO [] [(5, .int .u8 p0), (36, .bool (p0 == 9))] (ar (ar trivial)) fun j => ?_
                      refine wpn_end ?_
                      refine thn_i ?_
                      exact ⟨(p0 == 9), _, ar (ar trivial), hO, hL, hF⟩
                  · rintro e σ ⟨x173, _, hA, hO, hL, hF⟩
                    rw [← sets_agr _ _ hA]
                    unfold zbM at hF
                    rcases ite_some hF with ⟨hb174, hF⟩ | ⟨hb174, hF⟩
                    · refine wpn_cT (congrArg Value.bool hb174) ?_
                      refine wpn_assoc ?_
                      obtain ⟨c175, h176, hF⟩ := bind_some hF
                      refine wpn_c0 hO (zbu h176) rfl fun _ σ _ _ hO h177 h178 => ?_
                      have hL := hL.trans h177
                      obtain ⟨f180, a181, c182, f183, a184, c185, f186, a187, c188, rfl, rfl, r179⟩ := h178
                      have hO : Obs _ _ [] := hO
                      obtain ⟨c189, h190, hF⟩ := bind_some hF
                      refine wpn_c0 hO (zdh h190) rfl fun _ σ _ _ hO h191 h192 => ?_
                      have hL := hL.trans h191
                      have r179 := r179.le h191
                      obtain ⟨f194, a195, c196, f197, a198, c199, f200, a201, c202, rfl, rfl, r193⟩ := h192
                      have hO : Obs _ _ [] := hO
                      obtain ⟨c203, h204, hF⟩ := bind_some hF
                      refine wpn_c0 hO (zc3 h204) rfl fun _ σ _ _ hO h205 h206 => ?_
                      have hL := hL.trans h205
                      have r179 := r179.le h205
                      have r193 := r193.le h205
                      obtain ⟨f208, a209, c210, f211, a212, c213, f214, a215, c216, rfl, rfl, r207⟩ := h206
                      have hO : Obs _ _ [] := hO
                      obtain ⟨c217, h218, hF⟩ := bind_some hF
                      refine wpn_c0 hO (ze0 h218) rfl fun _ σ _ _ hO h219 h220 => ?_
                      have hL := hL.trans h219
                      have r179 := r179.le h219
                      have r193 := r193.le h219
                      have r207 := r207.le h219
                      obtain ⟨f222, a223, c224, f225, a226, c227, f228, a229, c230, rfl, rfl, r221⟩ := h220
                      have hO : Obs _ _ [] := hO
                      refine wpn_lit (T := zk) (l := ([c175, c189, c203, c217] : List zd)) (cs := [.func f180 a181 c182, .func f183 a184 c185, .func f186 a187 c188, .func f194 a195 c196, .func f197 a198 c199, .func f200 a201 c202, .func f208 a209 c210, .func f211 a212 c213, .func f214 a215 c216, .func f222 a223 c224, .func f225 a226 c227, .func f228 a229 c230]) hO rfl ⟨[.func f180 a181 c182, .func f183 a184 c185, .func f186 a187 c188], _, rfl, ⟨_, _, _, _, _, _, _, _, _, rfl, r179⟩, ⟨[.func f194 a195 c196, .func f197 a198 c199, .func f200 a201 c202], _, rfl, ⟨_, _, _, _, _, _, _, _, _, rfl, r193⟩, ⟨[.func f208 a209 c210, .func f211 a212 c213, .func f214 a215 c216], _, rfl, ⟨_, _, _, _, _, _, _, _, _, rfl, r207⟩, ⟨[.func f222 a223 c224, .func f225 a226 c227, .func f228 a229 c230], _, rfl, ⟨_, _, _, _, _, _, _, _, _, rfl, r221⟩, rfl⟩⟩⟩⟩ rfl (by decide) fun _ σ o233 w234 hO => ?_
                      obtain ⟨A231, c232, rfl, -⟩ := w234.form
                      have hO : Obs _ _ [_] := hO
                      refine wpn_qa hO [] [(2, .slice A231 ([c175, c189, c203, c217] : List zd).length c232), (3, .bool true)] (ar (ar trivial)) fun j => ?_
                      refine wpn_rt ?_
                      refine inb_r1 ?_
                      refine thn_r1 ?_
                      injection hF with hF
                      subst hF
                      exact hQ _ _ _ _ _ rfl hO hL ⟨_, _, rfl, rfl, w234⟩
                    · refine wpn_cF (congrArg Value.bool hb174) ?_
                      refine wpn_assoc ?_
                      refine wpn_assoc ?_
                      refine wpn_qa hO [] [(5, .int .u8 p0), (44, .bool (p0 == 10))] (ar (ar trivial)) fun j => ?_
                      refine wpn_cut (fun e' σ' => ∃ (x236 : Bool) (τ' : Hp), agr [(5, .int .u8 p0), (44, .bool x236)] e' ∧ Obs τ' σ' [] ∧ Hp.le τ τ' ∧ zbT p0 x236 = some rr) ?_ ?_
                      · refine wpn_clast ?_
                        rcases ite_some hF with ⟨hb351, hF⟩ | ⟨hb351, hF⟩
                        · refine wpn_cT (congrArg Value.bool hb351) ?_
                          refine wpn_sk ?_
                          refine wpn_end ?_
                          refine thn_i ?_
                          exact ⟨(p0 == 10), _, ar (ar trivial), hO, hL, hF⟩
                        · refine wpn_cF (congrArg Value.bool hb351) ?_
                          refine wpn_qa hO [] [(5, .int .u8 p0), (44, .bool (p0 == 12))] (ar (ar trivial)) fun j => ?_
                          refine wpn_end ?_
                          refine thn_i ?_
                          exact ⟨(p0 == 12), _, ar (ar trivial), hO, hL, hF⟩
                      · rintro e σ ⟨x236, _, hA, hO, hL, hF⟩
                        rw [← sets_agr _ _ hA]
                        unfold zbT at hF
                        rcases ite_some hF with ⟨hb237, hF⟩ | ⟨hb237, hF⟩
                        · refine wpn_cT (congrArg Value.bool hb237) ?_
                          refine wpn_assoc ?_
                          obtain ⟨c238, h239, hF⟩ := bind_some hF
                          refine wpn_c0 hO (zde h239) rfl fun _ σ _ _ hO h240 h241 => ?_
                          have hL := hL.trans h240
                          obtain ⟨f243, a244, c245, f246, a247, c248, f249, a250, c251, rfl, rfl, r242⟩ := h241
                          have hO : Obs _ _ [] := hO
                          refine wpn_lit (T := zk) (l := ([c238] : List zd)) (cs := [.func f243 a244 c245, .func f246 a247 c248, .func f249 a250 c251]) hO rfl ⟨[.func f243 a244 c245, .func f246 a247 c248, .func f249 a250 c251], _, rfl, ⟨_, _, _, _, _, _, _, _, _, rfl, r242⟩, rfl⟩ rfl (by decide) fun _ σ o254 w255 hO => ?_
                          obtain ⟨A252, c253, rfl, -⟩ := w255.form
                          have hO : Obs _ _ [_] := hO
                          refine wpn_qa hO [] [(2, .slice A252 ([c238] : List zd).length c253), (3, .bool true)] (ar (ar trivial)) fun j => ?_
                          refine wpn_rt ?_
                          refine inb_r1 ?_
                          refine thn_r1 ?_
                          injection hF with hF
                          subst hF
                          exact hQ _ _ _ _ _ rfl hO hL ⟨_, _, rfl, rfl, w255⟩
                        · refine wpn_cF (congrArg Value.bool hb237) ?_
                          refine wpn_assoc ?_
                          refine wpn_qa hO [] [(5, .int .u8 p0), (49, .bool (p0 == 11))] (ar (ar trivial)) fun j => ?_
                          rcases ite_some hF with ⟨hb256, hF⟩ | ⟨hb256, hF⟩
                          · refine wpn_cT (congrArg Value.bool hb256) ?_
                            refine wpn_assoc ?_
                            obtain ⟨c257, h258, hF⟩ := bind_some hF
                            refine wpn_c0 hO (zcY h258) rfl fun _ σ _ _ hO h259 h260 => ?_
                            have hL := hL.trans h259
                            obtain ⟨f262, a263, c264, f265, a266, c267, f268, a269, c270, rfl, rfl, r261⟩ := h260
                            have hO : Obs _ _ [] := hO
                            obtain ⟨c271, h272, hF⟩ := bind_some hF
                            refine wpn_c0 hO (zde h272) rfl fun _ σ _ _ hO h273 h274 => ?_
                            have hL := hL.trans h273
                            have r261 := r261.le h273
                            obtain ⟨f276, a277, c278, f279, a280, c281, f282, a283, c284, rfl, rfl, r275⟩ := h274
                            have hO : Obs _ _ [] := hO
                            refine wpn_lit (T := zk) (l := ([c257, c271] : List zd)) (cs := [.func f262 a263 c264, .func f265 a266 c267, .func f268 a269 c270, .func f276 a277 c278, .func f279 a280 c281, .func f282 a283 c284]) hO rfl ⟨[.func f262 a263 c264, .func f265 a266 c267, .func f268 a269 c270], _, rfl, ⟨_, _, _, _, _, _, _, _, _, rfl, r261⟩, ⟨[.func f276 a277 c278, .func f279 a280 c281, .func f282 a283 c284], _, rfl, ⟨_, _, _, _, _, _, _, _, _, rfl, r275⟩, rfl⟩⟩ rfl (by decide) fun _ σ o287 w288 hO => ?_
                            obtain ⟨A285, c286, rfl, -⟩ := w288.form
                            have hO : Obs _ _ [_] := hO
                            refine wpn_qa hO [] [(2, .slice A285 ([c257, c271] : List zd).length c286), (3, .bool true)] (ar (ar trivial)) fun j => ?_
                            refine wpn_rt ?_
                            refine inb_r1 ?_
                            refine thn_r1 ?_
                            injection hF with hF
                            subst hF
                            exact hQ _ _ _ _ _ rfl hO hL ⟨_, _, rfl, rfl, w288⟩
                          · refine wpn_cF (congrArg Value.bool hb256) ?_
                            refine wpn_assoc ?_
                            refine wpn_qa hO [] [(5, .int .u8 p0), (54, .bool (p0 == 14))] (ar (ar trivial)) fun j => ?_
                            rcases ite_some hF with ⟨hb289, hF⟩ | ⟨hb289, hF⟩
                            · refine wpn_cT (congrArg Value.bool hb289) ?_
                              refine wpn_assoc ?_
                              obtain ⟨c290, h291, hF⟩ := bind_some hF
                              refine wpn_c0 hO (zc3 h291) rfl fun _ σ _ _ hO h292 h293 => ?_
                              have hL := hL.trans h292
                              obtain ⟨f295, a296, c297, f298, a299, c300, f301, a302, c303, rfl, rfl, r294⟩ := h293
                              have hO : Obs _ _ [] := hO
                              refine wpn_lit (T := zk) (l := ([c290] : List zd)) (cs := [.func f295 a296 c297, .func f298 a299 c300, .func f301 a302 c303]) hO rfl ⟨[.func f295 a296 c297, .func f298 a299 c300, .func f301 a302 c303], _, rfl, ⟨_, _, _, _, _, _, _, _, _, rfl, r294⟩, rfl⟩ rfl (by decide) fun _ σ o306 w307 hO => ?_
                              obtain ⟨A304, c305, rfl, -⟩ := w307.form
                              have hO : Obs _ _ [_] := hO
                              refine wpn_qa hO [] [(2, .slice A304 ([c290] : List zd).length c305), (3, .bool true)] (ar (ar trivial)) fun j => ?_
                              refine wpn_rt ?_
                              refine inb_r1 ?_
                              refine thn_r1 ?_
                              injection hF with hF
                              subst hF
                              exact hQ _ _ _ _ _ rfl hO hL ⟨_, _, rfl, rfl, w307⟩
                            · refine wpn_cF (congrArg Value.bool hb289) ?_
                              refine wpn_assoc ?_
                              refine wpn_assoc ?_
                              refine wpn_qa hO [] [(5, .int .u8 p0), (58, .bool (p0 == 15))] (ar (ar trivial)) fun j => ?_
                              refine wpn_cut (fun e' σ' => ∃ (x310 : Bool) (τ' : Hp), agr [(5, .int .u8 p0), (58, .bool x310)] e' ∧ Obs τ' σ' [] ∧ Hp.le τ τ' ∧ z5 p0 x310 = some rr) ?_ ?_
                              · refine wpn_clast ?_
                                rcases ite_some hF with ⟨hb349, hF⟩ | ⟨hb349, hF⟩
                                · refine wpn_cT (congrArg Value.bool hb349) ?_
                                  refine wpn_sk ?_
                                  refine wpn_end ?_
                                  refine thn_i ?_
                                  exact ⟨(p0 == 15), _, ar (ar trivial), hO, hL, hF⟩
                                · refine wpn_cF (congrArg Value.bool hb349) ?_
                                  refine wpn_assoc ?_
                                  refine wpn_qa hO [] [(5, .int .u8 p0), (58, .bool (p0 == 16))] (ar (ar trivial)) fun j => ?_
                                  rcases ite_some hF with ⟨hb350, hF⟩ | ⟨hb350, hF⟩
                                  · refine wpn_cT (congrArg Value.bool hb350) ?_
                                    refine wpn_sk ?_
                                    refine wpn_end ?_
                                    refine thn_i ?_
                                    exact ⟨(p0 == 16), _, ar (ar trivial), hO, hL, hF⟩
                                  · refine wpn_cF (congrArg Value.bool hb350) ?_
                                    refine wpn_qa hO [] [(5, .int .u8 p0), (58, .bool (p0 == 17))] (ar (ar trivial)) fun j => ?_
                                    refine wpn_end ?_
                                    refine thn_i ?_
                                    exact ⟨(p0 == 17), _, ar (ar trivial), hO, hL, hF⟩
                              · rintro e σ ⟨x310, _, hA, hO, hL, hF⟩
                                rw [← sets_agr _ _ hA]
                                unfold z5 at hF
                                rcases ite_some hF with ⟨hb311, hF⟩ | ⟨hb311, hF⟩
                                · refine wpn_cT (congrArg Value.bool hb311) ?_
                                  refine wpn_assoc ?_
                                  obtain ⟨c312, h313, hF⟩ := bind_some hF
                                  refine wpn_c0 hO (zcY h313) rfl fun _ σ _ _ hO h314 h315 => ?_
                                  have hL := hL.trans h314
                                  obtain ⟨f317, a318, c319, f320, a321, c322, f323, a324, c325, rfl, rfl, r316⟩ := h315
                                  have hO : Obs _ _ [] := hO
                                  refine wpn_lit (T := zk) (l := ([c312] : List zd)) (cs := [.func f317 a318 c319, .func f320 a321 c322, .func f323 a324 c325]) hO rfl ⟨[.func f317 a318 c319, .func f320 a321 c322, .func f323 a324 c325], _, rfl, ⟨_, _, _, _, _, _, _, _, _, rfl, r316⟩, rfl⟩ rfl (by decide) fun _ σ o328 w329 hO => ?_
                                  obtain ⟨A326, c327, rfl, -⟩ := w329.form
                                  have hO : Obs _ _ [_] := hO
                                  refine wpn_qa hO [] [(2, .slice A326 ([c312] : List zd).length c327), (3, .bool true)] (ar (ar trivial)) fun j => ?_
                                  refine wpn_rt ?_
                                  refine inb_r1 ?_
                                  refine thn_r1 ?_
                                  injection hF with hF
                                  subst hF
                                  exact hQ _ _ _ _ _ rfl hO hL ⟨_, _, rfl, rfl, w329⟩
                                · refine wpn_cF (congrArg Value.bool hb311) ?_
                                  refine wpn_assoc ?_
                                  refine wpn_qa hO [] [(64, .bool (p0 == 18))] (ar trivial) fun j => ?_
                                  rcases ite_some hF with ⟨hb330, hF⟩ | ⟨hb330, hF⟩
                                  · refine wpn_cT (congrArg Value.bool hb330) ?_
                                    refine wpn_assoc ?_
                                    obtain ⟨c331, h332, hF⟩ := bind_some hF
                                    refine wpn_c0 hO (zec h332) rfl fun _ σ _ _ hO h333 h334 => ?_
                                    have hL := hL.trans h333
                                    obtain ⟨f336, a337, c338, f339, a340, c341, f342, a343, c344, rfl, rfl, r335⟩ := h334
                                    have hO : Obs _ _ [] := hO
                                    refine wpn_lit (T := zk) (l := ([c331] : List zd)) (cs := [.func f336 a337 c338, .func f339 a340 c341, .func f342 a343 c344]) hO rfl ⟨[.func f336 a337 c338, .func f339 a340 c341, .func f342 a343 c344], _, rfl, ⟨_, _, _, _, _, _, _, _, _, rfl, r335⟩, rfl⟩ rfl (by decide) fun _ σ o347 w348 hO => ?_
                                    obtain ⟨A345, c346, rfl, -⟩ := w348.form
                                    have hO : Obs _ _ [_] := hO
                                    refine wpn_qa hO [] [(2, .slice A345 ([c331] : List zd).length c346), (3, .bool true)] (ar (ar trivial)) fun j => ?_
                                    refine wpn_rt ?_
                                    refine inb_r1 ?_
                                    refine thn_r1 ?_
                                    injection hF with hF
                                    subst hF
                                    exact hQ _ _ _ _ _ rfl hO hL ⟨_, _, rfl, rfl, w348⟩
                                  · refine wpn_cF (congrArg Value.bool hb330) ?_
                                    refine wpn_sk ?_
                                    refine wpn_end ?_
                                    refine inb_i ?_
                                    refine thn_i ?_
                                    refine wpn_qa hO [] [(2, .slice none 0 0), (3, .bool false)] (ar (ar trivial)) fun j => ?_
                                    refine wpn_r1 ?_
                                    have hO := hO.no
                                    have hO : Obs _ _ [_] := hO
                                    injection hF with hF
                                    subst hF
                                    exact hQ _ _ _ _ _ rfl hO hL ⟨_, _, rfl, rfl, (OwnO.nil _ _ _)⟩
theorem zd5 {τ : Hp} {q0 : za} {bm0 : Nat} {qf0 : Int} {af0 : Addr} {qf1 : Int} {af1 : Addr} (mf0 : At τ af0 [.int .u8 qf0]) (mf1 : At τ af1 [.int .u8 qf1]) {rr : Bool × za} (hF : zcI q0 qf0 qf1 = some rr) :
    Ctr Try.prog 70 #[.pointer (some ⟨bm0, 0, none⟩), .pointer (some af0), .pointer (some af1)] τ [some (bm0, ⟨[.int .u8 q0.Kind.toNat, .int .u8 q0.Op.toNat, .int .i64 q0.R, .int .i64 q0.S, .int .i64 q0.T, .int .i64 q0.N, .int .i64 q0.M], 24, 7, true⟩)] (fun v τ' vs' => v = .bool rr.1 ∧ vs' = [some (bm0, ⟨[.int .u8 rr.2.Kind.toNat, .int .u8 rr.2.Op.toNat, .int .i64 rr.2.R, .int .i64 rr.2.S, .int .i64 rr.2.T, .int .i64 rr.2.N, .int .i64 rr.2.M], 24, 7, true⟩)]) := by
  refine ctr_of (args := [.pointer (some ⟨bm0, 0, none⟩), .pointer (some af0), .pointer (some af1)]) hm Try.func70 s70 rfl fun w0 σ hO Q hQ => ?_
  unfold zcI at hF
  have hL := Hp.le.refl τ
  show wpn _ _ a70.body _ _ _
  unfold a70
  dsimp only
  refine wpn_qa hO [] [(0, .pointer (some ⟨bm0, 0, none⟩)), (1, .pointer (some af0)), (2, .pointer (some af1))] (ar (ar (ar trivial))) fun j => ?_
  refine wpn_p2r ?_
  refine wpn_q hO 4 [0] [(0, .pointer (some ⟨bm0, 0, none⟩)), (1, .pointer (some af0)), (2, .pointer (some af1)), (8, .int .u8 (q0.Op.toNat : Int))] (And.intro (And.intro rfl rfl) (ar (ar (ar (ar trivial))))) fun j => ?_
  refine wpn_ld rfl (mf0.le hO.base).fst ?_
  refine wpn_q hO 2 [] [(0, .pointer (some ⟨bm0, 0, none⟩)), (2, .pointer (some af1)), (11, .bool (decide ((q0.Op.toNat : Int) ≥ qf0)))] (ar (ar (ar trivial))) fun j => ?_
  obtain ⟨c2, h3, hF⟩ := bind_some hF
  refine wpn_midq 2 [(18, .bool c2), (0, .pointer (some ⟨bm0, 0, none⟩))] (fun Q hQ => ?_) fun j => ?_
  · have hF := h3
    rcases ite_some hF with ⟨hb4, hF⟩ | ⟨hb4, hF⟩
    · refine wpn_gT (congrArg (fun x => isB (.bool x) true) hb4) ?_
      refine wpn_q hO 4 [0] [(0, .pointer (some ⟨bm0, 0, none⟩)), (2, .pointer (some af1)), (11, .bool (decide ((q0.Op.toNat : Int) ≥ qf0))), (15, .int .u8 (q0.Op.toNat : Int))] (And.intro (And.intro rfl rfl) (ar (ar (ar (ar trivial))))) fun j => ?_
      refine wpn_ld rfl (mf1.le hO.base).fst ?_
      refine wpn_q hO 1 [] [(0, .pointer (some ⟨bm0, 0, none⟩)), (11, .bool (decide ((q0.Op.toNat : Int) ≥ qf0))), (17, .bool (decide ((q0.Op.toNat : Int) ≤ qf1)))] (ar (ar (ar trivial))) fun j => ?_
      refine wpn_pk (congrArg Value.bool hb4) ?_
      refine wpn_nil ?_
      injection hF with hF
      subst hF
      refine wpn_end ?_
      exact hQ _ (ar (ar trivial))
    · refine wpn_gF (congrArg (fun x => isB (.bool x) true) hb4) ?_
      refine wpn_pk (congrArg Value.bool hb4) ?_
      refine wpn_nil ?_
      injection hF with hF
      subst hF
      refine wpn_end ?_
      exact hQ _ (ar (ar trivial))
  · refine wpn_qa hO [] [(0, .pointer (some ⟨bm0, 0, none⟩)), (4, .bool c2)] (ar (ar trivial)) fun j => ?_
    refine wpn_r1 ?_
    injection hF with hF
    subst hF
    exact hQ _ _ _ _ _ rfl hO hL ⟨rfl, rfl⟩
theorem zd2 {τ : Hp} {x : zd} {u0 u1 u2 : Value} (hx : zi τ x u0 u1 u2) {q0 : za} {bm0 : Nat}  {rr : Bool × za} (hF : zcM x q0 = some rr) :
    FnC Try.prog u0 #[.pointer (some ⟨bm0, 0, none⟩)] τ [some (bm0, ⟨[.int .u8 q0.Kind.toNat, .int .u8 q0.Op.toNat, .int .i64 q0.R, .int .i64 q0.S, .int .i64 q0.T, .int .i64 q0.N, .int .i64 q0.M], 24, 7, true⟩)] (fun v τ' vs' => v = .bool rr.1 ∧ vs' = [some (bm0, ⟨[.int .u8 rr.2.Kind.toNat, .int .u8 rr.2.Op.toNat, .int .i64 rr.2.R, .int .i64 rr.2.S, .int .i64 rr.2.T, .int .i64 rr.2.N, .int .i64 rr.2.M], 24, 7, true⟩)]) := by
  cases x with
  | c_one_1 => obtain ⟨a1_0, a2_0, rfl, rfl, rfl, m0, m1⟩ := hx; exact ⟨57, #[], #[], _, rfl, by kernel_rfl, rfl, zeo  hF⟩
  | c_both_1 => obtain ⟨a1_0, a2_0, rfl, rfl, rfl, m0, m1⟩ := hx; exact ⟨65, #[], #[], _, rfl, by kernel_rfl, rfl, zdV  hF⟩
  | c_op_1 x0 x1 => obtain ⟨a0_0, a0_1, a1_0, a2_0, rfl, rfl, rfl, m0, m1, m2, m3⟩ := hx; exact ⟨70, #[], #[.pointer (some a0_0), .pointer (some a0_1)], _, rfl, by kernel_rfl, rfl, zd5 m0 m1 hF⟩
  | c_third_1 => obtain ⟨a1_0, a2_0, rfl, rfl, rfl, m0, m1⟩ := hx; exact ⟨73, #[], #[], _, rfl, by kernel_rfl, rfl, zeM  hF⟩
  | c_bound_1 => obtain ⟨rfl, rfl, rfl⟩ := hx; exact ⟨76, #[], #[], _, rfl, by kernel_rfl, rfl, zeu  hF⟩
  | c_to_1 => obtain ⟨rfl, rfl, rfl⟩ := hx; exact ⟨81, #[], #[], _, rfl, by kernel_rfl, rfl, zfd  hF⟩
  | c_how_1 => obtain ⟨a1_0, a2_0, rfl, rfl, rfl, m0, m1⟩ := hx; exact ⟨86, #[], #[], _, rfl, by kernel_rfl, rfl, zeJ  hF⟩
  | c_parts_1 => obtain ⟨rfl, rfl, rfl⟩ := hx; exact ⟨46, #[], #[], _, rfl, by kernel_rfl, rfl, zd7  hF⟩
  | c_within => obtain ⟨rfl, rfl, rfl⟩ := hx; exact ⟨52, #[], #[], _, rfl, by kernel_rfl, rfl, zeR  hF⟩
theorem zep {τ : Hp} {v0 : Value} {p0 : (List UInt8)} {o0 : Ob} {q1 : za} {bm1 : Nat} {af0 : Addr} (wp0 : OwnO Ty.u8 5 τ v0 p0 o0) (mf0 : At τ af0 [.func (.func 59) #[] #[]]) {rr : (List UInt8) × za} (hF : zcD p0 q1 = some rr) :
    Ctr Try.prog 89 #[v0, .pointer (some ⟨bm1, 0, none⟩), .pointer (some af0)] τ [o0, some (bm1, ⟨[.int .u8 q1.Kind.toNat, .int .u8 q1.Op.toNat, .int .i64 q1.R, .int .i64 q1.S, .int .i64 q1.T, .int .i64 q1.N, .int .i64 q1.M], 24, 7, true⟩)] (fun v τ' vs' => ∃ (v0 : Value) (o0 : Ob), v = v0 ∧ vs' = [o0, some (bm1, ⟨[.int .u8 rr.2.Kind.toNat, .int .u8 rr.2.Op.toNat, .int .i64 rr.2.R, .int .i64 rr.2.S, .int .i64 rr.2.T, .int .i64 rr.2.N, .int .i64 rr.2.M], 24, 7, true⟩)] ∧ OwnO Ty.u8 5 τ' v0 rr.1 o0) := by
  obtain ⟨A0, c0, rfl, -⟩ := wp0.form
  refine ctr_of (args := [.slice A0 p0.length c0, .pointer (some ⟨bm1, 0, none⟩), .pointer (some af0)]) hm Try.func89 s89 rfl fun w0 σ hO Q hQ => ?_
  unfold zcD at hF
  have hL := Hp.le.refl τ
  show wpn _ _ a89.body _ _ _
  unfold a89
  dsimp only
  refine wpn_qa hO [] [(0, .slice A0 p0.length c0), (1, .pointer (some ⟨bm1, 0, none⟩)), (2, .pointer (some af0))] (ar (ar (ar trivial))) fun j => ?_
  refine wpn_q hO 1 [] [(1, .pointer (some ⟨bm1, 0, none⟩)), (2, .pointer (some af0)), (6, .slice A0 p0.length c0)] (ar (ar (ar trivial))) fun j => ?_
  refine wpn_ld rfl (mf0.le hO.base).fst ?_
  refine wpn_q hO 1 [] [(1, .pointer (some ⟨bm1, 0, none⟩)), (6, .slice A0 p0.length c0), (7, .func (.func 59) #[] #[]), (8, .pointer (some ⟨bm1, 0, none⟩))] (ar (ar (ar (ar trivial)))) fun j => ?_
  obtain ⟨c3, h4, hF⟩ := bind_some hF
  refine wpn_cv (hs := [_]) (vs := [_]) rfl (by kernel_rfl) hO (zff h4) rfl fun _ σ _ _ hO h5 h6 => ?_
  have hL := hL.trans h5
  have wp0 := wp0.le h5
  obtain ⟨rfl, rfl⟩ := h6
  have hO : Obs _ _ [_, _] := hO
  obtain ⟨z7, hz7, hF⟩ := bind_some hF
  obtain ⟨_, hr, hF⟩ := bind_some hF
  refine wpn_ap1 (T := Ty.u8) (y := z7) hO wp0 (i := 0) rfl rfl (fun _ => rfl) rfl (u8R hz7) rfl hr (by decide) fun u _ σ o10 w11 hO => ?_
  obtain ⟨A8, c9, rfl, -⟩ := w11.form
  have hO : Obs _ _ [_, _] := hO
  refine wpn_qa hO [] [(1, .pointer (some ⟨bm1, 0, none⟩)), (5, .slice A8 (p0 ++ [z7]).length c9)] (ar (ar trivial)) fun j => ?_
  refine wpn_r1 ?_
  injection hF with hF
  subst hF
  exact hQ _ _ _ _ _ rfl hO hL ⟨_, _, rfl, rfl, w11⟩
end Go.Proofs.Ytnaafaopdefigaa
