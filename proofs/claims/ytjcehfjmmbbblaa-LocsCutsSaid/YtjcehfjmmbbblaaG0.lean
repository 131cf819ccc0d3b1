import Derived.Test.YtjcehfjmmbbblaaF
import Derived.Test.YtjcehfjmmbbblaaAc0
import Derived.Test.YtjcehfjmmbbblaaM00
import Derived.Test.YtjcehfjmmbbblaaM01
namespace Go.Proofs.Ytjcehfjmmbbblaa
open Go.Ab Go.RowKit
set_option linter.unusedVariables false
set_option linter.unusedSimpArgs false
set_option maxRecDepth 10000
theorem zcN {τ : Hp} {v0 : Value} {p0 : (List za)} (r0 : RdT zc τ v0 p0) {rr : Bool} (hF : z3 p0 = some rr) :
    Ctr Try.prog 8 #[v0] τ [] (fun v τ' vs' => v = .bool rr ∧ vs' = []) := by
  obtain ⟨A0, c0, rfl, -⟩ := r0.form
  refine ctr_of (args := [.slice A0 p0.length c0]) hm Try.func8 s8 rfl fun w0 σ hO Q hQ => ?_
  unfold z3 at hF
  have hL := Hp.le.refl τ
  show wpn _ _ a8.body _ _ _
  unfold a8
  dsimp only
  refine wpn_qa hO [] [(0, .slice A0 p0.length c0)] (ar trivial) fun j => ?_
  refine wpn_qa hO [] [(0, .slice A0 p0.length c0), (3, .int .i64 0)] (ar (ar trivial)) fun j => ?_
  refine wpn_assoc ?_
  refine wpn_qa hO [] [(0, .slice A0 p0.length c0), (3, .int .i64 0), (4, .int .i64 0)] (ar (ar (ar trivial))) fun j => ?_
  refine wpn_bl ?_
  refine wpn_lp (fun (n : Nat) e' σ' => ∃ (x24 : Int) (x25 : Int) (τ' : Hp), agr [(0, .slice A0 p0.length c0), (3, .int .i64 x24), (4, .int .i64 x25)] e' ∧ Obs τ' σ' [] ∧ Hp.le τ τ' ∧ RdT zc τ' (.slice A0 p0.length c0) p0 ∧ zB p0 n x24 x25 = some rr) big ⟨0, 0, _, ar (ar (ar trivial)), hO, hL, r0, hF⟩ ?_
  clear hF hO hL
  rintro n46 e σ ⟨x24, x25, _, hA, hO, hL, r23, hF⟩
  rw [← sets_agr _ _ hA]
  cases n46 with
  | zero => exact nomatch (show none = some rr from hF)
  | succ n46 =>
    replace hF : zw (zB p0 n46) p0 x24 x25 = some rr := hF
    unfold zw at hF
    refine wpn_assoc ?_
    refine wpn_qa hO [] [(0, .slice A0 p0.length c0), (3, .int .i64 x24), (4, .int .i64 x25), (12, .bool ((decide (x25 < (p0.length : Int))) && (decide (x25 ≤ 5000))))] (And.intro (And.intro rfl rfl) (fun _ => ar (ar (ar (ar trivial))))) fun j => ?_
    rcases ite_some hF with ⟨hb47, hF⟩ | ⟨hb47, hF⟩
    · refine wpn_cT (congrArg Value.bool hb47) ?_
      refine wpn_sk ?_
      refine wpn_bl ?_
      refine wpn_q hO 3 [] [(0, .slice A0 p0.length c0), (4, .int .i64 x25), (15, .int .i64 x24), (16, .slice A0 p0.length c0), (17, .int .i64 x25)] (ar (ar (ar (ar (ar trivial))))) fun j => ?_
      obtain ⟨y48, g49, hF⟩ := bind_some hF
      refine wpn_idx (T := zc) r23 hO.base rfl rfl g49 (by decide) fun a50 _ k51 m52 => ?_
      obtain ⟨v53, rfl, r54⟩ := k51
      obtain ⟨A55, c56, rfl, -⟩ := r54.form
      refine wpn_q hO 1 [] [(0, .slice A0 p0.length c0), (4, .int .i64 x25), (15, .int .i64 x24), (19, .pointer (some (a50.add 2)))] (ar (ar (ar (ar trivial)))) fun j => ?_
      refine wpn_ld rfl ((m52.le hO.base).one 2 rfl) ?_
      refine wpn_qa hO [] [(0, .slice A0 p0.length c0), (3, .int .i64 (IntKind.i64.wrap (x24 + (minI (y48.At.length : Int) 1000)))), (4, .int .i64 x25)] (ar (ar (ar trivial))) fun j => ?_
      refine wpn_q hO 2 [] [(0, .slice A0 p0.length c0), (3, .int .i64 (IntKind.i64.wrap (x24 + (minI (y48.At.length : Int) 1000)))), (4, .int .i64 x25), (24, .slice A0 p0.length c0), (25, .int .i64 x25)] (ar (ar (ar (ar (ar trivial))))) fun j => ?_
      obtain ⟨y57, g58, hF⟩ := bind_some hF
      refine wpn_idx (T := zc) r23 hO.base rfl rfl g58 (by decide) fun a59 _ k60 m61 => ?_
      obtain ⟨v62, rfl, r63⟩ := k60
      obtain ⟨A64, c65, rfl, -⟩ := r63.form
      refine wpn_q hO 1 [] [(0, .slice A0 p0.length c0), (3, .int .i64 (IntKind.i64.wrap (x24 + (minI (y48.At.length : Int) 1000)))), (4, .int .i64 x25), (27, .pointer (some (a59.add 2)))] (ar (ar (ar (ar trivial)))) fun j => ?_
      refine wpn_ld rfl ((m61.le hO.base).one 2 rfl) ?_
      refine wpn_qa hO [] [(0, .slice A0 p0.length c0), (3, .int .i64 (IntKind.i64.wrap (x24 + (minI (y48.At.length : Int) 1000)))), (4, .int .i64 x25), (30, .bool (decide ((y57.At.length : Int) > 1000)))] (ar (ar (ar (ar trivial)))) fun j => ?_
      refine wpn_clast ?_
      rcases ite_some hF with ⟨hb66, hF⟩ | ⟨hb66, hF⟩
      · refine wpn_cT (congrArg Value.bool hb66) ?_
        refine wpn_assoc ?_
        refine wpn_qa hO [] [(2, .bool true)] (ar trivial) fun j => ?_
        refine wpn_rt ?_
        refine inb_r1 ?_
        refine thn_r1 ?_
        refine thn_r1 ?_
        refine inb_r1 ?_
        refine thn_r1 ?_
        injection hF with hF
        subst hF
        exact hQ _ _ _ _ _ rfl hO hL ⟨rfl, rfl⟩
      · refine wpn_cF (congrArg Value.bool hb66) ?_
        refine wpn_sk ?_
        refine wpn_end ?_
        refine inb_i ?_
        refine thn_i ?_
        refine wpn_rlast ?_
        refine wpn_qa hO [] [(0, .slice A0 p0.length c0), (3, .int .i64 (IntKind.i64.wrap (x24 + (minI (y48.At.length : Int) 1000)))), (4, .int .i64 (IntKind.i64.wrap (x25 + 1)))] (ar (ar (ar trivial))) fun j => ?_
        refine wpn_end ?_
        refine thn_i ?_
        exact ⟨n46, Nat.lt_succ_self _, (IntKind.i64.wrap (x24 + (minI (y48.At.length : Int) 1000))), (IntKind.i64.wrap (x25 + 1)), _, ar (ar (ar trivial)), hO, hL, r23, hF⟩
    · refine wpn_cF (congrArg Value.bool hb47) ?_
      refine wpn_ex ?_
      refine thn_x ?_
      refine inb_x ?_
      refine thn_i ?_
      refine wpn_qa hO [] [(2, .bool ((decide ((p0.length : Int) > 5000)) || (decide (x24 > 20000))))] (And.intro (And.intro rfl rfl) (fun _ => ar trivial)) fun j => ?_
      refine wpn_r1 ?_
      injection hF with hF
      subst hF
      exact hQ _ _ _ _ _ rfl hO hL ⟨rfl, rfl⟩
theorem zcA {τ : Hp} {p0 : zb}  {rr : ze × Bool} (hF : zV p0 = some rr) :
    Ctr Try.prog 60 #[.agg #[.int .u8 p0.Kind.toNat, .int .i64 p0.N]] τ [] (fun v τ' vs' => v = .tuple #[zf rr.1, .bool rr.2] ∧ vs' = []) := by
  refine ctr_of (args := [.agg #[.int .u8 p0.Kind.toNat, .int .i64 p0.N]]) hm Try.func60 s60 rfl fun w0 σ hO Q hQ => ?_
  unfold zV at hF
  have hL := Hp.le.refl τ
  show wpn _ _ a60.body _ _ _
  unfold a60
  dsimp only
  refine wpn_bx (n := 2) hO rfl rfl fun b2 σ hO => ?_
  have hO : Obs _ _ [_] := hO
  refine wpn_qa hO [] [(1, .pointer (some ⟨b2, 0, none⟩))] (ar trivial) fun j => ?_
  refine wpn_assoc ?_
  refine wpn_qa hO [0] [(1, .pointer (some ⟨b2, 0, none⟩)), (5, .int .u8 (p0.Kind.toNat : Int))] (And.intro (And.intro rfl rfl) (ar (ar trivial))) fun j => ?_
  refine wpn_bl ?_
  refine wpn_qa hO [] [(1, .pointer (some ⟨b2, 0, none⟩)), (5, .int .u8 (p0.Kind.toNat : Int)), (6, .bool ((p0.Kind.toNat : Int) == 1))] (ar (ar (ar trivial))) fun j => ?_
  refine wpn_clast ?_
  rcases ite_some hF with ⟨hb3, hF⟩ | ⟨hb3, hF⟩
  · refine wpn_cT (congrArg Value.bool hb3) ?_
    refine wpn_assoc ?_
    refine wpn_qa hO [0] [(2, .iface 94 (.int .i64 p0.N)), (3, .bool true)] (And.intro (And.intro rfl rfl) (ar (ar trivial))) fun j => ?_
    refine wpn_rt ?_
    refine inb_r1 ?_
    refine thn_r1 ?_
    injection hF with hF
    subst hF
    have hO := hO.sel [] (by decide)
    exact hQ _ _ _ _ _ rfl hO hL ⟨rfl, rfl⟩
  · refine wpn_cF (congrArg Value.bool hb3) ?_
    refine wpn_assoc ?_
    refine wpn_qa hO [] [(1, .pointer (some ⟨b2, 0, none⟩)), (5, .int .u8 (p0.Kind.toNat : Int)), (11, .bool ((p0.Kind.toNat : Int) == 2))] (ar (ar (ar trivial))) fun j => ?_
    rcases ite_some hF with ⟨hb4, hF⟩ | ⟨hb4, hF⟩
    · refine wpn_cT (congrArg Value.bool hb4) ?_
      refine wpn_assoc ?_
      refine wpn_p2r ?_
      refine wpn_qa hO [0, 0, 0] [(2, .iface 95 (.int .i64 p0.N)), (3, .bool ((decide (p0.N ≥ 0)) && (decide (p0.N < 16))))] (And.intro (And.intro rfl rfl) (And.intro (And.intro rfl rfl) (And.intro (And.intro rfl rfl) (And.intro (And.intro rfl rfl) (fun _ => ar (ar trivial)))))) fun j => ?_
      refine wpn_rt ?_
      refine inb_r1 ?_
      refine thn_r1 ?_
      injection hF with hF
      subst hF
      have hO := hO.sel [] (by decide)
      exact hQ _ _ _ _ _ rfl hO hL ⟨rfl, rfl⟩
    · refine wpn_cF (congrArg Value.bool hb4) ?_
      refine wpn_assoc ?_
      refine wpn_qa hO [] [(1, .pointer (some ⟨b2, 0, none⟩)), (5, .int .u8 (p0.Kind.toNat : Int)), (24, .bool ((p0.Kind.toNat : Int) == 3))] (ar (ar (ar trivial))) fun j => ?_
      rcases ite_some hF with ⟨hb5, hF⟩ | ⟨hb5, hF⟩
      · refine wpn_cT (congrArg Value.bool hb5) ?_
        refine wpn_assoc ?_
        refine wpn_qa hO [0] [(2, .iface 96 (.int .i64 p0.N)), (3, .bool true)] (And.intro (And.intro rfl rfl) (ar (ar trivial))) fun j => ?_
        refine wpn_rt ?_
        refine inb_r1 ?_
        refine thn_r1 ?_
        injection hF with hF
        subst hF
        have hO := hO.sel [] (by decide)
        exact hQ _ _ _ _ _ rfl hO hL ⟨rfl, rfl⟩
      · refine wpn_cF (congrArg Value.bool hb5) ?_
        refine wpn_assoc ?_
        refine wpn_qa hO [] [(1, .pointer (some ⟨b2, 0, none⟩)), (5, .int .u8 (p0.Kind.toNat : Int)), (29, .bool ((p0.Kind.toNat : Int) == 4))] (ar (ar (ar trivial))) fun j => ?_
        rcases ite_some hF with ⟨hb6, hF⟩ | ⟨hb6, hF⟩
        · refine wpn_cT (congrArg Value.bool hb6) ?_
          refine wpn_assoc ?_
          refine wpn_p2r ?_
          refine wpn_qa hO [0] [(2, .iface 98 (.agg #[])), (3, .bool (p0.N == 0))] (And.intro (And.intro rfl rfl) (ar (ar trivial))) fun j => ?_
          refine wpn_rt ?_
          refine inb_r1 ?_
          refine thn_r1 ?_
          injection hF with hF
          subst hF
          have hO := hO.sel [] (by decide)
          exact hQ _ _ _ _ _ rfl hO hL ⟨rfl, rfl⟩
        · refine wpn_cF (congrArg Value.bool hb6) ?_
          refine wpn_assoc ?_
          refine wpn_qa hO [] [(1, .pointer (some ⟨b2, 0, none⟩)), (5, .int .u8 (p0.Kind.toNat : Int)), (36, .bool ((p0.Kind.toNat : Int) == 5))] (ar (ar (ar trivial))) fun j => ?_
          rcases ite_some hF with ⟨hb7, hF⟩ | ⟨hb7, hF⟩
          · refine wpn_cT (congrArg Value.bool hb7) ?_
            refine wpn_assoc ?_
            refine wpn_p2r ?_
            refine wpn_qa hO [0] [(2, .iface 99 (.agg #[])), (3, .bool (p0.N == 0))] (And.intro (And.intro rfl rfl) (ar (ar trivial))) fun j => ?_
            refine wpn_rt ?_
            refine inb_r1 ?_
            refine thn_r1 ?_
            injection hF with hF
            subst hF
            have hO := hO.sel [] (by decide)
            exact hQ _ _ _ _ _ rfl hO hL ⟨rfl, rfl⟩
          · refine wpn_cF (congrArg Value.bool hb7) ?_
            refine wpn_assoc ?_
            refine wpn_qa hO [] [(1, .pointer (some ⟨b2, 0, none⟩)), (43, .bool ((p0.Kind.toNat : Int) == 6))] (ar (ar trivial)) fun j => ?_
            rcases ite_some hF with ⟨hb8, hF⟩ | ⟨hb8, hF⟩
            · refine wpn_cT (congrArg Value.bool hb8) ?_
              refine wpn_assoc ?_
              refine wpn_p2r ?_
              refine wpn_qa hO [0] [(2, .iface 100 (.agg #[])), (3, .bool (p0.N == 0))] (And.intro (And.intro rfl rfl) (ar (ar trivial))) fun j => ?_
              refine wpn_rt ?_
              refine inb_r1 ?_
              refine thn_r1 ?_
              injection hF with hF
              subst hF
              have hO := hO.sel [] (by decide)
              exact hQ _ _ _ _ _ rfl hO hL ⟨rfl, rfl⟩
            · refine wpn_cF (congrArg Value.bool hb8) ?_
              refine wpn_sk ?_
              refine wpn_end ?_
              refine inb_i ?_
              refine thn_i ?_
              refine wpn_qa hO [] [(2, .nilIface), (3, .bool false)] (ar (ar trivial)) fun j => ?_
              refine wpn_r1 ?_
              injection hF with hF
              subst hF
              have hO := hO.sel [] (by decide)
              exact hQ _ _ _ _ _ rfl hO hL ⟨rfl, rfl⟩
theorem zcF {τ : Hp} {p0 : Int}  {rr : Int} (hF : z4 p0 = some rr) :
    Ctr Try.prog 86 #[.int .i64 p0] τ [] (fun v τ' vs' => v = .int .i64 rr ∧ vs' = []) := by
  refine ctr_of (args := [.int .i64 p0]) hm Try.func86 s86 rfl fun w0 σ hO Q hQ => ?_
  unfold z4 at hF
  have hL := Hp.le.refl τ
  show wpn _ _ a86.body _ _ _
  unfold a86
  dsimp only
  refine wpn_qa hO [] [] (trivial) fun j => ?_
  refine wpn_qa hO [] [(2, .int .i64 0)] (ar trivial) fun j => ?_
  refine wpn_r1 ?_
  injection hF with hF
  subst hF
  exact hQ _ _ _ _ _ rfl hO hL ⟨rfl, rfl⟩
theorem zch {τ : Hp} {p0 : Int}  {rr : Int} (hF : zbe p0 = some rr) :
    Ctr Try.prog 88 #[.int .i64 p0] τ [] (fun v τ' vs' => v = .int .i64 rr ∧ vs' = []) := by
  refine ctr_of (args := [.int .i64 p0]) hm Try.func88 s88 rfl fun w0 σ hO Q hQ => ?_
  unfold zbe at hF
  have hL := Hp.le.refl τ
  show wpn _ _ a88.body _ _ _
  unfold a88
  dsimp only
  refine wpn_qa hO [] [] (trivial) fun j => ?_
  refine wpn_qa hO [] [(2, .int .i64 0)] (ar trivial) fun j => ?_
  refine wpn_r1 ?_
  injection hF with hF
  subst hF
  exact hQ _ _ _ _ _ rfl hO hL ⟨rfl, rfl⟩
theorem zcP {τ : Hp} {p0 : Int}  {rr : Int} (hF : z9 p0 = some rr) :
    Ctr Try.prog 90 #[.int .i64 p0] τ [] (fun v τ' vs' => v = .int .i64 rr ∧ vs' = []) := by
  refine ctr_of (args := [.int .i64 p0]) hm Try.func90 s90 rfl fun w0 σ hO Q hQ => ?_
  unfold z9 at hF
  have hL := Hp.le.refl τ
  show wpn _ _ a90.body _ _ _
  unfold a90
  dsimp only
  refine wpn_qa hO [] [] (trivial) fun j => ?_
  refine wpn_qa hO [] [(2, .int .i64 0)] (ar trivial) fun j => ?_
  refine wpn_r1 ?_
  injection hF with hF
  subst hF
  exact hQ _ _ _ _ _ rfl hO hL ⟨rfl, rfl⟩
theorem zcy {τ : Hp} {p0 : zbg}  {rr : Int} (hF : zbr p0 = some rr) :
    Ctr Try.prog 92 #[.agg #[]] τ [] (fun v τ' vs' => v = .int .i64 rr ∧ vs' = []) := by
  refine ctr_of (args := [.agg #[]]) hm Try.func92 s92 rfl fun w0 σ hO Q hQ => ?_
  unfold zbr at hF
  have hL := Hp.le.refl τ
  show wpn _ _ a92.body _ _ _
  unfold a92
  dsimp only
  refine wpn_bx (n := 0) hO rfl rfl fun b2 σ hO => ?_
  have hO : Obs _ _ [_] := hO
  refine wpn_qa hO [] [] (trivial) fun j => ?_
  refine wpn_qa hO [] [(2, .int .i64 1)] (ar trivial) fun j => ?_
  refine wpn_r1 ?_
  injection hF with hF
  subst hF
  have hO := hO.sel [] (by decide)
  exact hQ _ _ _ _ _ rfl hO hL ⟨rfl, rfl⟩
theorem zcn {τ : Hp} {p0 : zbi}  {rr : Int} (hF : zbm p0 = some rr) :
    Ctr Try.prog 94 #[.agg #[]] τ [] (fun v τ' vs' => v = .int .i64 rr ∧ vs' = []) := by
  refine ctr_of (args := [.agg #[]]) hm Try.func94 s94 rfl fun w0 σ hO Q hQ => ?_
  unfold zbm at hF
  have hL := Hp.le.refl τ
  show wpn _ _ a94.body _ _ _
  unfold a94
  dsimp only
  refine wpn_bx (n := 0) hO rfl rfl fun b2 σ hO => ?_
  have hO : Obs _ _ [_] := hO
  refine wpn_qa hO [] [] (trivial) fun j => ?_
  refine wpn_qa hO [] [(2, .int .i64 2)] (ar trivial) fun j => ?_
  refine wpn_r1 ?_
  injection hF with hF
  subst hF
  have hO := hO.sel [] (by decide)
  exact hQ _ _ _ _ _ rfl hO hL ⟨rfl, rfl⟩
theorem zct {τ : Hp} {p0 : zbj}  {rr : Int} (hF : zba p0 = some rr) :
    Ctr Try.prog 96 #[.agg #[]] τ [] (fun v τ' vs' => v = .int .i64 rr ∧ vs' = []) := by
  refine ctr_of (args := [.agg #[]]) hm Try.func96 s96 rfl fun w0 σ hO Q hQ => ?_
  unfold zba at hF
  have hL := Hp.le.refl τ
  show wpn _ _ a96.body _ _ _
  unfold a96
  dsimp only
  refine wpn_bx (n := 0) hO rfl rfl fun b2 σ hO => ?_
  have hO : Obs _ _ [_] := hO
  refine wpn_qa hO [] [] (trivial) fun j => ?_
  refine wpn_qa hO [] [(2, .int .i64 1)] (ar trivial) fun j => ?_
  refine wpn_r1 ?_
  injection hF with hF
  subst hF
  have hO := hO.sel [] (by decide)
  exact hQ _ _ _ _ _ rfl hO hL ⟨rfl, rfl⟩
theorem zbW {τ : Hp} {x : ze}   {rr : Int} (hF : zS x  = some rr) :
    InvC Try.prog (zf x) "theodolite/expr.takes" #[] τ [] (fun v τ' vs' => v = .int .i64 rr ∧ vs' = []) := by
  cases x with
  | nil => exact nomatch (show none = some rr from hF)
  | c_number a => exact ⟨94, _, 86, rfl, fun w => by kernel_rfl, by kernel_rfl, zcF (p0 := a)  hF⟩
  | c_reg a => exact ⟨95, _, 88, rfl, fun w => by kernel_rfl, by kernel_rfl, zch (p0 := a)  hF⟩
  | c_base a => exact ⟨96, _, 90, rfl, fun w => by kernel_rfl, by kernel_rfl, zcP (p0 := a)  hF⟩
  | c_word a => exact ⟨98, _, 92, rfl, fun w => by kernel_rfl, by kernel_rfl, zcy (p0 := a)  hF⟩
  | c_add a => exact ⟨99, _, 94, rfl, fun w => by kernel_rfl, by kernel_rfl, zcn (p0 := a)  hF⟩
  | c_neg a => exact ⟨100, _, 96, rfl, fun w => by kernel_rfl, by kernel_rfl, zct (p0 := a)  hF⟩
theorem zcb {τ : Hp} {v0 : Value} {p0 : (List zb)} (r0 : RdT zd τ v0 p0) {rr : (List ze) × Bool} (hF : zD p0 = some rr) :
    Ctr Try.prog 52 #[v0] τ [] (fun v τ' vs' => ∃ (v0 : Value) (o0 : Ob), v = .tuple #[v0, .bool rr.2] ∧ vs' = [o0] ∧ OwnO zbq 85 τ' v0 rr.1 o0) := by
  obtain ⟨A0, c0, rfl, -⟩ := r0.form
  refine ctr_of (args := [.slice A0 p0.length c0]) hm Try.func52 s52 rfl fun w0 σ hO Q hQ => ?_
  unfold zD at hF
  have hL := Hp.le.refl τ
  show wpn _ _ a52.body _ _ _
  unfold a52
  dsimp only
  refine wpn_qa hO [] [(0, .slice A0 p0.length c0)] (ar trivial) fun j => ?_
  refine wpn_qa hO [] [(0, .slice A0 p0.length c0), (4, .slice none 0 0)] (ar (ar trivial)) fun j => ?_
  refine wpn_qa hO [] [(0, .slice A0 p0.length c0), (4, .slice none 0 0), (5, .int .i64 0)] (ar (ar (ar trivial))) fun j => ?_
  refine wpn_assoc ?_
  refine wpn_qa hO [] [(0, .slice A0 p0.length c0), (4, .slice none 0 0), (5, .int .i64 0), (10, .slice A0 p0.length c0), (11, .int .i64 (p0.length : Int)), (12, .int .i64 0)] (ar (ar (ar (ar (ar (ar trivial)))))) fun j => ?_
  refine wpn_bl ?_
  have hO := hO.no
  have hO : Obs _ _ [_] := hO
  refine wpn_lp (fun (n : Nat) e' σ' => ∃ (A39 : Option Addr) (c40 : Nat) (o41 : Ob) (x42 : List ze) (x44 : Int) (x46 : Int) (τ' : Hp), agr [(0, .slice A0 p0.length c0), (4, .slice A39 x42.length c40), (5, .int .i64 x44), (10, .slice A0 p0.length c0), (11, .int .i64 (p0.length : Int)), (12, .int .i64 x46)] e' ∧ Obs τ' σ' [o41] ∧ Hp.le τ τ' ∧ RdT zd τ' (.slice A0 p0.length c0) p0 ∧ OwnO zbq 85 τ' (.slice A39 x42.length c40) x42 o41 ∧ RdT zd τ' (.slice A0 p0.length c0) p0 ∧ zM p0 n x42 x44 x46 = some rr) big ⟨none, 0, none, [], 0, 0, _, ar (ar (ar (ar (ar (ar trivial))))), hO, hL, r0, OwnO.nil _ _ _, r0, hF⟩ ?_
  clear hF hO hL
  rintro n80 e σ ⟨A39, c40, o41, x42, x44, x46, _, hA, hO, hL, r38, w43, r45, hF⟩
  rw [← sets_agr _ _ hA]
  cases n80 with
  | zero => exact nomatch (show none = some rr from hF)
  | succ n80 =>
    replace hF : zY (zM p0 n80) p0 x42 x44 x46 = some rr := hF
    unfold zY at hF
    refine wpn_qa hO [] [(0, .slice A0 p0.length c0), (4, .slice A39 x42.length c40), (5, .int .i64 x44), (10, .slice A0 p0.length c0), (11, .int .i64 (p0.length : Int)), (12, .int .i64 x46), (13, .bool (decide (x46 < (p0.length : Int))))] (ar (ar (ar (ar (ar (ar (ar trivial))))))) fun j => ?_
    rcases ite_some hF with ⟨hb81, hF⟩ | ⟨hb81, hF⟩
    · refine wpn_cT (congrArg Value.bool hb81) ?_
      refine wpn_sk ?_
      refine wpn_bl ?_
      obtain ⟨y82, g83, hF⟩ := bind_some hF
      refine wpn_idx (T := zd) r45 hO.base rfl rfl g83 (by decide) fun a84 _ k85 m86 => ?_
      obtain rfl : _ = ([.int .u8 y82.Kind.toNat, .int .i64 y82.N] : List Value) := k85
      refine wpn_ld rfl ((m86.le hO.base).all rfl) ?_
      refine wpn_al hO fun b87 σ hO => ?_
      have hO : Obs _ _ [_, _] := hO
      refine wpn_st hO (i := 1) rfl (off := 0) rfl rfl rfl rfl (Nat.le_of_ble_eq_true rfl) rfl fun σ hO => ?_
      have hO : Obs _ _ [_, _] := hO
      refine wpn_nil ?_
      refine wpn_q hO 1 [1] [(0, .slice A0 p0.length c0), (4, .slice A39 x42.length c40), (5, .int .i64 x44), (10, .slice A0 p0.length c0), (11, .int .i64 (p0.length : Int)), (12, .int .i64 x46), (17, .agg #[(.int .u8 (y82.Kind.toNat : Int)), (.int .i64 y82.N)])] (And.intro (And.intro rfl rfl) (ar (ar (ar (ar (ar (ar (ar trivial)))))))) fun j => ?_
      obtain ⟨c88, h89, hF⟩ := bind_some hF
      refine wpn_c0 hO (zcA h89) rfl fun _ σ _ _ hO h90 h91 => ?_
      have hL := hL.trans h90
      have r38 := r38.le h90
      have w43 := w43.le h90
      have r45 := r45.le h90
      obtain ⟨rfl, rfl⟩ := h91
      have hO : Obs _ _ [_, _] := hO
      refine wpn_qa hO [] [(0, .slice A0 p0.length c0), (4, .slice A39 x42.length c40), (5, .int .i64 x44), (8, zf c88.1), (9, .bool c88.2), (10, .slice A0 p0.length c0), (11, .int .i64 (p0.length : Int)), (12, .int .i64 x46)] (ar (ar (ar (ar (ar (ar (ar (ar trivial)))))))) fun j => ?_
      refine wpn_assoc ?_
      refine wpn_q hO 3 [] [(0, .slice A0 p0.length c0), (4, .slice A39 x42.length c40), (5, .int .i64 x44), (8, zf c88.1), (10, .slice A0 p0.length c0), (11, .int .i64 (p0.length : Int)), (12, .int .i64 x46), (23, .bool (!c88.2))] (ar (ar (ar (ar (ar (ar (ar (ar trivial)))))))) fun j => ?_
      have hO := hO.sel [0] (by decide)
      have hO : Obs _ _ [_] := hO
      obtain ⟨c92, h93, hF⟩ := bind_some hF
      refine wpn_mid 2 (fun e' σ' => ∃ (τ' : Hp), agr [(28, .bool c92), (0, .slice A0 p0.length c0), (4, .slice A39 x42.length c40), (5, .int .i64 x44), (8, zf c88.1), (10, .slice A0 p0.length c0), (11, .int .i64 (p0.length : Int)), (12, .int .i64 x46)] e' ∧ Obs τ' σ' [o41] ∧ Hp.le τ τ' ∧ RdT zd τ' (.slice A0 p0.length c0) p0 ∧ OwnO zbq 85 τ' (.slice A39 x42.length c40) x42 o41 ∧ RdT zd τ' (.slice A0 p0.length c0) p0) ?_ ?_
      · have hF := h93
        rcases ite_some hF with ⟨hb94, hF⟩ | ⟨hb94, hF⟩
        · refine wpn_gF (congrArg (fun x => isB (.bool x) false) hb94) ?_
          refine wpn_pk (congrArg Value.bool hb94) ?_
          refine wpn_nil ?_
          injection hF with hF
          subst hF
          refine wpn_end ?_
          exact ⟨rfl, _, ar (ar (ar (ar (ar (ar (ar (ar trivial))))))), hO, hL, r38, w43, r45⟩
        · refine wpn_gT (congrArg (fun x => isB (.bool x) false) hb94) ?_
          refine wpn_q hO 1 [] [(0, .slice A0 p0.length c0), (4, .slice A39 x42.length c40), (5, .int .i64 x44), (8, zf c88.1), (10, .slice A0 p0.length c0), (11, .int .i64 (p0.length : Int)), (12, .int .i64 x46), (23, .bool (!c88.2)), (24, zf c88.1)] (ar (ar (ar (ar (ar (ar (ar (ar (ar trivial))))))))) fun j => ?_
          obtain ⟨c95, h96, hF⟩ := bind_some hF
          refine wpn_iv0 rfl hO (zbW h96) rfl fun _ σ _ _ hO h97 h98 => ?_
          have hL := hL.trans h97
          have r38 := r38.le h97
          have w43 := w43.le h97
          have r45 := r45.le h97
          obtain ⟨rfl, rfl⟩ := h98
          have hO : Obs _ _ [_] := hO
          refine wpn_q hO 2 [] [(0, .slice A0 p0.length c0), (4, .slice A39 x42.length c40), (5, .int .i64 x44), (8, zf c88.1), (10, .slice A0 p0.length c0), (11, .int .i64 (p0.length : Int)), (12, .int .i64 x46), (23, .bool (!c88.2)), (27, .bool (decide (c95 > x44)))] (ar (ar (ar (ar (ar (ar (ar (ar (ar trivial))))))))) fun j => ?_
          refine wpn_pk (congrArg Value.bool hb94) ?_
          refine wpn_nil ?_
          injection hF with hF
          subst hF
          refine wpn_end ?_
          exact ⟨rfl, _, ar (ar (ar (ar (ar (ar (ar (ar trivial))))))), hO, hL, r38, w43, r45⟩
      · rintro e σ ⟨_, hA, hO, hL, r38, w43, r45⟩
        rw [← sets_agr _ _ hA]
        refine wpn_nil ?_
        rcases ite_some hF with ⟨hb99, hF⟩ | ⟨hb99, hF⟩
        · refine wpn_cT (congrArg Value.bool hb99) ?_
          refine wpn_assoc ?_
          refine wpn_qa hO [] [(2, .slice none 0 0), (3, .bool false)] (ar (ar trivial)) fun j => ?_
          refine wpn_rt ?_
          refine inb_r1 ?_
          refine thn_r1 ?_
          refine thn_r1 ?_
          refine inb_r1 ?_
          refine thn_r1 ?_
          have hO := hO.no
          have hO : Obs _ _ [_, _] := hO
          injection hF with hF
          subst hF
          have hO := hO.sel [1] (by decide)
          exact hQ _ _ _ _ _ rfl hO hL ⟨_, _, rfl, rfl, (OwnO.nil _ _ _)⟩
        · refine wpn_cF (congrArg Value.bool hb99) ?_
          refine wpn_sk ?_
          refine wpn_q hO 2 [] [(0, .slice A0 p0.length c0), (4, .slice A39 x42.length c40), (8, zf c88.1), (10, .slice A0 p0.length c0), (11, .int .i64 (p0.length : Int)), (12, .int .i64 x46), (29, .int .i64 x44), (30, zf c88.1)] (ar (ar (ar (ar (ar (ar (ar (ar trivial)))))))) fun j => ?_
          obtain ⟨c100, h101, hF⟩ := bind_some hF
          refine wpn_iv0 rfl hO (zbW h101) rfl fun _ σ _ _ hO h102 h103 => ?_
          have hL := hL.trans h102
          have r38 := r38.le h102
          have w43 := w43.le h102
          have r45 := r45.le h102
          obtain ⟨rfl, rfl⟩ := h103
          have hO : Obs _ _ [_] := hO
          refine wpn_qa hO [] [(0, .slice A0 p0.length c0), (4, .slice A39 x42.length c40), (5, .int .i64 (IntKind.i64.wrap (x44 + (IntKind.i64.wrap (1 - c100))))), (8, zf c88.1), (10, .slice A0 p0.length c0), (11, .int .i64 (p0.length : Int)), (12, .int .i64 x46)] (ar (ar (ar (ar (ar (ar (ar trivial))))))) fun j => ?_
          refine wpn_assoc ?_
          refine wpn_qa hO [] [(0, .slice A0 p0.length c0), (4, .slice A39 x42.length c40), (5, .int .i64 (IntKind.i64.wrap (x44 + (IntKind.i64.wrap (1 - c100))))), (8, zf c88.1), (10, .slice A0 p0.length c0), (11, .int .i64 (p0.length : Int)), (12, .int .i64 x46), (35, .bool (decide ((IntKind.i64.wrap (x44 + (IntKind.i64.wrap (1 - c100)))) > 8)))] (ar (ar (ar (ar (ar (ar (ar (ar trivial)))))))) fun j => ?_
          rcases ite_some hF with ⟨hb104, hF⟩ | ⟨hb104, hF⟩
          · refine wpn_cT (congrArg Value.bool hb104) ?_
            refine wpn_assoc ?_
            refine wpn_qa hO [] [(2, .slice none 0 0), (3, .bool false)] (ar (ar trivial)) fun j => ?_
            refine wpn_rt ?_
            refine inb_r1 ?_
            refine thn_r1 ?_
            refine thn_r1 ?_
            refine inb_r1 ?_
            refine thn_r1 ?_
            have hO := hO.no
            have hO : Obs _ _ [_, _] := hO
            injection hF with hF
            subst hF
            have hO := hO.sel [1] (by decide)
            exact hQ _ _ _ _ _ rfl hO hL ⟨_, _, rfl, rfl, (OwnO.nil _ _ _)⟩
          · refine wpn_cF (congrArg Value.bool hb104) ?_
            refine wpn_sk ?_
            refine wpn_rlast ?_
            refine wpn_q hO 2 [] [(0, .slice A0 p0.length c0), (5, .int .i64 (IntKind.i64.wrap (x44 + (IntKind.i64.wrap (1 - c100))))), (10, .slice A0 p0.length c0), (11, .int .i64 (p0.length : Int)), (12, .int .i64 x46), (36, .slice A39 x42.length c40), (37, zf c88.1)] (ar (ar (ar (ar (ar (ar (ar trivial))))))) fun j => ?_
            obtain ⟨_, hr109, hF⟩ := bind_some hF
            refine wpn_ap1 (T := zbq) (y := c88.1) hO w43 (i := 0) rfl rfl (fun _ => rfl) (show (zf c88.1).cells.toList = _ from zcd _) (show _ = _ from rfl) rfl hr109 (by decide) fun u _ σ o107 w108 hO => ?_
            obtain ⟨A105, c106, rfl, -⟩ := w108.form
            have hO : Obs _ _ [_] := hO
            refine wpn_qa hO [] [(0, .slice A0 p0.length c0), (4, .slice A105 (x42 ++ [c88.1]).length c106), (5, .int .i64 (IntKind.i64.wrap (x44 + (IntKind.i64.wrap (1 - c100))))), (10, .slice A0 p0.length c0), (11, .int .i64 (p0.length : Int)), (12, .int .i64 x46)] (ar (ar (ar (ar (ar (ar trivial)))))) fun j => ?_
            refine wpn_end ?_
            refine inb_i ?_
            refine thn_i ?_
            refine wpn_rlast ?_
            refine wpn_qa hO [] [(0, .slice A0 p0.length c0), (4, .slice A105 (x42 ++ [c88.1]).length c106), (5, .int .i64 (IntKind.i64.wrap (x44 + (IntKind.i64.wrap (1 - c100))))), (10, .slice A0 p0.length c0), (11, .int .i64 (p0.length : Int)), (12, .int .i64 (IntKind.i64.wrap (x46 + 1)))] (ar (ar (ar (ar (ar (ar trivial)))))) fun j => ?_
            refine wpn_end ?_
            refine thn_i ?_
            exact ⟨n80, Nat.lt_succ_self _, A105, c106, o107, (x42 ++ [c88.1]), (IntKind.i64.wrap (x44 + (IntKind.i64.wrap (1 - c100)))), (IntKind.i64.wrap (x46 + 1)), _, ar (ar (ar (ar (ar (ar trivial))))), hO, hL, r38, w108, r45, hF⟩
    · refine wpn_cF (congrArg Value.bool hb81) ?_
      refine wpn_ex ?_
      refine thn_x ?_
      refine inb_x ?_
      refine thn_i ?_
      refine wpn_q hO 5 [] [(0, .slice A0 p0.length c0), (5, .int .i64 x44), (41, .slice A39 x42.length c40), (45, .bool (decide ((p0.length : Int) ≤ 16)))] (ar (ar (ar (ar trivial)))) fun j => ?_
      obtain ⟨c110, h111, hF⟩ := bind_some hF
      refine wpn_midq 4 [(53, .bool c110), (41, .slice A39 x42.length c40)] (fun Q hQ => ?_) fun j => ?_
      · have hF := h111
        rcases ite_some hF with ⟨hb112, hF⟩ | ⟨hb112, hF⟩
        · refine wpn_gT (congrArg (fun x => isB (.bool x) true) hb112) ?_
          refine wpn_q hO 4 [] [(5, .int .i64 x44), (41, .slice A39 x42.length c40), (45, .bool (decide ((p0.length : Int) ≤ 16))), (49, .bool ((p0.length : Int) == 0))] (ar (ar (ar (ar trivial)))) fun j => ?_
          rcases ite_some hF with ⟨hb113, hF⟩ | ⟨hb113, hF⟩
          · refine wpn_gF (congrArg (fun x => isB (.bool x) false) hb113) ?_
            refine wpn_gT (congrArg (fun x => isB (.bool x) true) hb112) ?_
            refine wpn_pk (congrArg Value.bool hb113) ?_
            refine wpn_pk (congrArg Value.bool hb112) ?_
            refine wpn_nil ?_
            injection hF with hF
            subst hF
            refine wpn_end ?_
            exact hQ _ (ar (ar trivial))
          · refine wpn_gT (congrArg (fun x => isB (.bool x) false) hb113) ?_
            refine wpn_q hO 2 [] [(41, .slice A39 x42.length c40), (45, .bool (decide ((p0.length : Int) ≤ 16))), (49, .bool ((p0.length : Int) == 0)), (51, .bool (x44 == 1))] (ar (ar (ar (ar trivial)))) fun j => ?_
            refine wpn_gT (congrArg (fun x => isB (.bool x) true) hb112) ?_
            refine wpn_pk (congrArg Value.bool hb113) ?_
            refine wpn_pk (congrArg Value.bool hb112) ?_
            refine wpn_nil ?_
            injection hF with hF
            subst hF
            refine wpn_end ?_
            exact hQ _ (ar (ar trivial))
        · refine wpn_gF (congrArg (fun x => isB (.bool x) true) hb112) ?_
          refine wpn_gF rfl ?_
          refine wpn_gF (congrArg (fun x => isB (.bool x) true) hb112) ?_
          refine wpn_pk (congrArg Value.bool hb112) ?_
          refine wpn_nil ?_
          injection hF with hF
          subst hF
          refine wpn_end ?_
          exact hQ _ (ar (ar trivial))
      · refine wpn_qa hO [] [(2, .slice A39 x42.length c40), (3, .bool c110)] (ar (ar trivial)) fun j => ?_
        refine wpn_r1 ?_
        injection hF with hF
        subst hF
        exact hQ _ _ _ _ _ rfl hO hL ⟨_, _, rfl, rfl, w43⟩
theorem zbC {τ : Hp} {v0 : Value} {p0 : (List zb)} (r0 : RdT zd τ v0 p0) {rr : Bool} (hF : zn p0 = some rr) :
    Ctr Try.prog 35 #[v0] τ [] (fun v τ' vs' => v = .bool rr ∧ vs' = []) := by
  obtain ⟨A0, c0, rfl, -⟩ := r0.form
  refine ctr_of (args := [.slice A0 p0.length c0]) hm Try.func35 s35 rfl fun w0 σ hO Q hQ => ?_
  unfold zn at hF
  have hL := Hp.le.refl τ
  show wpn _ _ a35.body _ _ _
  unfold a35
  dsimp only
  refine wpn_qa hO [] [(0, .slice A0 p0.length c0)] (ar trivial) fun j => ?_
  refine wpn_q hO 1 [] [(6, .slice A0 p0.length c0)] (ar trivial) fun j => ?_
  obtain ⟨c2, h3, hF⟩ := bind_some hF
  refine wpn_c0 hO (zcb r0 h3) rfl fun _ σ _ _ hO h4 h5 => ?_
  have hL := hL.trans h4
  have r0 := r0.le h4
  obtain ⟨v6, o9, rfl, rfl, w10⟩ := h5
  obtain ⟨A7, c8, rfl, -⟩ := w10.form
  have hO : Obs _ _ [_] := hO
  refine wpn_qa hO [] [(4, .bool c2.2)] (ar trivial) fun j => ?_
  refine wpn_qa hO [] [(2, .bool c2.2)] (ar trivial) fun j => ?_
  refine wpn_r1 ?_
  injection hF with hF
  subst hF
  have hO := hO.sel [] (by decide)
  exact hQ _ _ _ _ _ rfl hO hL ⟨rfl, rfl⟩
theorem zu {τ : Hp} {v0 : Value} {p0 : (List za)} (r0 : RdT zc τ v0 p0) {rr : Bool} (hF : zg p0 = some rr) :
    Ctr Try.prog 17 #[v0] τ [] (fun v τ' vs' => v = .bool rr ∧ vs' = []) := by
  obtain ⟨A0, c0, rfl, -⟩ := r0.form
  refine ctr_of (args := [.slice A0 p0.length c0]) hm Try.func17 s17 rfl fun w0 σ hO Q hQ => ?_
  unfold zg at hF
  have hL := Hp.le.refl τ
  show wpn _ _ a17.body _ _ _
  unfold a17
  dsimp only
  refine wpn_qa hO [] [(0, .slice A0 p0.length c0)] (ar trivial) fun j => ?_
  refine wpn_qa hO [] [(0, .slice A0 p0.length c0), (3, .int .i64 0)] (ar (ar trivial)) fun j => ?_
  refine wpn_assoc ?_
  refine wpn_qa hO [] [(0, .slice A0 p0.length c0), (3, .int .i64 0), (6, .slice A0 p0.length c0), (7, .int .i64 (p0.length : Int)), (8, .int .i64 0)] (ar (ar (ar (ar (ar trivial))))) fun j => ?_
  refine wpn_bl ?_
  refine wpn_lp (fun (n : Nat) e' σ' => ∃ (x24 : Int) (x26 : Int) (τ' : Hp), agr [(0, .slice A0 p0.length c0), (3, .int .i64 x24), (6, .slice A0 p0.length c0), (7, .int .i64 (p0.length : Int)), (8, .int .i64 x26)] e' ∧ Obs τ' σ' [] ∧ Hp.le τ τ' ∧ RdT zc τ' (.slice A0 p0.length c0) p0 ∧ RdT zc τ' (.slice A0 p0.length c0) p0 ∧ zx p0 n x24 x26 = some rr) big ⟨0, 0, _, ar (ar (ar (ar (ar trivial)))), hO, hL, r0, r0, hF⟩ ?_
  clear hF hO hL
  rintro n46 e σ ⟨x24, x26, _, hA, hO, hL, r23, r25, hF⟩
  rw [← sets_agr _ _ hA]
  cases n46 with
  | zero => exact nomatch (show none = some rr from hF)
  | succ n46 =>
    replace hF : zQ (zx p0 n46) p0 x24 x26 = some rr := hF
    unfold zQ at hF
    refine wpn_qa hO [] [(0, .slice A0 p0.length c0), (3, .int .i64 x24), (6, .slice A0 p0.length c0), (7, .int .i64 (p0.length : Int)), (8, .int .i64 x26), (9, .bool (decide (x26 < (p0.length : Int))))] (ar (ar (ar (ar (ar (ar trivial)))))) fun j => ?_
    rcases ite_some hF with ⟨hb47, hF⟩ | ⟨hb47, hF⟩
    · refine wpn_cT (congrArg Value.bool hb47) ?_
      refine wpn_sk ?_
      refine wpn_bl ?_
      obtain ⟨y48, g49, hF⟩ := bind_some hF
      refine wpn_idx (T := zc) r25 hO.base rfl rfl g49 (by decide) fun a50 _ k51 m52 => ?_
      obtain ⟨v53, rfl, r54⟩ := k51
      obtain ⟨A55, c56, rfl, -⟩ := r54.form
      refine wpn_ld rfl ((m52.le hO.base).all rfl) ?_
      refine wpn_al hO fun b57 σ hO => ?_
      have hO : Obs _ _ [_] := hO
      refine wpn_st hO (i := 0) rfl (off := 0) rfl rfl rfl rfl (Nat.le_of_ble_eq_true rfl) rfl fun σ hO => ?_
      have hO : Obs _ _ [_] := hO
      refine wpn_nil ?_
      refine wpn_assoc ?_
      refine wpn_q hO 14 [0, 0, 0, 0, 0] [(0, .slice A0 p0.length c0), (5, .pointer (some ⟨b57, 0, none⟩)), (6, .slice A0 p0.length c0), (7, .int .i64 (p0.length : Int)), (8, .int .i64 x26), (34, .bool ((((decide (y48.From < x24)) || (decide (y48.To ≤ y48.From))) || (decide (y48.To > 16777216))) || ((y48.At.length : Int) == 0)))] (And.intro (And.intro rfl rfl) (And.intro (And.intro rfl rfl) (And.intro (And.intro rfl rfl) (And.intro (And.intro rfl rfl) (fun _ => And.intro (And.intro rfl rfl) (And.intro (And.intro rfl rfl) (fun _ => And.intro (And.intro rfl rfl) (And.intro (And.intro rfl rfl) (fun _ => ar (ar (ar (ar (ar (ar trivial)))))))))))))) fun j => ?_
      obtain ⟨c58, h59, hF⟩ := bind_some hF
      refine wpn_mid 2 (fun e' σ' => ∃ (τ' : Hp), agr [(39, .bool c58), (0, .slice A0 p0.length c0), (5, .pointer (some ⟨b57, 0, none⟩)), (6, .slice A0 p0.length c0), (7, .int .i64 (p0.length : Int)), (8, .int .i64 x26)] e' ∧ Obs τ' σ' [some (b57, ⟨[.int .i64 y48.From, .int .i64 y48.To, .slice A55 y48.At.length c56], 46, 3, true⟩)] ∧ Hp.le τ τ' ∧ RdT zc τ' (.slice A0 p0.length c0) p0 ∧ RdT zc τ' (.slice A0 p0.length c0) p0 ∧ RdT zd τ' (.slice A55 y48.At.length c56) y48.At) ?_ ?_
      · have hF := h59
        rcases ite_some hF with ⟨hb60, hF⟩ | ⟨hb60, hF⟩
        · refine wpn_gF (congrArg (fun x => isB (.bool x) false) hb60) ?_
          refine wpn_pk (congrArg Value.bool hb60) ?_
          refine wpn_nil ?_
          injection hF with hF
          subst hF
          refine wpn_end ?_
          exact ⟨rfl, _, ar (ar (ar (ar (ar (ar trivial))))), hO, hL, r23, r25, r54⟩
        · refine wpn_gT (congrArg (fun x => isB (.bool x) false) hb60) ?_
          refine wpn_q hO 2 [0] [(0, .slice A0 p0.length c0), (5, .pointer (some ⟨b57, 0, none⟩)), (6, .slice A0 p0.length c0), (7, .int .i64 (p0.length : Int)), (8, .int .i64 x26), (34, .bool ((((decide (y48.From < x24)) || (decide (y48.To ≤ y48.From))) || (decide (y48.To > 16777216))) || ((y48.At.length : Int) == 0))), (36, .slice A55 y48.At.length c56)] (And.intro (And.intro rfl rfl) (ar (ar (ar (ar (ar (ar (ar trivial)))))))) fun j => ?_
          obtain ⟨c61, h62, hF⟩ := bind_some hF
          refine wpn_c0 hO (zbC r54 h62) rfl fun _ σ _ _ hO h63 h64 => ?_
          have hL := hL.trans h63
          have r23 := r23.le h63
          have r25 := r25.le h63
          have r54 := r54.le h63
          obtain ⟨rfl, rfl⟩ := h64
          have hO : Obs _ _ [_] := hO
          refine wpn_q hO 1 [] [(0, .slice A0 p0.length c0), (5, .pointer (some ⟨b57, 0, none⟩)), (6, .slice A0 p0.length c0), (7, .int .i64 (p0.length : Int)), (8, .int .i64 x26), (34, .bool ((((decide (y48.From < x24)) || (decide (y48.To ≤ y48.From))) || (decide (y48.To > 16777216))) || ((y48.At.length : Int) == 0))), (38, .bool (!c61))] (ar (ar (ar (ar (ar (ar (ar trivial))))))) fun j => ?_
          refine wpn_pk (congrArg Value.bool hb60) ?_
          refine wpn_nil ?_
          injection hF with hF
          subst hF
          refine wpn_end ?_
          exact ⟨rfl, _, ar (ar (ar (ar (ar (ar trivial))))), hO, hL, r23, r25, r54⟩
      · rintro e σ ⟨_, hA, hO, hL, r23, r25, r54⟩
        rw [← sets_agr _ _ hA]
        refine wpn_nil ?_
        rcases ite_some hF with ⟨hb65, hF⟩ | ⟨hb65, hF⟩
        · refine wpn_cT (congrArg Value.bool hb65) ?_
          refine wpn_assoc ?_
          refine wpn_qa hO [] [(2, .bool false)] (ar trivial) fun j => ?_
          refine wpn_rt ?_
          refine inb_r1 ?_
          refine thn_r1 ?_
          refine thn_r1 ?_
          refine inb_r1 ?_
          refine thn_r1 ?_
          injection hF with hF
          subst hF
          have hO := hO.sel [] (by decide)
          exact hQ _ _ _ _ _ rfl hO hL ⟨rfl, rfl⟩
        · refine wpn_cF (congrArg Value.bool hb65) ?_
          refine wpn_sk ?_
          refine wpn_rlast ?_
          refine wpn_qa hO [0] [(0, .slice A0 p0.length c0), (3, .int .i64 y48.To), (6, .slice A0 p0.length c0), (7, .int .i64 (p0.length : Int)), (8, .int .i64 x26)] (And.intro (And.intro rfl rfl) (ar (ar (ar (ar (ar trivial)))))) fun j => ?_
          refine wpn_end ?_
          refine inb_i ?_
          refine thn_i ?_
          refine wpn_rlast ?_
          refine wpn_qa hO [] [(0, .slice A0 p0.length c0), (3, .int .i64 y48.To), (6, .slice A0 p0.length c0), (7, .int .i64 (p0.length : Int)), (8, .int .i64 (IntKind.i64.wrap (x26 + 1)))] (ar (ar (ar (ar (ar trivial))))) fun j => ?_
          refine wpn_end ?_
          refine thn_i ?_
          have hO := hO.sel [] (by decide)
          exact ⟨n46, Nat.lt_succ_self _, y48.To, (IntKind.i64.wrap (x26 + 1)), _, ar (ar (ar (ar (ar trivial)))), hO, hL, r23, r25, hF⟩
    · refine wpn_cF (congrArg Value.bool hb47) ?_
      refine wpn_ex ?_
      refine thn_x ?_
      refine inb_x ?_
      refine thn_i ?_
      refine wpn_qa hO [] [(2, .bool (decide ((p0.length : Int) ≤ 4000)))] (ar trivial) fun j => ?_
      refine wpn_r1 ?_
      injection hF with hF
      subst hF
      exact hQ _ _ _ _ _ rfl hO hL ⟨rfl, rfl⟩
theorem zb2 {τ : Hp} {v0 : Value} {p0 : (List UInt8)} (r0 : RdT Ty.u8 τ v0 p0) {rr : (List UInt8)} (hF : zbt p0 = some rr) :
    Ctr Try.prog 46 #[v0] τ [] (fun v τ' vs' => ∃ (v0 : Value) (o0 : Ob), v = v0 ∧ vs' = [o0] ∧ OwnO Ty.u8 5 τ' v0 rr o0) := by
  obtain ⟨A0, c0, rfl, -⟩ := r0.form
  refine ctr_of (args := [.slice A0 p0.length c0]) hm Try.func46 s46 rfl fun w0 σ hO Q hQ => ?_
  unfold zbt at hF
  obtain ⟨_, hr, hF⟩ := bind_some hF
  injection hF with hF
  subst hF
  have hL := Hp.le.refl τ
  show wpn _ _ a46.body _ _ _
  unfold a46
  dsimp only
  refine wpn_qa hO [] [(0, .slice A0 p0.length c0)] (ar trivial) fun j => ?_
  refine wpn_assoc ?_
  refine wpn_qa hO [] [(0, .slice A0 p0.length c0), (4, .bool A0.isNone)] (ar (ar trivial)) fun j => ?_
  rcases (Bool.eq_false_or_eq_true A0.isNone).symm with hA | hA
  · refine wpn_cF (congrArg Value.bool hA) ?_
    refine wpn_sk ?_
    refine wpn_lit (T := Ty.u8) (l := []) (cs := []) hO rfl rfl rfl (by decide) fun _ σ o1 w1 hO => ?_
    obtain ⟨A1, c1, rfl, -⟩ := w1.form
    refine wpn_q hO 1 [] [(5, .slice A1 0 c1), (6, .slice A0 p0.length c0)] (ar (ar trivial)) fun j => ?_
    refine wpn_apl (T := Ty.u8) hO w1 (i := 0) rfl rfl rfl r0 (by simpa using hr) (by decide) fun _ σ o2 w2 hO => ?_
    refine wpn_qa hO [] [(2, _)] (ar trivial) fun j => ?_
    refine wpn_r1 ?_
    exact hQ _ _ _ _ _ rfl hO hL ⟨_, _, rfl, rfl, w2⟩
  · refine wpn_cT (congrArg Value.bool hA) ?_
    have := r0.empty (by decide) hA
    subst this
    refine wpn_assoc ?_
    refine wpn_qa hO [] [(2, .slice none 0 0)] (ar trivial) fun j => ?_
    refine wpn_rt ?_
    have hO := hO.no
    exact hQ _ _ _ _ _ rfl hO hL ⟨_, _, rfl, rfl, OwnO.nil _ _ _⟩
theorem zz {τ : Hp} {v0 : Value} {p0 : (List UInt8)} {p1 : Int} (r0 : RdT Ty.u8 τ v0 p0) {rr : (List UInt8)} (hF : zj p0 p1 = some rr) :
    Ctr Try.prog 31 #[v0, .int .u64 p1] τ [] (fun v τ' vs' => ∃ (v0 : Value) (o0 : Ob), v = v0 ∧ vs' = [o0] ∧ OwnO Ty.u8 5 τ' v0 rr o0) := by
  obtain ⟨A0, c0, rfl, -⟩ := r0.form
  refine ctr_of (args := [.slice A0 p0.length c0, .int .u64 p1]) hm Try.func31 s31 rfl fun w0 σ hO Q hQ => ?_
  unfold zj at hF
  have hL := Hp.le.refl τ
  show wpn _ _ a31.body _ _ _
  unfold a31
  dsimp only
  refine wpn_qa hO [] [(0, .slice A0 p0.length c0), (1, .int .u64 p1)] (ar (ar trivial)) fun j => ?_
  refine wpn_q hO 1 [] [(1, .int .u64 p1), (6, .slice A0 p0.length c0)] (ar (ar trivial)) fun j => ?_
  obtain ⟨c3, h4, hF⟩ := bind_some hF
  refine wpn_c0 hO (zb2 r0 h4) rfl fun _ σ _ _ hO h5 h6 => ?_
  have hL := hL.trans h5
  have r0 := r0.le h5
  obtain ⟨v7, o10, rfl, rfl, w11⟩ := h6
  obtain ⟨A8, c9, rfl, -⟩ := w11.form
  have hO : Obs _ _ [_] := hO
  refine wpn_qa hO [] [(1, .int .u64 p1), (5, .slice A8 c3.length c9)] (ar (ar trivial)) fun j => ?_
  refine wpn_bl ?_
  refine wpn_lp (fun (n : Nat) e' σ' => ∃ (x30 : Int) (A31 : Option Addr) (c32 : Nat) (o33 : Ob) (x34 : List UInt8) (τ' : Hp), agr [(1, .int .u64 x30), (5, .slice A31 x34.length c32)] e' ∧ Obs τ' σ' [o33] ∧ Hp.le τ τ' ∧ OwnO Ty.u8 5 τ' (.slice A31 x34.length c32) x34 o33 ∧ zbn  n x30 x34 = some rr) big ⟨p1, A8, c9, o10, c3, _, ar (ar trivial), hO, hL, w11, hF⟩ ?_
  clear hF hO hL
  rintro n49 e σ ⟨x30, A31, c32, o33, x34, _, hA, hO, hL, w35, hF⟩
  rw [← sets_agr _ _ hA]
  cases n49 with
  | zero => exact nomatch (show none = some rr from hF)
  | succ n49 =>
    replace hF : zbP (zbn  n49) x30 x34 = some rr := hF
    unfold zbP at hF
    refine wpn_assoc ?_
    refine wpn_qa hO [] [(1, .int .u64 x30), (5, .slice A31 x34.length c32), (9, .bool (decide (x30 > 127)))] (ar (ar (ar trivial))) fun j => ?_
    rcases ite_some hF with ⟨hb50, hF⟩ | ⟨hb50, hF⟩
    · refine wpn_cT (congrArg Value.bool hb50) ?_
      refine wpn_sk ?_
      refine wpn_blast ?_
      refine wpn_bl ?_
      refine wpn_q hO 4 [] [(1, .int .u64 x30), (10, .slice A31 x34.length c32), (13, .int .u8 (orI .u8 (IntKind.u8.wrap x30) 128))] (ar (ar (ar trivial))) fun j => ?_
      obtain ⟨z51, hz51, hF⟩ := bind_some hF
      obtain ⟨_, hr56, hF⟩ := bind_some hF
      refine wpn_ap1 (T := Ty.u8) (y := z51) hO w35 (i := 0) rfl rfl (fun _ => rfl) rfl (u8R hz51) rfl hr56 (by decide) fun u _ σ o54 w55 hO => ?_
      obtain ⟨A52, c53, rfl, -⟩ := w55.form
      have hO : Obs _ _ [_] := hO
      refine wpn_qa hO [] [(1, .int .u64 x30), (5, .slice A52 (x34 ++ [z51]).length c53)] (ar (ar trivial)) fun j => ?_
      refine wpn_rlast ?_
      refine wpn_qa hO [] [(1, .int .u64 (shrI .u64 x30 7)), (5, .slice A52 (x34 ++ [z51]).length c53)] (ar (ar trivial)) fun j => ?_
      refine wpn_end ?_
      refine inb_i ?_
      refine thn_i ?_
      refine wpn_end ?_
      refine thn_i ?_
      exact ⟨n49, Nat.lt_succ_self _, (shrI .u64 x30 7), A52, c53, o54, (x34 ++ [z51]), _, ar (ar trivial), hO, hL, w55, hF⟩
    · refine wpn_cF (congrArg Value.bool hb50) ?_
      refine wpn_ex ?_
      refine thn_x ?_
      refine inb_x ?_
      refine thn_i ?_
      refine wpn_q hO 3 [] [(18, .slice A31 x34.length c32), (20, .int .u8 (IntKind.u8.wrap x30))] (ar (ar trivial)) fun j => ?_
      obtain ⟨z57, hz57, hF⟩ := bind_some hF
      obtain ⟨_, hr62, hF⟩ := bind_some hF
      refine wpn_ap1 (T := Ty.u8) (y := z57) hO w35 (i := 0) rfl rfl (fun _ => rfl) rfl (u8R hz57) rfl hr62 (by decide) fun u _ σ o60 w61 hO => ?_
      obtain ⟨A58, c59, rfl, -⟩ := w61.form
      have hO : Obs _ _ [_] := hO
      refine wpn_qa hO [] [(4, .slice A58 (x34 ++ [z57]).length c59)] (ar trivial) fun j => ?_
      refine wpn_r1 ?_
      injection hF with hF
      subst hF
      exact hQ _ _ _ _ _ rfl hO hL ⟨_, _, rfl, rfl, w61⟩
theorem zb5 {τ : Hp} {p0 : Int}  {rr : Bool} (hF : zbu p0 = some rr) :
    Ctr Try.prog 47 #[.int .u8 p0] τ [] (fun v τ' vs' => v = .bool rr ∧ vs' = []) := by
  refine ctr_of (args := [.int .u8 p0]) hm Try.func47 s47 rfl fun w0 σ hO Q hQ => ?_
  unfold zbu at hF
  have hL := Hp.le.refl τ
  show wpn _ _ a47.body _ _ _
  unfold a47
  dsimp only
  refine wpn_qa hO [] [(0, .int .u8 p0)] (ar trivial) fun j => ?_
  refine wpn_qa hO [] [(2, .bool ((decide (p0 ≥ 1)) && (decide (p0 ≤ 3))))] (And.intro (And.intro rfl rfl) (fun _ => ar trivial)) fun j => ?_
  refine wpn_r1 ?_
  injection hF with hF
  subst hF
  exact hQ _ _ _ _ _ rfl hO hL ⟨rfl, rfl⟩
theorem zbX {τ : Hp} {v0 : Value} {p0 : (List UInt8)} {p1 : Int} (r0 : RdT Ty.u8 τ v0 p0) {rr : (List UInt8)} (hF : zbb p0 p1 = some rr) :
    Ctr Try.prog 48 #[v0, .int .i64 p1] τ [] (fun v τ' vs' => ∃ (v0 : Value) (o0 : Ob), v = v0 ∧ vs' = [o0] ∧ OwnO Ty.u8 5 τ' v0 rr o0) := by
  obtain ⟨A0, c0, rfl, -⟩ := r0.form
  refine ctr_of (args := [.slice A0 p0.length c0, .int .i64 p1]) hm Try.func48 s48 rfl fun w0 σ hO Q hQ => ?_
  unfold zbb at hF
  have hL := Hp.le.refl τ
  show wpn _ _ a48.body _ _ _
  unfold a48
  dsimp only
  refine wpn_qa hO [] [(0, .slice A0 p0.length c0), (1, .int .i64 p1)] (ar (ar trivial)) fun j => ?_
  refine wpn_q hO 1 [] [(1, .int .i64 p1), (6, .slice A0 p0.length c0)] (ar (ar trivial)) fun j => ?_
  obtain ⟨c3, h4, hF⟩ := bind_some hF
  refine wpn_c0 hO (zb2 r0 h4) rfl fun _ σ _ _ hO h5 h6 => ?_
  have hL := hL.trans h5
  have r0 := r0.le h5
  obtain ⟨v7, o10, rfl, rfl, w11⟩ := h6
  obtain ⟨A8, c9, rfl, -⟩ := w11.form
  have hO : Obs _ _ [_] := hO
  refine wpn_qa hO [] [(1, .int .i64 p1), (5, .slice A8 c3.length c9)] (ar (ar trivial)) fun j => ?_
  refine wpn_bl ?_
  refine wpn_lp (fun (n : Nat) e' σ' => ∃ (x30 : Int) (A31 : Option Addr) (c32 : Nat) (o33 : Ob) (x34 : List UInt8) (τ' : Hp), agr [(1, .int .i64 x30), (5, .slice A31 x34.length c32)] e' ∧ Obs τ' σ' [o33] ∧ Hp.le τ τ' ∧ OwnO Ty.u8 5 τ' (.slice A31 x34.length c32) x34 o33 ∧ zbk  n x30 x34 = some rr) big ⟨p1, A8, c9, o10, c3, _, ar (ar trivial), hO, hL, w11, hF⟩ ?_
  clear hF hO hL
  rintro n49 e σ ⟨x30, A31, c32, o33, x34, _, hA, hO, hL, w35, hF⟩
  rw [← sets_agr _ _ hA]
  cases n49 with
  | zero => exact nomatch (show none = some rr from hF)
  | succ n49 =>
    replace hF : zbR (zbk  n49) x30 x34 = some rr := hF
    unfold zbR at hF
    refine wpn_assoc ?_
    refine wpn_qa hO [] [(1, .int .i64 x30), (5, .slice A31 x34.length c32), (13, .bool ((decide (x30 > 63)) || (decide (x30 < (-64)))))] (And.intro (And.intro rfl rfl) (fun _ => ar (ar (ar trivial)))) fun j => ?_
    rcases ite_some hF with ⟨hb50, hF⟩ | ⟨hb50, hF⟩
    · refine wpn_cT (congrArg Value.bool hb50) ?_
      refine wpn_sk ?_
      refine wpn_blast ?_
      refine wpn_bl ?_
      refine wpn_q hO 4 [] [(1, .int .i64 x30), (14, .slice A31 x34.length c32), (17, .int .u8 (orI .u8 (IntKind.u8.wrap x30) 128))] (ar (ar (ar trivial))) fun j => ?_
      obtain ⟨z51, hz51, hF⟩ := bind_some hF
      obtain ⟨_, hr56, hF⟩ := bind_some hF
      refine wpn_ap1 (T := Ty.u8) (y := z51) hO w35 (i := 0) rfl rfl (fun _ => rfl) rfl (u8R hz51) rfl hr56 (by decide) fun u _ σ o54 w55 hO => ?_
      obtain ⟨A52, c53, rfl, -⟩ := w55.form
      have hO : Obs _ _ [_] := hO
      refine wpn_qa hO [] [(1, .int .i64 x30), (5, .slice A52 (x34 ++ [z51]).length c53)] (ar (ar trivial)) fun j => ?_
      refine wpn_rlast ?_
      refine wpn_qa hO [] [(1, .int .i64 (shrI .i64 x30 7)), (5, .slice A52 (x34 ++ [z51]).length c53)] (ar (ar trivial)) fun j => ?_
      refine wpn_end ?_
      refine inb_i ?_
      refine thn_i ?_
      refine wpn_end ?_
      refine thn_i ?_
      exact ⟨n49, Nat.lt_succ_self _, (shrI .i64 x30 7), A52, c53, o54, (x34 ++ [z51]), _, ar (ar trivial), hO, hL, w55, hF⟩
    · refine wpn_cF (congrArg Value.bool hb50) ?_
      refine wpn_ex ?_
      refine thn_x ?_
      refine inb_x ?_
      refine thn_i ?_
      refine wpn_q hO 4 [] [(22, .slice A31 x34.length c32), (25, .int .u8 (andI .u8 (IntKind.u8.wrap x30) 127))] (ar (ar trivial)) fun j => ?_
      obtain ⟨z57, hz57, hF⟩ := bind_some hF
      obtain ⟨_, hr62, hF⟩ := bind_some hF
      refine wpn_ap1 (T := Ty.u8) (y := z57) hO w35 (i := 0) rfl rfl (fun _ => rfl) rfl (u8R hz57) rfl hr62 (by decide) fun u _ σ o60 w61 hO => ?_
      obtain ⟨A58, c59, rfl, -⟩ := w61.form
      have hO : Obs _ _ [_] := hO
      refine wpn_qa hO [] [(4, .slice A58 (x34 ++ [z57]).length c59)] (ar trivial) fun j => ?_
      refine wpn_r1 ?_
      injection hF with hF
      subst hF
      exact hQ _ _ _ _ _ rfl hO hL ⟨_, _, rfl, rfl, w61⟩
theorem zcM {τ : Hp} {v0 : Value} {p0 : (List UInt8)} {v1 : Value} {p1 : (List zb)} (r0 : RdT Ty.u8 τ v0 p0) (r1 : RdT zd τ v1 p1) {rr : (List UInt8) × Int} (hF : zbF p0 p1 = some rr) :
    Ctr Try.prog 32 #[v0, v1] τ [] (fun v τ' vs' => ∃ (v0 : Value) (o0 : Ob), v = .tuple #[v0, .int .i64 rr.2] ∧ vs' = [o0] ∧ OwnO Ty.u8 5 τ' v0 rr.1 o0) := by
  obtain ⟨A0, c0, rfl, -⟩ := r0.form
  obtain ⟨A1, c1, rfl, -⟩ := r1.form
  refine ctr_of (args := [.slice A0 p0.length c0, .slice A1 p1.length c1]) hm Try.func32 s32 rfl fun w0 σ hO Q hQ => ?_
  unfold zbF at hF
  have hL := Hp.le.refl τ
  show wpn _ _ a32.body _ _ _
  unfold a32
  dsimp only
  refine wpn_qa hO [] [(0, .slice A0 p0.length c0), (1, .slice A1 p1.length c1)] (ar (ar trivial)) fun j => ?_
  refine wpn_assoc ?_
  refine wpn_q hO 1 [] [(0, .slice A0 p0.length c0), (1, .slice A1 p1.length c1), (9, .slice A1 p1.length c1)] (ar (ar (ar trivial))) fun j => ?_
  obtain ⟨c3, h4, hF⟩ := bind_some hF
  refine wpn_c0 hO (zbC r1 h4) rfl fun _ σ _ _ hO h5 h6 => ?_
  have hL := hL.trans h5
  have r0 := r0.le h5
  have r1 := r1.le h5
  obtain ⟨rfl, rfl⟩ := h6
  have hO : Obs _ _ [] := hO
  refine wpn_qa hO [] [(0, .slice A0 p0.length c0), (1, .slice A1 p1.length c1), (11, .bool (!c3))] (ar (ar (ar trivial))) fun j => ?_
  rcases ite_some hF with ⟨hb7, hF⟩ | ⟨hb7, hF⟩
  · refine wpn_cT (congrArg Value.bool hb7) ?_
    refine wpn_assoc ?_
    refine wpn_qa hO [] [(4, .slice none 0 0), (5, .int .i64 1)] (ar (ar trivial)) fun j => ?_
    refine wpn_rt ?_
    have hO := hO.no
    have hO : Obs _ _ [_] := hO
    injection hF with hF
    subst hF
    exact hQ _ _ _ _ _ rfl hO hL ⟨_, _, rfl, rfl, (OwnO.nil _ _ _)⟩
  · refine wpn_cF (congrArg Value.bool hb7) ?_
    refine wpn_sk ?_
    refine wpn_q hO 4 [] [(1, .slice A1 p1.length c1), (12, .slice A0 p0.length c0), (15, .int .u64 (IntKind.u64.wrap (p1.length : Int)))] (ar (ar (ar trivial))) fun j => ?_
    obtain ⟨c8, h9, hF⟩ := bind_some hF
    refine wpn_c0 hO (zz r0 h9) rfl fun _ σ _ _ hO h10 h11 => ?_
    have hL := hL.trans h10
    have r1 := r1.le h10
    have r0 := r0.le h10
    obtain ⟨v12, o15, rfl, rfl, w16⟩ := h11
    obtain ⟨A13, c14, rfl, -⟩ := w16.form
    have hO : Obs _ _ [_] := hO
    refine wpn_qa hO [] [(1, .slice A1 p1.length c1), (6, .slice A13 c8.length c14)] (ar (ar trivial)) fun j => ?_
    refine wpn_assoc ?_
    refine wpn_qa hO [] [(6, .slice A13 c8.length c14), (17, .slice A1 p1.length c1), (18, .int .i64 (p1.length : Int)), (19, .int .i64 0)] (ar (ar (ar (ar trivial)))) fun j => ?_
    refine wpn_bl ?_
    refine wpn_lp (fun (n : Nat) e' σ' => ∃ (A51 : Option Addr) (c52 : Nat) (o53 : Ob) (x54 : List UInt8) (x57 : Int) (τ' : Hp), agr [(6, .slice A51 x54.length c52), (17, .slice A1 p1.length c1), (18, .int .i64 (p1.length : Int)), (19, .int .i64 x57)] e' ∧ Obs τ' σ' [o53] ∧ Hp.le τ τ' ∧ OwnO Ty.u8 5 τ' (.slice A51 x54.length c52) x54 o53 ∧ RdT zd τ' (.slice A1 p1.length c1) p1 ∧ zbp p1 n x54 x57 = some rr) big ⟨A13, c14, o15, c8, 0, _, ar (ar (ar (ar trivial))), hO, hL, w16, r1, hF⟩ ?_
    clear hF hO hL
    rintro n86 e σ ⟨A51, c52, o53, x54, x57, _, hA, hO, hL, w55, r56, hF⟩
    rw [← sets_agr _ _ hA]
    cases n86 with
    | zero => exact nomatch (show none = some rr from hF)
    | succ n86 =>
      replace hF : zbD (zbp p1 n86) p1 x54 x57 = some rr := hF
      unfold zbD at hF
      refine wpn_qa hO [] [(6, .slice A51 x54.length c52), (17, .slice A1 p1.length c1), (18, .int .i64 (p1.length : Int)), (19, .int .i64 x57), (20, .bool (decide (x57 < (p1.length : Int))))] (ar (ar (ar (ar (ar trivial))))) fun j => ?_
      rcases ite_some hF with ⟨hb87, hF⟩ | ⟨hb87, hF⟩
      · refine wpn_cT (congrArg Value.bool hb87) ?_
        refine wpn_sk ?_
        refine wpn_bl ?_
        obtain ⟨y88, g89, hF⟩ := bind_some hF
        refine wpn_idx (T := zd) r56 hO.base rfl rfl g89 (by decide) fun a90 _ k91 m92 => ?_
        obtain rfl : _ = ([.int .u8 y88.Kind.toNat, .int .i64 y88.N] : List Value) := k91
        refine wpn_ld rfl ((m92.le hO.base).all rfl) ?_
        refine wpn_al hO fun b93 σ hO => ?_
        have hO : Obs _ _ [_, _] := hO
        refine wpn_st hO (i := 1) rfl (off := 0) rfl rfl rfl rfl (Nat.le_of_ble_eq_true rfl) rfl fun σ hO => ?_
        have hO : Obs _ _ [_, _] := hO
        refine wpn_nil ?_
        refine wpn_q hO 3 [1] [(8, .pointer (some ⟨b93, 0, none⟩)), (17, .slice A1 p1.length c1), (18, .int .i64 (p1.length : Int)), (19, .int .i64 x57), (23, .slice A51 x54.length c52), (25, .int .u8 (y88.Kind.toNat : Int))] (And.intro (And.intro rfl rfl) (ar (ar (ar (ar (ar (ar trivial))))))) fun j => ?_
        obtain ⟨_, hr98, hF⟩ := bind_some hF
        refine wpn_ap1 (T := Ty.u8) (y := y88.Kind) hO w55 (i := 0) rfl rfl (fun _ => rfl) rfl rfl rfl hr98 (by decide) fun u _ σ o96 w97 hO => ?_
        obtain ⟨A94, c95, rfl, -⟩ := w97.form
        have hO : Obs _ _ [_, _] := hO
        refine wpn_qa hO [] [(6, .slice A94 (x54 ++ [y88.Kind]).length c95), (8, .pointer (some ⟨b93, 0, none⟩)), (17, .slice A1 p1.length c1), (18, .int .i64 (p1.length : Int)), (19, .int .i64 x57)] (ar (ar (ar (ar (ar trivial))))) fun j => ?_
        refine wpn_q hO 2 [1] [(6, .slice A94 (x54 ++ [y88.Kind]).length c95), (8, .pointer (some ⟨b93, 0, none⟩)), (17, .slice A1 p1.length c1), (18, .int .i64 (p1.length : Int)), (19, .int .i64 x57), (29, .int .u8 (y88.Kind.toNat : Int))] (And.intro (And.intro rfl rfl) (ar (ar (ar (ar (ar (ar trivial))))))) fun j => ?_
        obtain ⟨c99, h100, hF⟩ := bind_some hF
        refine wpn_c0 hO (zb5 h100) rfl fun _ σ _ _ hO h101 h102 => ?_
        have hL := hL.trans h101
        have w97 := w97.le h101
        have r56 := r56.le h101
        obtain ⟨rfl, rfl⟩ := h102
        have hO : Obs _ _ [_, _] := hO
        refine wpn_nil ?_
        refine wpn_clast ?_
        rcases ite_some hF with ⟨hb103, hF⟩ | ⟨hb103, hF⟩
        · refine wpn_cT (congrArg Value.bool hb103) ?_
          refine wpn_q hO 3 [1] [(17, .slice A1 p1.length c1), (18, .int .i64 (p1.length : Int)), (19, .int .i64 x57), (31, .slice A94 (x54 ++ [y88.Kind]).length c95), (33, .int .i64 y88.N)] (And.intro (And.intro rfl rfl) (ar (ar (ar (ar (ar trivial)))))) fun j => ?_
          obtain ⟨_, h105, r104, hO⟩ := w97.share hO (i := 0) rfl
          have hL := hL.trans h105
          have r56 := r56.le h105
          have hO : Obs _ _ [_, _] := hO
          obtain ⟨c106, h107, hF⟩ := bind_some hF
          refine wpn_c0 hO (zbX r104 h107) rfl fun _ σ _ _ hO h108 h109 => ?_
          have hL := hL.trans h108
          have r56 := r56.le h108
          have r104 := r104.le h108
          obtain ⟨v110, o113, rfl, rfl, w114⟩ := h109
          obtain ⟨A111, c112, rfl, -⟩ := w114.form
          have hO : Obs _ _ [_, _, _] := hO
          refine wpn_qa hO [] [(6, .slice A111 c106.length c112), (17, .slice A1 p1.length c1), (18, .int .i64 (p1.length : Int)), (19, .int .i64 x57)] (ar (ar (ar (ar trivial)))) fun j => ?_
          refine wpn_end ?_
          refine inb_i ?_
          refine thn_i ?_
          refine wpn_rlast ?_
          refine wpn_qa hO [] [(6, .slice A111 c106.length c112), (17, .slice A1 p1.length c1), (18, .int .i64 (p1.length : Int)), (19, .int .i64 (IntKind.i64.wrap (x57 + 1)))] (ar (ar (ar (ar trivial)))) fun j => ?_
          refine wpn_end ?_
          refine thn_i ?_
          have hO := hO.sel [2] (by decide)
          exact ⟨n86, Nat.lt_succ_self _, A111, c112, o113, c106, (IntKind.i64.wrap (x57 + 1)), _, ar (ar (ar (ar trivial))), hO, hL, w114, r56, hF⟩
        · refine wpn_cF (congrArg Value.bool hb103) ?_
          refine wpn_sk ?_
          refine wpn_end ?_
          refine inb_i ?_
          refine thn_i ?_
          refine wpn_rlast ?_
          refine wpn_qa hO [] [(6, .slice A94 (x54 ++ [y88.Kind]).length c95), (17, .slice A1 p1.length c1), (18, .int .i64 (p1.length : Int)), (19, .int .i64 (IntKind.i64.wrap (x57 + 1)))] (ar (ar (ar (ar trivial)))) fun j => ?_
          refine wpn_end ?_
          refine thn_i ?_
          have hO := hO.sel [0] (by decide)
          exact ⟨n86, Nat.lt_succ_self _, A94, c95, o96, (x54 ++ [y88.Kind]), (IntKind.i64.wrap (x57 + 1)), _, ar (ar (ar (ar trivial))), hO, hL, w97, r56, hF⟩
      · refine wpn_cF (congrArg Value.bool hb87) ?_
        refine wpn_ex ?_
        refine thn_x ?_
        refine inb_x ?_
        refine thn_i ?_
        refine wpn_qa hO [] [(4, .slice A51 x54.length c52), (5, .int .i64 0)] (ar (ar trivial)) fun j => ?_
        refine wpn_r1 ?_
        injection hF with hF
        subst hF
        exact hQ _ _ _ _ _ rfl hO hL ⟨_, _, rfl, rfl, w55⟩
theorem zcw {τ : Hp} {v0 : Value} {p0 : (List UInt8)} {v1 : Value} {p1 : (List za)} (r0 : RdT Ty.u8 τ v0 p0) (r1 : RdT zc τ v1 p1) {rr : (List UInt8) × Int} (hF : zbJ p0 p1 = some rr) :
    Ctr Try.prog 12 #[v0, v1] τ [] (fun v τ' vs' => ∃ (v0 : Value) (o0 : Ob), v = .tuple #[v0, .int .i64 rr.2] ∧ vs' = [o0] ∧ OwnO Ty.u8 5 τ' v0 rr.1 o0) := by
  obtain ⟨A0, c0, rfl, -⟩ := r0.form
  obtain ⟨A1, c1, rfl, -⟩ := r1.form
  refine ctr_of (args := [.slice A0 p0.length c0, .slice A1 p1.length c1]) hm Try.func12 s12 rfl fun w0 σ hO Q hQ => ?_
  unfold zbJ at hF
  have hL := Hp.le.refl τ
  show wpn _ _ a12.body _ _ _
  unfold a12
  dsimp only
  refine wpn_qa hO [] [(0, .slice A0 p0.length c0), (1, .slice A1 p1.length c1)] (ar (ar trivial)) fun j => ?_
  refine wpn_assoc ?_
  refine wpn_q hO 1 [] [(0, .slice A0 p0.length c0), (1, .slice A1 p1.length c1), (10, .slice A1 p1.length c1)] (ar (ar (ar trivial))) fun j => ?_
  obtain ⟨c3, h4, hF⟩ := bind_some hF
  refine wpn_c0 hO (zu r1 h4) rfl fun _ σ _ _ hO h5 h6 => ?_
  have hL := hL.trans h5
  have r0 := r0.le h5
  have r1 := r1.le h5
  obtain ⟨rfl, rfl⟩ := h6
  have hO : Obs _ _ [] := hO
  refine wpn_qa hO [] [(0, .slice A0 p0.length c0), (1, .slice A1 p1.length c1), (12, .bool (!c3))] (ar (ar (ar trivial))) fun j => ?_
  rcases ite_some hF with ⟨hb7, hF⟩ | ⟨hb7, hF⟩
  · refine wpn_cT (congrArg Value.bool hb7) ?_
    refine wpn_assoc ?_
    refine wpn_qa hO [] [(4, .slice none 0 0), (5, .int .i64 1)] (ar (ar trivial)) fun j => ?_
    refine wpn_rt ?_
    have hO := hO.no
    have hO : Obs _ _ [_] := hO
    injection hF with hF
    subst hF
    exact hQ _ _ _ _ _ rfl hO hL ⟨_, _, rfl, rfl, (OwnO.nil _ _ _)⟩
  · refine wpn_cF (congrArg Value.bool hb7) ?_
    refine wpn_sk ?_
    refine wpn_q hO 4 [] [(1, .slice A1 p1.length c1), (13, .slice A0 p0.length c0), (16, .int .u64 (IntKind.u64.wrap (p1.length : Int)))] (ar (ar (ar trivial))) fun j => ?_
    obtain ⟨c8, h9, hF⟩ := bind_some hF
    refine wpn_c0 hO (zz r0 h9) rfl fun _ σ _ _ hO h10 h11 => ?_
    have hL := hL.trans h10
    have r1 := r1.le h10
    have r0 := r0.le h10
    obtain ⟨v12, o15, rfl, rfl, w16⟩ := h11
    obtain ⟨A13, c14, rfl, -⟩ := w16.form
    have hO : Obs _ _ [_] := hO
    refine wpn_qa hO [] [(1, .slice A1 p1.length c1), (6, .slice A13 c8.length c14)] (ar (ar trivial)) fun j => ?_
    refine wpn_qa hO [] [(1, .slice A1 p1.length c1), (6, .slice A13 c8.length c14), (7, .int .i64 0)] (ar (ar (ar trivial))) fun j => ?_
    refine wpn_assoc ?_
    refine wpn_qa hO [] [(6, .slice A13 c8.length c14), (7, .int .i64 0), (18, .slice A1 p1.length c1), (19, .int .i64 (p1.length : Int)), (20, .int .i64 0)] (ar (ar (ar (ar (ar trivial))))) fun j => ?_
    refine wpn_bl ?_
    refine wpn_lp (fun (n : Nat) e' σ' => ∃ (A67 : Option Addr) (c68 : Nat) (o69 : Ob) (x70 : List UInt8) (x72 : Int) (x74 : Int) (τ' : Hp), agr [(6, .slice A67 x70.length c68), (7, .int .i64 x72), (18, .slice A1 p1.length c1), (19, .int .i64 (p1.length : Int)), (20, .int .i64 x74)] e' ∧ Obs τ' σ' [o69] ∧ Hp.le τ τ' ∧ OwnO Ty.u8 5 τ' (.slice A67 x70.length c68) x70 o69 ∧ RdT zc τ' (.slice A1 p1.length c1) p1 ∧ zbd p1 n x70 x72 x74 = some rr) big ⟨A13, c14, o15, c8, 0, 0, _, ar (ar (ar (ar (ar trivial)))), hO, hL, w16, r1, hF⟩ ?_
    clear hF hO hL
    rintro n119 e σ ⟨A67, c68, o69, x70, x72, x74, _, hA, hO, hL, w71, r73, hF⟩
    rw [← sets_agr _ _ hA]
    cases n119 with
    | zero => exact nomatch (show none = some rr from hF)
    | succ n119 =>
      replace hF : zbN (zbd p1 n119) p1 x70 x72 x74 = some rr := hF
      unfold zbN at hF
      refine wpn_qa hO [] [(6, .slice A67 x70.length c68), (7, .int .i64 x72), (18, .slice A1 p1.length c1), (19, .int .i64 (p1.length : Int)), (20, .int .i64 x74), (21, .bool (decide (x74 < (p1.length : Int))))] (ar (ar (ar (ar (ar (ar trivial)))))) fun j => ?_
      rcases ite_some hF with ⟨hb120, hF⟩ | ⟨hb120, hF⟩
      · refine wpn_cT (congrArg Value.bool hb120) ?_
        refine wpn_sk ?_
        refine wpn_bl ?_
        obtain ⟨y121, g122, hF⟩ := bind_some hF
        refine wpn_idx (T := zc) r73 hO.base rfl rfl g122 (by decide) fun a123 _ k124 m125 => ?_
        obtain ⟨v126, rfl, r127⟩ := k124
        obtain ⟨A128, c129, rfl, -⟩ := r127.form
        refine wpn_ld rfl ((m125.le hO.base).all rfl) ?_
        refine wpn_al hO fun b130 σ hO => ?_
        have hO : Obs _ _ [_, _] := hO
        refine wpn_st hO (i := 1) rfl (off := 0) rfl rfl rfl rfl (Nat.le_of_ble_eq_true rfl) rfl fun σ hO => ?_
        have hO : Obs _ _ [_, _] := hO
        refine wpn_nil ?_
        refine wpn_p2r ?_
        refine wpn_q hO 12 [1, 1, 1] [(9, .pointer (some ⟨b130, 0, none⟩)), (18, .slice A1 p1.length c1), (19, .int .i64 (p1.length : Int)), (20, .int .i64 x74), (24, .slice A67 x70.length c68), (29, .int .u64 (IntKind.u64.wrap (IntKind.i64.wrap (y121.From - x72)))), (31, .pointer (some ⟨b130, 1, none⟩)), (32, .int .i64 y121.To), (33, .pointer (some ⟨b130, 0, none⟩)), (34, .int .i64 y121.From), (36, .int .u64 (IntKind.u64.wrap (IntKind.i64.wrap (y121.To - y121.From))))] (And.intro (And.intro rfl rfl) (And.intro (And.intro rfl rfl) (And.intro (And.intro rfl rfl) (ar (ar (ar (ar (ar (ar (ar (ar (ar (ar (ar trivial)))))))))))))) fun j => ?_
        refine wpn_late ?_
        obtain ⟨_, h132, r131, hO⟩ := w71.share hO (i := 0) rfl
        have hL := hL.trans h132
        have r73 := r73.le h132
        have r127 := r127.le h132
        have hO : Obs _ _ [_, _] := hO
        obtain ⟨c133, h134, hF⟩ := bind_some hF
        refine wpn_c0 hO (zz r131 h134) rfl fun _ σ _ _ hO h135 h136 => ?_
        have hL := hL.trans h135
        have r73 := r73.le h135
        have r131 := r131.le h135
        have r127 := r127.le h135
        obtain ⟨v137, o140, rfl, rfl, w141⟩ := h136
        obtain ⟨A138, c139, rfl, -⟩ := w141.form
        have hO : Obs _ _ [_, _, _] := hO
        refine wpn_nil ?_
        refine wpn_ag ⟨(again_ld rfl (hO.val (i := 1) (off := 0) (agg := false) (n := 1) rfl rfl) rfl), (again_ld rfl (hO.val (i := 1) (off := 1) (agg := false) (n := 1) rfl rfl) rfl), trivial⟩ ?_
        obtain ⟨_, h143, r142, hO⟩ := w141.share hO (i := 2) rfl
        have hL := hL.trans h143
        have r73 := r73.le h143
        have r131 := r131.le h143
        have r127 := r127.le h143
        have hO : Obs _ _ [_, _, _] := hO
        obtain ⟨c144, h145, hF⟩ := bind_some hF
        refine wpn_c0 hO (zz r142 h145) rfl fun _ σ _ _ hO h146 h147 => ?_
        have hL := hL.trans h146
        have r73 := r73.le h146
        have r131 := r131.le h146
        have r142 := r142.le h146
        have r127 := r127.le h146
        obtain ⟨v148, o151, rfl, rfl, w152⟩ := h147
        obtain ⟨A149, c150, rfl, -⟩ := w152.form
        have hO : Obs _ _ [_, _, _, _] := hO
        refine wpn_qa hO [] [(6, .slice A149 c144.length c150), (9, .pointer (some ⟨b130, 0, none⟩)), (18, .slice A1 p1.length c1), (19, .int .i64 (p1.length : Int)), (20, .int .i64 x74)] (ar (ar (ar (ar (ar trivial))))) fun j => ?_
        refine wpn_q hO 3 [1] [(9, .pointer (some ⟨b130, 0, none⟩)), (18, .slice A1 p1.length c1), (19, .int .i64 (p1.length : Int)), (20, .int .i64 x74), (39, .slice A149 c144.length c150), (41, .slice A128 y121.At.length c129)] (And.intro (And.intro rfl rfl) (ar (ar (ar (ar (ar (ar trivial))))))) fun j => ?_
        obtain ⟨_, h154, r153, hO⟩ := w152.share hO (i := 3) rfl
        have hL := hL.trans h154
        have r73 := r73.le h154
        have r127 := r127.le h154
        have hO : Obs _ _ [_, _, _, _] := hO
        obtain ⟨c155, h156, hF⟩ := bind_some hF
        refine wpn_c0 hO (zcM r153 r127 h156) rfl fun _ σ _ _ hO h157 h158 => ?_
        have hL := hL.trans h157
        have r73 := r73.le h157
        have r153 := r153.le h157
        have r127 := r127.le h157
        obtain ⟨v159, o162, rfl, rfl, w163⟩ := h158
        obtain ⟨A160, c161, rfl, -⟩ := w163.form
        have hO : Obs _ _ [_, _, _, _, _] := hO
        refine wpn_qa hO [] [(6, .slice A160 c155.1.length c161), (9, .pointer (some ⟨b130, 0, none⟩)), (18, .slice A1 p1.length c1), (19, .int .i64 (p1.length : Int)), (20, .int .i64 x74)] (ar (ar (ar (ar (ar trivial))))) fun j => ?_
        refine wpn_rlast ?_
        refine wpn_qa hO [1] [(6, .slice A160 c155.1.length c161), (7, .int .i64 y121.To), (18, .slice A1 p1.length c1), (19, .int .i64 (p1.length : Int)), (20, .int .i64 x74)] (And.intro (And.intro rfl rfl) (ar (ar (ar (ar (ar trivial)))))) fun j => ?_
        refine wpn_end ?_
        refine inb_i ?_
        refine thn_i ?_
        refine wpn_rlast ?_
        refine wpn_qa hO [] [(6, .slice A160 c155.1.length c161), (7, .int .i64 y121.To), (18, .slice A1 p1.length c1), (19, .int .i64 (p1.length : Int)), (20, .int .i64 (IntKind.i64.wrap (x74 + 1)))] (ar (ar (ar (ar (ar trivial))))) fun j => ?_
        refine wpn_end ?_
        refine thn_i ?_
        have hO := hO.sel [4] (by decide)
        exact ⟨n119, Nat.lt_succ_self _, A160, c161, o162, c155.1, y121.To, (IntKind.i64.wrap (x74 + 1)), _, ar (ar (ar (ar (ar trivial)))), hO, hL, w163, r73, hF⟩
      · refine wpn_cF (congrArg Value.bool hb120) ?_
        refine wpn_ex ?_
        refine thn_x ?_
        refine inb_x ?_
        refine thn_i ?_
        refine wpn_qa hO [] [(4, .slice A67 x70.length c68), (5, .int .i64 0)] (ar (ar trivial)) fun j => ?_
        refine wpn_r1 ?_
        injection hF with hF
        subst hF
        exact hQ _ _ _ _ _ rfl hO hL ⟨_, _, rfl, rfl, w71⟩
theorem zbG {τ : Hp} {v0 : Value} {p0 : (List zb)} {v1 : Value} {p1 : (List zb)} (r0 : RdT zd τ v0 p0) (r1 : RdT zd τ v1 p1) {rr : Bool} (hF : zl p0 p1 = some rr) :
    Ctr Try.prog 25 #[v0, v1] τ [] (fun v τ' vs' => v = .bool rr ∧ vs' = []) := by
  obtain ⟨A0, c0, rfl, -⟩ := r0.form
  obtain ⟨A1, c1, rfl, -⟩ := r1.form
  refine ctr_of (args := [.slice A0 p0.length c0, .slice A1 p1.length c1]) hm Try.func25 s25 rfl fun w0 σ hO Q hQ => ?_
  unfold zl at hF
  have hL := Hp.le.refl τ
  show wpn _ _ a25.body _ _ _
  unfold a25
  dsimp only
  refine wpn_qa hO [] [(0, .slice A0 p0.length c0), (1, .slice A1 p1.length c1)] (ar (ar trivial)) fun j => ?_
  refine wpn_assoc ?_
  refine wpn_qa hO [] [(0, .slice A0 p0.length c0), (1, .slice A1 p1.length c1), (10, .bool ((p0.length : Int) != (p1.length : Int)))] (ar (ar (ar trivial))) fun j => ?_
  rcases ite_some hF with ⟨hb3, hF⟩ | ⟨hb3, hF⟩
  · refine wpn_cT (congrArg Value.bool hb3) ?_
    refine wpn_assoc ?_
    refine wpn_qa hO [] [(4, .bool false)] (ar trivial) fun j => ?_
    refine wpn_rt ?_
    injection hF with hF
    subst hF
    exact hQ _ _ _ _ _ rfl hO hL ⟨rfl, rfl⟩
  · refine wpn_cF (congrArg Value.bool hb3) ?_
    refine wpn_sk ?_
    refine wpn_assoc ?_
    refine wpn_qa hO [] [(0, .slice A0 p0.length c0), (1, .slice A1 p1.length c1), (5, .int .i64 0)] (ar (ar (ar trivial))) fun j => ?_
    refine wpn_bl ?_
    refine wpn_lp (fun (n : Nat) e' σ' => ∃ (x20 : Int) (τ' : Hp), agr [(0, .slice A0 p0.length c0), (1, .slice A1 p1.length c1), (5, .int .i64 x20)] e' ∧ Obs τ' σ' [] ∧ Hp.le τ τ' ∧ RdT zd τ' (.slice A0 p0.length c0) p0 ∧ RdT zd τ' (.slice A1 p1.length c1) p1 ∧ z0 p0 p1 n x20 = some rr) big ⟨0, _, ar (ar (ar trivial)), hO, hL, r0, r1, hF⟩ ?_
    clear hF hO hL
    rintro n33 e σ ⟨x20, _, hA, hO, hL, r18, r19, hF⟩
    rw [← sets_agr _ _ hA]
    cases n33 with
    | zero => exact nomatch (show none = some rr from hF)
    | succ n33 =>
      replace hF : zP (z0 p0 p1 n33) p0 p1 x20 = some rr := hF
      unfold zP at hF
      refine wpn_assoc ?_
      refine wpn_qa hO [] [(0, .slice A0 p0.length c0), (1, .slice A1 p1.length c1), (5, .int .i64 x20), (14, .bool (decide (x20 < (p0.length : Int))))] (ar (ar (ar (ar trivial)))) fun j => ?_
      rcases ite_some hF with ⟨hb34, hF⟩ | ⟨hb34, hF⟩
      · refine wpn_cT (congrArg Value.bool hb34) ?_
        refine wpn_sk ?_
        refine wpn_bl ?_
        refine wpn_p2r ?_
        refine wpn_q hO 2 [] [(0, .slice A0 p0.length c0), (1, .slice A1 p1.length c1), (5, .int .i64 x20), (17, .slice A0 p0.length c0), (18, .int .i64 x20)] (ar (ar (ar (ar (ar trivial))))) fun j => ?_
        obtain ⟨y35, g36, hF⟩ := bind_some hF
        refine wpn_idx (T := zd) r18 hO.base rfl rfl g36 (by decide) fun a37 _ k38 m39 => ?_
        obtain rfl : _ = ([.int .u8 y35.Kind.toNat, .int .i64 y35.N] : List Value) := k38
        refine wpn_ld rfl ((m39.le hO.base).all rfl) ?_
        refine wpn_q hO 2 [] [(0, .slice A0 p0.length c0), (1, .slice A1 p1.length c1), (5, .int .i64 x20), (20, .agg #[(.int .u8 (y35.Kind.toNat : Int)), (.int .i64 y35.N)]), (21, .slice A1 p1.length c1), (22, .int .i64 x20)] (ar (ar (ar (ar (ar (ar trivial)))))) fun j => ?_
        obtain ⟨y40, g41, hF⟩ := bind_some hF
        refine wpn_idx (T := zd) r19 hO.base rfl rfl g41 (by decide) fun a42 _ k43 m44 => ?_
        obtain rfl : _ = ([.int .u8 y40.Kind.toNat, .int .i64 y40.N] : List Value) := k43
        refine wpn_ld rfl ((m44.le hO.base).all rfl) ?_
        refine wpn_qa hO [] [(0, .slice A0 p0.length c0), (1, .slice A1 p1.length c1), (5, .int .i64 x20), (25, .bool (!(( (y35.Kind.toNat : Int) == (y40.Kind.toNat : Int)) && (( y35.N == y40.N) && true))))] (ar (ar (ar (ar trivial)))) fun j => ?_
        refine wpn_clast ?_
        rcases ite_some hF with ⟨hb45, hF⟩ | ⟨hb45, hF⟩
        · refine wpn_cT (congrArg Value.bool hb45) ?_
          refine wpn_assoc ?_
          refine wpn_qa hO [] [(4, .bool false)] (ar trivial) fun j => ?_
          refine wpn_rt ?_
          refine inb_r1 ?_
          refine thn_r1 ?_
          refine thn_r1 ?_
          refine inb_r1 ?_
          refine thn_r1 ?_
          injection hF with hF
          subst hF
          exact hQ _ _ _ _ _ rfl hO hL ⟨rfl, rfl⟩
        · refine wpn_cF (congrArg Value.bool hb45) ?_
          refine wpn_sk ?_
          refine wpn_end ?_
          refine inb_i ?_
          refine thn_i ?_
          refine wpn_rlast ?_
          refine wpn_qa hO [] [(0, .slice A0 p0.length c0), (1, .slice A1 p1.length c1), (5, .int .i64 (IntKind.i64.wrap (x20 + 1)))] (ar (ar (ar trivial))) fun j => ?_
          refine wpn_end ?_
          refine thn_i ?_
          exact ⟨n33, Nat.lt_succ_self _, (IntKind.i64.wrap (x20 + 1)), _, ar (ar (ar trivial)), hO, hL, r18, r19, hF⟩
      · refine wpn_cF (congrArg Value.bool hb34) ?_
        refine wpn_ex ?_
        refine thn_x ?_
        refine inb_x ?_
        refine thn_i ?_
        refine wpn_qa hO [] [(4, .bool true)] (ar trivial) fun j => ?_
        refine wpn_r1 ?_
        injection hF with hF
        subst hF
        exact hQ _ _ _ _ _ rfl hO hL ⟨rfl, rfl⟩
theorem zcO {τ : Hp} {v0 : Value} {p0 : (List za)} {v1 : Value} {p1 : (List za)} (r0 : RdT zc τ v0 p0) (r1 : RdT zc τ v1 p1) {rr : Bool} (hF : zbB p0 p1 = some rr) :
    Ctr Try.prog 16 #[v0, v1] τ [] (fun v τ' vs' => v = .bool rr ∧ vs' = []) := by
  obtain ⟨A0, c0, rfl, -⟩ := r0.form
  obtain ⟨A1, c1, rfl, -⟩ := r1.form
  refine ctr_of (args := [.slice A0 p0.length c0, .slice A1 p1.length c1]) hm Try.func16 s16 rfl fun w0 σ hO Q hQ => ?_
  unfold zbB at hF
  have hL := Hp.le.refl τ
  show wpn _ _ a16.body _ _ _
  unfold a16
  dsimp only
  refine wpn_qa hO [] [(0, .slice A0 p0.length c0), (1, .slice A1 p1.length c1)] (ar (ar trivial)) fun j => ?_
  refine wpn_assoc ?_
  refine wpn_qa hO [] [(0, .slice A0 p0.length c0), (1, .slice A1 p1.length c1), (10, .bool ((p0.length : Int) != (p1.length : Int)))] (ar (ar (ar trivial))) fun j => ?_
  rcases ite_some hF with ⟨hb3, hF⟩ | ⟨hb3, hF⟩
  · refine wpn_cT (congrArg Value.bool hb3) ?_
    refine wpn_assoc ?_
    refine wpn_qa hO [] [(4, .bool false)] (ar trivial) fun j => ?_
    refine wpn_rt ?_
    injection hF with hF
    subst hF
    exact hQ _ _ _ _ _ rfl hO hL ⟨rfl, rfl⟩
  · refine wpn_cF (congrArg Value.bool hb3) ?_
    refine wpn_sk ?_
    refine wpn_assoc ?_
    refine wpn_qa hO [] [(0, .slice A0 p0.length c0), (1, .slice A1 p1.length c1), (5, .int .i64 0)] (ar (ar (ar trivial))) fun j => ?_
    refine wpn_bl ?_
    refine wpn_lp (fun (n : Nat) e' σ' => ∃ (x74 : Int) (τ' : Hp), agr [(0, .slice A0 p0.length c0), (1, .slice A1 p1.length c1), (5, .int .i64 x74)] e' ∧ Obs τ' σ' [] ∧ Hp.le τ τ' ∧ RdT zc τ' (.slice A0 p0.length c0) p0 ∧ RdT zc τ' (.slice A1 p1.length c1) p1 ∧ z5 p0 p1 n x74 = some rr) big ⟨0, _, ar (ar (ar trivial)), hO, hL, r0, r1, hF⟩ ?_
    clear hF hO hL
    rintro n141 e σ ⟨x74, _, hA, hO, hL, r72, r73, hF⟩
    rw [← sets_agr _ _ hA]
    cases n141 with
    | zero => exact nomatch (show none = some rr from hF)
    | succ n141 =>
      replace hF : zbw (z5 p0 p1 n141) p0 p1 x74 = some rr := hF
      unfold zbw at hF
      refine wpn_assoc ?_
      refine wpn_qa hO [] [(0, .slice A0 p0.length c0), (1, .slice A1 p1.length c1), (5, .int .i64 x74), (14, .bool (decide (x74 < (p0.length : Int))))] (ar (ar (ar (ar trivial)))) fun j => ?_
      rcases ite_some hF with ⟨hb142, hF⟩ | ⟨hb142, hF⟩
      · refine wpn_cT (congrArg Value.bool hb142) ?_
        refine wpn_sk ?_
        refine wpn_bl ?_
        refine wpn_p2r ?_
        refine wpn_q hO 2 [] [(0, .slice A0 p0.length c0), (1, .slice A1 p1.length c1), (5, .int .i64 x74), (17, .slice A0 p0.length c0), (18, .int .i64 x74)] (ar (ar (ar (ar (ar trivial))))) fun j => ?_
        obtain ⟨y143, g144, hF⟩ := bind_some hF
        refine wpn_idx (T := zc) r72 hO.base rfl rfl g144 (by decide) fun a145 _ k146 m147 => ?_
        obtain ⟨v148, rfl, r149⟩ := k146
        obtain ⟨A150, c151, rfl, -⟩ := r149.form
        refine wpn_q hO 1 [] [(0, .slice A0 p0.length c0), (1, .slice A1 p1.length c1), (5, .int .i64 x74), (20, .pointer (some a145))] (ar (ar (ar (ar trivial)))) fun j => ?_
        refine wpn_ld rfl (m147.le hO.base).fst ?_
        refine wpn_q hO 2 [] [(0, .slice A0 p0.length c0), (1, .slice A1 p1.length c1), (5, .int .i64 x74), (21, .int .i64 y143.From), (22, .slice A1 p1.length c1), (23, .int .i64 x74)] (ar (ar (ar (ar (ar (ar trivial)))))) fun j => ?_
        obtain ⟨y152, g153, hF⟩ := bind_some hF
        refine wpn_idx (T := zc) r73 hO.base rfl rfl g153 (by decide) fun a154 _ k155 m156 => ?_
        obtain ⟨v157, rfl, r158⟩ := k155
        obtain ⟨A159, c160, rfl, -⟩ := r158.form
        refine wpn_q hO 1 [] [(0, .slice A0 p0.length c0), (1, .slice A1 p1.length c1), (5, .int .i64 x74), (21, .int .i64 y143.From), (25, .pointer (some a154))] (ar (ar (ar (ar (ar trivial))))) fun j => ?_
        refine wpn_ld rfl (m156.le hO.base).fst ?_
        refine wpn_q hO 2 [] [(0, .slice A0 p0.length c0), (1, .slice A1 p1.length c1), (5, .int .i64 x74), (28, .bool (y143.From != y152.From))] (ar (ar (ar (ar trivial)))) fun j => ?_
        obtain ⟨c161, h162, hF⟩ := bind_some hF
        refine wpn_midq 2 [(40, .bool c161), (0, .slice A0 p0.length c0), (1, .slice A1 p1.length c1), (5, .int .i64 x74)] (fun Q hQ => ?_) fun j => ?_
        · have hF := h162
          rcases ite_some hF with ⟨hb163, hF⟩ | ⟨hb163, hF⟩
          · refine wpn_gF (congrArg (fun x => isB (.bool x) false) hb163) ?_
            refine wpn_pk (congrArg Value.bool hb163) ?_
            refine wpn_nil ?_
            injection hF with hF
            subst hF
            refine wpn_end ?_
            exact hQ _ (ar (ar (ar (ar trivial))))
          · refine wpn_gT (congrArg (fun x => isB (.bool x) false) hb163) ?_
            refine wpn_q hO 2 [] [(0, .slice A0 p0.length c0), (1, .slice A1 p1.length c1), (5, .int .i64 x74), (28, .bool (y143.From != y152.From)), (29, .slice A0 p0.length c0), (30, .int .i64 x74)] (ar (ar (ar (ar (ar (ar trivial)))))) fun j => ?_
            obtain ⟨y164, g165, hF⟩ := bind_some hF
            refine wpn_idx (T := zc) r72 hO.base rfl rfl g165 (by decide) fun a166 _ k167 m168 => ?_
            obtain ⟨v169, rfl, r170⟩ := k167
            obtain ⟨A171, c172, rfl, -⟩ := r170.form
            refine wpn_q hO 1 [] [(0, .slice A0 p0.length c0), (1, .slice A1 p1.length c1), (5, .int .i64 x74), (28, .bool (y143.From != y152.From)), (32, .pointer (some (a166.add 1)))] (ar (ar (ar (ar (ar trivial))))) fun j => ?_
            refine wpn_ld rfl ((m168.le hO.base).one 1 rfl) ?_
            refine wpn_q hO 2 [] [(0, .slice A0 p0.length c0), (1, .slice A1 p1.length c1), (5, .int .i64 x74), (28, .bool (y143.From != y152.From)), (33, .int .i64 y164.To), (34, .slice A1 p1.length c1), (35, .int .i64 x74)] (ar (ar (ar (ar (ar (ar (ar trivial))))))) fun j => ?_
            obtain ⟨y173, g174, hF⟩ := bind_some hF
            refine wpn_idx (T := zc) r73 hO.base rfl rfl g174 (by decide) fun a175 _ k176 m177 => ?_
            obtain ⟨v178, rfl, r179⟩ := k176
            obtain ⟨A180, c181, rfl, -⟩ := r179.form
            refine wpn_q hO 1 [] [(0, .slice A0 p0.length c0), (1, .slice A1 p1.length c1), (5, .int .i64 x74), (28, .bool (y143.From != y152.From)), (33, .int .i64 y164.To), (37, .pointer (some (a175.add 1)))] (ar (ar (ar (ar (ar (ar trivial)))))) fun j => ?_
            refine wpn_ld rfl ((m177.le hO.base).one 1 rfl) ?_
            refine wpn_q hO 1 [] [(0, .slice A0 p0.length c0), (1, .slice A1 p1.length c1), (5, .int .i64 x74), (28, .bool (y143.From != y152.From)), (39, .bool (y164.To != y173.To))] (ar (ar (ar (ar (ar trivial))))) fun j => ?_
            refine wpn_pk (congrArg Value.bool hb163) ?_
            refine wpn_nil ?_
            injection hF with hF
            subst hF
            refine wpn_end ?_
            exact hQ _ (ar (ar (ar (ar trivial))))
        · refine wpn_q hO 1 [] [(0, .slice A0 p0.length c0), (1, .slice A1 p1.length c1), (5, .int .i64 x74), (41, .bool c161)] (ar (ar (ar (ar trivial)))) fun j => ?_
          obtain ⟨c182, h183, hF⟩ := bind_some hF
          refine wpn_mid 2 (fun e' σ' => ∃ (τ' : Hp), agr [(54, .bool c182), (0, .slice A0 p0.length c0), (1, .slice A1 p1.length c1), (5, .int .i64 x74)] e' ∧ Obs τ' σ' [] ∧ Hp.le τ τ' ∧ RdT zc τ' (.slice A0 p0.length c0) p0 ∧ RdT zc τ' (.slice A1 p1.length c1) p1) ?_ ?_
          · have hF := h183
            rcases ite_some hF with ⟨hb184, hF⟩ | ⟨hb184, hF⟩
            · refine wpn_gF (congrArg (fun x => isB (.bool x) false) hb184) ?_
              refine wpn_pk (congrArg Value.bool hb184) ?_
              refine wpn_nil ?_
              injection hF with hF
              subst hF
              refine wpn_end ?_
              exact ⟨rfl, _, ar (ar (ar (ar trivial))), hO, hL, r72, r73⟩
            · refine wpn_gT (congrArg (fun x => isB (.bool x) false) hb184) ?_
              refine wpn_q hO 2 [] [(0, .slice A0 p0.length c0), (1, .slice A1 p1.length c1), (5, .int .i64 x74), (41, .bool c161), (42, .slice A0 p0.length c0), (43, .int .i64 x74)] (ar (ar (ar (ar (ar (ar trivial)))))) fun j => ?_
              obtain ⟨y185, g186, hF⟩ := bind_some hF
              refine wpn_idx (T := zc) r72 hO.base rfl rfl g186 (by decide) fun a187 _ k188 m189 => ?_
              obtain ⟨v190, rfl, r191⟩ := k188
              obtain ⟨A192, c193, rfl, -⟩ := r191.form
              refine wpn_q hO 1 [] [(0, .slice A0 p0.length c0), (1, .slice A1 p1.length c1), (5, .int .i64 x74), (41, .bool c161), (45, .pointer (some (a187.add 2)))] (ar (ar (ar (ar (ar trivial))))) fun j => ?_
              refine wpn_ld rfl ((m189.le hO.base).one 2 rfl) ?_
              refine wpn_q hO 2 [] [(0, .slice A0 p0.length c0), (1, .slice A1 p1.length c1), (5, .int .i64 x74), (41, .bool c161), (46, .slice A192 y185.At.length c193), (47, .slice A1 p1.length c1), (48, .int .i64 x74)] (ar (ar (ar (ar (ar (ar (ar trivial))))))) fun j => ?_
              obtain ⟨y194, g195, hF⟩ := bind_some hF
              refine wpn_idx (T := zc) r73 hO.base rfl rfl g195 (by decide) fun a196 _ k197 m198 => ?_
              obtain ⟨v199, rfl, r200⟩ := k197
              obtain ⟨A201, c202, rfl, -⟩ := r200.form
              refine wpn_q hO 1 [] [(0, .slice A0 p0.length c0), (1, .slice A1 p1.length c1), (5, .int .i64 x74), (41, .bool c161), (46, .slice A192 y185.At.length c193), (50, .pointer (some (a196.add 2)))] (ar (ar (ar (ar (ar (ar trivial)))))) fun j => ?_
              refine wpn_ld rfl ((m198.le hO.base).one 2 rfl) ?_
              obtain ⟨c203, h204, hF⟩ := bind_some hF
              refine wpn_c0 hO (zbG r191 r200 h204) rfl fun _ σ _ _ hO h205 h206 => ?_
              have hL := hL.trans h205
              have r72 := r72.le h205
              have r73 := r73.le h205
              have r191 := r191.le h205
              have m198 := m198.le h205
              have r200 := r200.le h205
              obtain ⟨rfl, rfl⟩ := h206
              have hO : Obs _ _ [] := hO
              refine wpn_q hO 1 [] [(0, .slice A0 p0.length c0), (1, .slice A1 p1.length c1), (5, .int .i64 x74), (41, .bool c161), (53, .bool (!c203))] (ar (ar (ar (ar (ar trivial))))) fun j => ?_
              refine wpn_pk (congrArg Value.bool hb184) ?_
              refine wpn_nil ?_
              injection hF with hF
              subst hF
              refine wpn_end ?_
              exact ⟨rfl, _, ar (ar (ar (ar trivial))), hO, hL, r72, r73⟩
          · rintro e σ ⟨_, hA, hO, hL, r72, r73⟩
            rw [← sets_agr _ _ hA]
            refine wpn_nil ?_
            refine wpn_clast ?_
            rcases ite_some hF with ⟨hb207, hF⟩ | ⟨hb207, hF⟩
            · refine wpn_cT (congrArg Value.bool hb207) ?_
              refine wpn_assoc ?_
              refine wpn_qa hO [] [(4, .bool false)] (ar trivial) fun j => ?_
              refine wpn_rt ?_
              refine inb_r1 ?_
              refine thn_r1 ?_
              refine thn_r1 ?_
              refine inb_r1 ?_
              refine thn_r1 ?_
              injection hF with hF
              subst hF
              exact hQ _ _ _ _ _ rfl hO hL ⟨rfl, rfl⟩
            · refine wpn_cF (congrArg Value.bool hb207) ?_
              refine wpn_sk ?_
              refine wpn_end ?_
              refine inb_i ?_
              refine thn_i ?_
              refine wpn_rlast ?_
              refine wpn_qa hO [] [(0, .slice A0 p0.length c0), (1, .slice A1 p1.length c1), (5, .int .i64 (IntKind.i64.wrap (x74 + 1)))] (ar (ar (ar trivial))) fun j => ?_
              refine wpn_end ?_
              refine thn_i ?_
              exact ⟨n141, Nat.lt_succ_self _, (IntKind.i64.wrap (x74 + 1)), _, ar (ar (ar trivial)), hO, hL, r72, r73, hF⟩
      · refine wpn_cF (congrArg Value.bool hb142) ?_
        refine wpn_ex ?_
        refine thn_x ?_
        refine inb_x ?_
        refine thn_i ?_
        refine wpn_qa hO [] [(4, .bool true)] (ar trivial) fun j => ?_
        refine wpn_r1 ?_
        injection hF with hF
        subst hF
        exact hQ _ _ _ _ _ rfl hO hL ⟨rfl, rfl⟩
theorem zb6 {τ : Hp} {v0 : Value} {p0 : (List UInt8)} (r0 : RdT Ty.u8 τ v0 p0) {rr : Int × Int} (hF : z6 p0 = some rr) :
    Ctr Try.prog 61 #[v0] τ [] (fun v τ' vs' => v = .tuple #[.int .u64 rr.1, .int .i64 rr.2] ∧ vs' = []) := by
  obtain ⟨A0, c0, rfl, -⟩ := r0.form
  refine ctr_of (args := [.slice A0 p0.length c0]) hm Try.func61 s61 rfl fun w0 σ hO Q hQ => ?_
  unfold z6 at hF
  have hL := Hp.le.refl τ
  show wpn _ _ a61.body _ _ _
  unfold a61
  dsimp only
  refine wpn_qa hO [] [(0, .slice A0 p0.length c0), (2, .int .u64 0)] (ar (ar trivial)) fun j => ?_
  refine wpn_assoc ?_
  refine wpn_qa hO [] [(0, .slice A0 p0.length c0), (2, .int .u64 0), (7, .int .i64 (minI (p0.length : Int) 10)), (8, .int .i64 0)] (ar (ar (ar (ar trivial)))) fun j => ?_
  refine wpn_bl ?_
  refine wpn_lp (fun (n : Nat) e' σ' => ∃ (x18 : Int) (x19 : Int) (τ' : Hp), agr [(0, .slice A0 p0.length c0), (2, .int .u64 x18), (7, .int .i64 (minI (p0.length : Int) 10)), (8, .int .i64 x19)] e' ∧ Obs τ' σ' [] ∧ Hp.le τ τ' ∧ RdT Ty.u8 τ' (.slice A0 p0.length c0) p0 ∧ z1 p0 n x18 x19 = some rr) big ⟨0, 0, _, ar (ar (ar (ar trivial))), hO, hL, r0, hF⟩ ?_
  clear hF hO hL
  rintro n34 e σ ⟨x18, x19, _, hA, hO, hL, r17, hF⟩
  rw [← sets_agr _ _ hA]
  cases n34 with
  | zero => exact nomatch (show none = some rr from hF)
  | succ n34 =>
    replace hF : zbS (z1 p0 n34) p0 x18 x19 = some rr := hF
    unfold zbS at hF
    refine wpn_qa hO [] [(0, .slice A0 p0.length c0), (2, .int .u64 x18), (7, .int .i64 (minI (p0.length : Int) 10)), (8, .int .i64 x19), (9, .bool (decide (x19 < (minI (p0.length : Int) 10))))] (ar (ar (ar (ar (ar trivial))))) fun j => ?_
    rcases ite_some hF with ⟨hb35, hF⟩ | ⟨hb35, hF⟩
    · refine wpn_cT (congrArg Value.bool hb35) ?_
      refine wpn_sk ?_
      refine wpn_bl ?_
      refine wpn_qa hO [] [(0, .slice A0 p0.length c0), (2, .int .u64 x18), (4, .int .i64 x19), (7, .int .i64 (minI (p0.length : Int) 10)), (8, .int .i64 x19)] (ar (ar (ar (ar (ar trivial))))) fun j => ?_
      refine wpn_q hO 3 [] [(0, .slice A0 p0.length c0), (4, .int .i64 x19), (7, .int .i64 (minI (p0.length : Int) 10)), (8, .int .i64 x19), (11, .int .u64 x18), (12, .slice A0 p0.length c0), (13, .int .i64 x19)] (ar (ar (ar (ar (ar (ar (ar trivial))))))) fun j => ?_
      obtain ⟨y36, g37, hF⟩ := bind_some hF
      refine wpn_idx (T := Ty.u8) r17 hO.base rfl rfl g37 (by decide) fun a38 _ k39 m40 => ?_
      obtain rfl : _ = ([.int .u8 y36.toNat] : List Value) := k39
      refine wpn_ld rfl (m40.le hO.base).fst ?_
      refine wpn_q hO 4 [] [(0, .slice A0 p0.length c0), (4, .int .i64 x19), (7, .int .i64 (minI (p0.length : Int) 10)), (8, .int .i64 x19), (11, .int .u64 x18), (17, .int .u64 (IntKind.u64.wrap (andI .u8 (y36.toNat : Int) 127))), (19, .int .i64 (IntKind.i64.wrap (7 * x19)))] (ar (ar (ar (ar (ar (ar (ar trivial))))))) fun j => ?_
      obtain ⟨y41, g42, hF⟩ := bind_some hF
      refine wpn_bn (shlO_bin g42) ?_
      refine wpn_qa hO [] [(0, .slice A0 p0.length c0), (2, .int .u64 (orI .u64 x18 y41)), (4, .int .i64 x19), (7, .int .i64 (minI (p0.length : Int) 10)), (8, .int .i64 x19)] (ar (ar (ar (ar (ar trivial))))) fun j => ?_
      refine wpn_q hO 2 [] [(0, .slice A0 p0.length c0), (2, .int .u64 (orI .u64 x18 y41)), (4, .int .i64 x19), (7, .int .i64 (minI (p0.length : Int) 10)), (8, .int .i64 x19), (22, .slice A0 p0.length c0), (23, .int .i64 x19)] (ar (ar (ar (ar (ar (ar (ar trivial))))))) fun j => ?_
      obtain ⟨y43, g44, hF⟩ := bind_some hF
      refine wpn_idx (T := Ty.u8) r17 hO.base rfl rfl g44 (by decide) fun a45 _ k46 m47 => ?_
      obtain rfl : _ = ([.int .u8 y43.toNat] : List Value) := k46
      refine wpn_ld rfl (m47.le hO.base).fst ?_
      refine wpn_qa hO [] [(0, .slice A0 p0.length c0), (2, .int .u64 (orI .u64 x18 y41)), (4, .int .i64 x19), (7, .int .i64 (minI (p0.length : Int) 10)), (8, .int .i64 x19), (26, .bool (decide ((y43.toNat : Int) < 128)))] (ar (ar (ar (ar (ar (ar trivial)))))) fun j => ?_
      refine wpn_clast ?_
      rcases ite_some hF with ⟨hb48, hF⟩ | ⟨hb48, hF⟩
      · refine wpn_cT (congrArg Value.bool hb48) ?_
        refine wpn_assoc ?_
        refine wpn_qa hO [] [(2, .int .u64 (orI .u64 x18 y41)), (3, .int .i64 (IntKind.i64.wrap (x19 + 1)))] (ar (ar trivial)) fun j => ?_
        refine wpn_rt ?_
        refine inb_r1 ?_
        refine thn_r1 ?_
        refine thn_r1 ?_
        refine inb_r1 ?_
        refine thn_r1 ?_
        injection hF with hF
        subst hF
        exact hQ _ _ _ _ _ rfl hO hL ⟨rfl, rfl⟩
      · refine wpn_cF (congrArg Value.bool hb48) ?_
        refine wpn_sk ?_
        refine wpn_end ?_
        refine inb_i ?_
        refine thn_i ?_
        refine wpn_rlast ?_
        refine wpn_qa hO [] [(0, .slice A0 p0.length c0), (2, .int .u64 (orI .u64 x18 y41)), (7, .int .i64 (minI (p0.length : Int) 10)), (8, .int .i64 (IntKind.i64.wrap (x19 + 1)))] (ar (ar (ar (ar trivial)))) fun j => ?_
        refine wpn_end ?_
        refine thn_i ?_
        exact ⟨n34, Nat.lt_succ_self _, (orI .u64 x18 y41), (IntKind.i64.wrap (x19 + 1)), _, ar (ar (ar (ar trivial))), hO, hL, r17, hF⟩
    · refine wpn_cF (congrArg Value.bool hb35) ?_
      refine wpn_ex ?_
      refine thn_x ?_
      refine inb_x ?_
      refine thn_i ?_
      refine wpn_qa hO [] [(2, .int .u64 0), (3, .int .i64 0)] (ar (ar trivial)) fun j => ?_
      refine wpn_r1 ?_
      injection hF with hF
      subst hF
      exact hQ _ _ _ _ _ rfl hO hL ⟨rfl, rfl⟩
theorem zb7 {τ : Hp} {v0 : Value} {p0 : (List UInt8)} {v1 : Value} {p1 : (List UInt8)} (r0 : RdT Ty.u8 τ v0 p0) (r1 : RdT Ty.u8 τ v1 p1) {rr : Bool} (hF : zbo p0 p1 = some rr) :
    Ctr Try.prog 62 #[v0, v1] τ [] (fun v τ' vs' => v = .bool rr ∧ vs' = []) := by
  obtain ⟨A0, c0, rfl, -⟩ := r0.form
  obtain ⟨A1, c1, rfl, -⟩ := r1.form
  refine ctr_of (args := [.slice A0 p0.length c0, .slice A1 p1.length c1]) hm Try.func62 s62 rfl fun w0 σ hO Q hQ => ?_
  unfold zbo at hF
  have hL := Hp.le.refl τ
  show wpn _ _ a62.body _ _ _
  unfold a62
  dsimp only
  refine wpn_qa hO [] [(0, .slice A0 p0.length c0), (1, .slice A1 p1.length c1)] (ar (ar trivial)) fun j => ?_
  refine wpn_assoc ?_
  refine wpn_qa hO [] [(0, .slice A0 p0.length c0), (1, .slice A1 p1.length c1), (10, .bool ((p0.length : Int) != (p1.length : Int)))] (ar (ar (ar trivial))) fun j => ?_
  rcases ite_some hF with ⟨hb3, hF⟩ | ⟨hb3, hF⟩
  · refine wpn_cT (congrArg Value.bool hb3) ?_
    refine wpn_assoc ?_
    refine wpn_qa hO [] [(4, .bool false)] (ar trivial) fun j => ?_
    refine wpn_rt ?_
    injection hF with hF
    subst hF
    exact hQ _ _ _ _ _ rfl hO hL ⟨rfl, rfl⟩
  · refine wpn_cF (congrArg Value.bool hb3) ?_
    refine wpn_sk ?_
    refine wpn_assoc ?_
    refine wpn_qa hO [] [(0, .slice A0 p0.length c0), (1, .slice A1 p1.length c1), (12, .int .i64 (p0.length : Int)), (13, .int .i64 0)] (ar (ar (ar (ar trivial)))) fun j => ?_
    refine wpn_bl ?_
    refine wpn_lp (fun (n : Nat) e' σ' => ∃ (x20 : Int) (τ' : Hp), agr [(0, .slice A0 p0.length c0), (1, .slice A1 p1.length c1), (12, .int .i64 (p0.length : Int)), (13, .int .i64 x20)] e' ∧ Obs τ' σ' [] ∧ Hp.le τ τ' ∧ RdT Ty.u8 τ' (.slice A0 p0.length c0) p0 ∧ RdT Ty.u8 τ' (.slice A1 p1.length c1) p1 ∧ zbl p0 p1 n x20 = some rr) big ⟨0, _, ar (ar (ar (ar trivial))), hO, hL, r0, r1, hF⟩ ?_
    clear hF hO hL
    rintro n33 e σ ⟨x20, _, hA, hO, hL, r18, r19, hF⟩
    rw [← sets_agr _ _ hA]
    cases n33 with
    | zero => exact nomatch (show none = some rr from hF)
    | succ n33 =>
      replace hF : zbQ (zbl p0 p1 n33) p0 p1 x20 = some rr := hF
      unfold zbQ at hF
      refine wpn_qa hO [] [(0, .slice A0 p0.length c0), (1, .slice A1 p1.length c1), (12, .int .i64 (p0.length : Int)), (13, .int .i64 x20), (14, .bool (decide (x20 < (p0.length : Int))))] (ar (ar (ar (ar (ar trivial))))) fun j => ?_
      rcases ite_some hF with ⟨hb34, hF⟩ | ⟨hb34, hF⟩
      · refine wpn_cT (congrArg Value.bool hb34) ?_
        refine wpn_sk ?_
        refine wpn_bl ?_
        refine wpn_qa hO [] [(0, .slice A0 p0.length c0), (1, .slice A1 p1.length c1), (5, .int .i64 x20), (12, .int .i64 (p0.length : Int)), (13, .int .i64 x20)] (ar (ar (ar (ar (ar trivial))))) fun j => ?_
        refine wpn_p2r ?_
        refine wpn_q hO 2 [] [(0, .slice A0 p0.length c0), (1, .slice A1 p1.length c1), (5, .int .i64 x20), (12, .int .i64 (p0.length : Int)), (13, .int .i64 x20), (16, .slice A0 p0.length c0), (17, .int .i64 x20)] (ar (ar (ar (ar (ar (ar (ar trivial))))))) fun j => ?_
        obtain ⟨y35, g36, hF⟩ := bind_some hF
        refine wpn_idx (T := Ty.u8) r18 hO.base rfl rfl g36 (by decide) fun a37 _ k38 m39 => ?_
        obtain rfl : _ = ([.int .u8 y35.toNat] : List Value) := k38
        refine wpn_ld rfl (m39.le hO.base).fst ?_
        refine wpn_q hO 2 [] [(0, .slice A0 p0.length c0), (1, .slice A1 p1.length c1), (12, .int .i64 (p0.length : Int)), (13, .int .i64 x20), (19, .int .u8 (y35.toNat : Int)), (20, .slice A1 p1.length c1), (21, .int .i64 x20)] (ar (ar (ar (ar (ar (ar (ar trivial))))))) fun j => ?_
        obtain ⟨y40, g41, hF⟩ := bind_some hF
        refine wpn_idx (T := Ty.u8) r19 hO.base rfl rfl g41 (by decide) fun a42 _ k43 m44 => ?_
        obtain rfl : _ = ([.int .u8 y40.toNat] : List Value) := k43
        refine wpn_ld rfl (m44.le hO.base).fst ?_
        refine wpn_qa hO [] [(0, .slice A0 p0.length c0), (1, .slice A1 p1.length c1), (12, .int .i64 (p0.length : Int)), (13, .int .i64 x20), (24, .bool ((y35.toNat : Int) != (y40.toNat : Int)))] (ar (ar (ar (ar (ar trivial))))) fun j => ?_
        refine wpn_clast ?_
        rcases ite_some hF with ⟨hb45, hF⟩ | ⟨hb45, hF⟩
        · refine wpn_cT (congrArg Value.bool hb45) ?_
          refine wpn_assoc ?_
          refine wpn_qa hO [] [(4, .bool false)] (ar trivial) fun j => ?_
          refine wpn_rt ?_
          refine inb_r1 ?_
          refine thn_r1 ?_
          refine thn_r1 ?_
          refine inb_r1 ?_
          refine thn_r1 ?_
          injection hF with hF
          subst hF
          exact hQ _ _ _ _ _ rfl hO hL ⟨rfl, rfl⟩
        · refine wpn_cF (congrArg Value.bool hb45) ?_
          refine wpn_sk ?_
          refine wpn_end ?_
          refine inb_i ?_
          refine thn_i ?_
          refine wpn_rlast ?_
          refine wpn_qa hO [] [(0, .slice A0 p0.length c0), (1, .slice A1 p1.length c1), (12, .int .i64 (p0.length : Int)), (13, .int .i64 (IntKind.i64.wrap (x20 + 1)))] (ar (ar (ar (ar trivial)))) fun j => ?_
          refine wpn_end ?_
          refine thn_i ?_
          exact ⟨n33, Nat.lt_succ_self _, (IntKind.i64.wrap (x20 + 1)), _, ar (ar (ar (ar trivial))), hO, hL, r18, r19, hF⟩
      · refine wpn_cF (congrArg Value.bool hb34) ?_
        refine wpn_ex ?_
        refine thn_x ?_
        refine inb_x ?_
        refine thn_i ?_
        refine wpn_qa hO [] [(4, .bool true)] (ar trivial) fun j => ?_
        refine wpn_r1 ?_
        injection hF with hF
        subst hF
        exact hQ _ _ _ _ _ rfl hO hL ⟨rfl, rfl⟩
theorem zcK {τ : Hp} {p0 : Int} {p1 : Int}  {rr : Int} (hF : zbH p0 p1 = some rr) :
    Ctr Try.prog 54 #[.int .u64 p0, .int .i64 p1] τ [] (fun v τ' vs' => v = .int .u64 rr ∧ vs' = []) := by
  refine ctr_of (args := [.int .u64 p0, .int .i64 p1]) hm Try.func54 s54 rfl fun w0 σ hO Q hQ => ?_
  unfold zbH at hF
  have hL := Hp.le.refl τ
  show wpn _ _ a54.body _ _ _
  unfold a54
  dsimp only
  refine wpn_qa hO [] [(0, .int .u64 p0)] (ar trivial) fun j => ?_
  refine wpn_qa hO [] [(4, .int .u64 p0)] (ar trivial) fun j => ?_
  refine wpn_r1 ?_
  injection hF with hF
  subst hF
  exact hQ _ _ _ _ _ rfl hO hL ⟨rfl, rfl⟩
theorem zcl {τ : Hp} {v0 : Value} {p0 : (List UInt8)} {p1 : Int} (r0 : RdT Ty.u8 τ v0 p0) {rr : Int × Int × Int} (hF : zbL p0 p1 = some rr) :
    Ctr Try.prog 53 #[v0, .int .i64 p1, .func (.func 54) #[] #[], .func (.func 31) #[] #[]] τ [] (fun v τ' vs' => v = .tuple #[.int .u64 rr.1, .int .i64 rr.2.1, .int .i64 rr.2.2] ∧ vs' = []) := by
  obtain ⟨A0, c0, rfl, -⟩ := r0.form
  refine ctr_of (args := [.slice A0 p0.length c0, .int .i64 p1, .func (.func 54) #[] #[], .func (.func 31) #[] #[]]) hm Try.func53 s53 rfl fun w0 σ hO Q hQ => ?_
  unfold zbL at hF
  have hL := Hp.le.refl τ
  show wpn _ _ a53.body _ _ _
  unfold a53
  dsimp only
  refine wpn_qa hO [] [(0, .slice A0 p0.length c0), (1, .int .i64 p1), (2, .func (.func 54) #[] #[]), (3, .func (.func 31) #[] #[])] (ar (ar (ar (ar trivial)))) fun j => ?_
  refine wpn_assoc ?_
  refine wpn_qa hO [] [(0, .slice A0 p0.length c0), (1, .int .i64 p1), (2, .func (.func 54) #[] #[]), (3, .func (.func 31) #[] #[]), (21, .bool ((decide (p1 < 0)) || (decide (p1 > (p0.length : Int)))))] (And.intro (And.intro rfl rfl) (fun _ => ar (ar (ar (ar (ar trivial)))))) fun j => ?_
  rcases ite_some hF with ⟨hb5, hF⟩ | ⟨hb5, hF⟩
  · refine wpn_cT (congrArg Value.bool hb5) ?_
    refine wpn_assoc ?_
    refine wpn_qa hO [] [(8, .int .u64 0), (9, .int .i64 0), (10, .int .i64 1)] (ar (ar (ar trivial))) fun j => ?_
    refine wpn_rt ?_
    injection hF with hF
    subst hF
    exact hQ _ _ _ _ _ rfl hO hL ⟨rfl, rfl⟩
  · refine wpn_cF (congrArg Value.bool hb5) ?_
    refine wpn_sk ?_
    refine wpn_q hO 2 [] [(0, .slice A0 p0.length c0), (1, .int .i64 p1), (2, .func (.func 54) #[] #[]), (3, .func (.func 31) #[] #[]), (23, .slice A0 p0.length c0), (24, .int .i64 p1)] (ar (ar (ar (ar (ar (ar trivial)))))) fun j => ?_
    obtain ⟨y6, g7, hF⟩ := bind_some hF
    refine wpn_sl (T := Ty.u8) r0 rfl rfl rfl g7 fun _ r8 => ?_
    obtain ⟨A9, c10, rfl, -⟩ := r8.form
    obtain ⟨c11, h12, hF⟩ := bind_some hF
    refine wpn_c0 hO (zb6 r8 h12) rfl fun _ σ _ _ hO h13 h14 => ?_
    have hL := hL.trans h13
    have r0 := r0.le h13
    have r8 := r8.le h13
    obtain ⟨rfl, rfl⟩ := h14
    have hO : Obs _ _ [] := hO
    refine wpn_qa hO [] [(0, .slice A0 p0.length c0), (1, .int .i64 p1), (2, .func (.func 54) #[] #[]), (3, .func (.func 31) #[] #[]), (11, .int .u64 c11.1), (12, .int .i64 c11.2)] (ar (ar (ar (ar (ar (ar trivial)))))) fun j => ?_
    refine wpn_q hO 3 [] [(0, .slice A0 p0.length c0), (1, .int .i64 p1), (3, .func (.func 31) #[] #[]), (12, .int .i64 c11.2), (29, .func (.func 54) #[] #[]), (30, .int .u64 c11.1), (31, .int .i64 c11.2)] (ar (ar (ar (ar (ar (ar (ar trivial))))))) fun j => ?_
    obtain ⟨c15, h16, hF⟩ := bind_some hF
    refine wpn_cv0 rfl (by kernel_rfl) hO (zcK h16) rfl fun _ σ _ _ hO h17 h18 => ?_
    have hL := hL.trans h17
    have r0 := r0.le h17
    obtain ⟨rfl, rfl⟩ := h18
    have hO : Obs _ _ [] := hO
    refine wpn_qa hO [] [(0, .slice A0 p0.length c0), (1, .int .i64 p1), (3, .func (.func 31) #[] #[]), (12, .int .i64 c11.2), (13, .int .u64 c15)] (ar (ar (ar (ar (ar trivial))))) fun j => ?_
    refine wpn_assoc ?_
    refine wpn_p2r ?_
    refine wpn_q hO 3 [] [(0, .slice A0 p0.length c0), (1, .int .i64 p1), (3, .func (.func 31) #[] #[]), (12, .int .i64 c11.2), (13, .int .u64 c15), (35, .bool (c11.2 == 0))] (ar (ar (ar (ar (ar (ar trivial)))))) fun j => ?_
    obtain ⟨c19, h20, hF⟩ := bind_some hF
    refine wpn_mid 2 (fun e' σ' => ∃ (τ' : Hp), agr [(47, .bool c19), (1, .int .i64 p1), (12, .int .i64 c11.2), (13, .int .u64 c15)] e' ∧ Obs τ' σ' [] ∧ Hp.le τ τ') ?_ ?_
    · have hF := h20
      rcases ite_some hF with ⟨hb21, hF⟩ | ⟨hb21, hF⟩
      · refine wpn_gF (congrArg (fun x => isB (.bool x) false) hb21) ?_
        refine wpn_pk (congrArg Value.bool hb21) ?_
        refine wpn_nil ?_
        injection hF with hF
        subst hF
        refine wpn_end ?_
        exact ⟨rfl, _, ar (ar (ar (ar trivial))), hO, hL⟩
      · refine wpn_gT (congrArg (fun x => isB (.bool x) false) hb21) ?_
        refine wpn_q hO 7 [] [(1, .int .i64 p1), (12, .int .i64 c11.2), (13, .int .u64 c15), (35, .bool (c11.2 == 0)), (36, .func (.func 31) #[] #[]), (37, .int .u64 c15), (39, .slice A0 p0.length c0), (40, .int .i64 p1), (43, .int .i64 (IntKind.i64.wrap (p1 + c11.2)))] (ar (ar (ar (ar (ar (ar (ar (ar (ar trivial))))))))) fun j => ?_
        obtain ⟨y22, g23, hF⟩ := bind_some hF
        refine wpn_sl (T := Ty.u8) r0 rfl rfl rfl g23 fun _ r24 => ?_
        obtain ⟨A25, c26, rfl, -⟩ := r24.form
        obtain ⟨c27, h28, hF⟩ := bind_some hF
        refine wpn_cv0 rfl (by kernel_rfl) hO (zz (RdT.nil Ty.u8 _) h28) rfl fun _ σ _ _ hO h29 h30 => ?_
        have hL := hL.trans h29
        have r0 := r0.le h29
        have r24 := r24.le h29
        obtain ⟨v31, o34, rfl, rfl, w35⟩ := h30
        obtain ⟨A32, c33, rfl, -⟩ := w35.form
        have hO : Obs _ _ [_] := hO
        obtain ⟨_, h37, r36, hO⟩ := w35.share hO (i := 0) rfl
        have hL := hL.trans h37
        have r0 := r0.le h37
        have r24 := r24.le h37
        have hO : Obs _ _ [_] := hO
        obtain ⟨c38, h39, hF⟩ := bind_some hF
        refine wpn_c0 hO (zb7 r36 r24 h39) rfl fun _ σ _ _ hO h40 h41 => ?_
        have hL := hL.trans h40
        have r36 := r36.le h40
        have r0 := r0.le h40
        have r24 := r24.le h40
        obtain ⟨rfl, rfl⟩ := h41
        have hO : Obs _ _ [_] := hO
        refine wpn_q hO 1 [] [(1, .int .i64 p1), (12, .int .i64 c11.2), (13, .int .u64 c15), (35, .bool (c11.2 == 0)), (46, .bool (!c38))] (ar (ar (ar (ar (ar trivial))))) fun j => ?_
        refine wpn_pk (congrArg Value.bool hb21) ?_
        refine wpn_nil ?_
        injection hF with hF
        subst hF
        refine wpn_end ?_
        have hO := hO.sel [] (by decide)
        exact ⟨rfl, _, ar (ar (ar (ar trivial))), hO, hL⟩
    · rintro e σ ⟨_, hA, hO, hL⟩
      rw [← sets_agr _ _ hA]
      refine wpn_nil ?_
      rcases ite_some hF with ⟨hb42, hF⟩ | ⟨hb42, hF⟩
      · refine wpn_cT (congrArg Value.bool hb42) ?_
        refine wpn_assoc ?_
        refine wpn_qa hO [] [(8, .int .u64 0), (9, .int .i64 0), (10, .int .i64 5)] (ar (ar (ar trivial))) fun j => ?_
        refine wpn_rt ?_
        injection hF with hF
        subst hF
        exact hQ _ _ _ _ _ rfl hO hL ⟨rfl, rfl⟩
      · refine wpn_cF (congrArg Value.bool hb42) ?_
        refine wpn_sk ?_
        refine wpn_qa hO [] [(8, .int .u64 c15), (9, .int .i64 (IntKind.i64.wrap (p1 + c11.2))), (10, .int .i64 0)] (ar (ar (ar trivial))) fun j => ?_
        refine wpn_r1 ?_
        injection hF with hF
        subst hF
        exact hQ _ _ _ _ _ rfl hO hL ⟨rfl, rfl⟩
theorem z2 {τ : Hp} {v0 : Value} {p0 : (List UInt8)} {p1 : Int} (r0 : RdT Ty.u8 τ v0 p0) {rr : Int × Int × Int} (hF : zr p0 p1 = some rr) :
    Ctr Try.prog 38 #[v0, .int .i64 p1] τ [] (fun v τ' vs' => v = .tuple #[.int .u64 rr.1, .int .i64 rr.2.1, .int .i64 rr.2.2] ∧ vs' = []) := by
  obtain ⟨A0, c0, rfl, -⟩ := r0.form
  refine ctr_of (args := [.slice A0 p0.length c0, .int .i64 p1]) hm Try.func38 s38 rfl fun w0 σ hO Q hQ => ?_
  unfold zr at hF
  have hL := Hp.le.refl τ
  show wpn _ _ a38.body _ _ _
  unfold a38
  dsimp only
  refine wpn_qa hO [] [(0, .slice A0 p0.length c0), (1, .int .i64 p1)] (ar (ar trivial)) fun j => ?_
  refine wpn_q hO 2 [] [(7, .slice A0 p0.length c0), (8, .int .i64 p1)] (ar (ar trivial)) fun j => ?_
  obtain ⟨c3, h4, hF⟩ := bind_some hF
  refine wpn_c0 hO (zcl r0 h4) rfl fun _ σ _ _ hO h5 h6 => ?_
  have hL := hL.trans h5
  have r0 := r0.le h5
  obtain ⟨rfl, rfl⟩ := h6
  have hO : Obs _ _ [] := hO
  refine wpn_qa hO [] [(4, .int .u64 c3.1), (5, .int .i64 c3.2.1), (6, .int .i64 c3.2.2)] (ar (ar (ar trivial))) fun j => ?_
  refine wpn_r1 ?_
  injection hF with hF
  subst hF
  exact hQ _ _ _ _ _ rfl hO hL ⟨rfl, rfl⟩
theorem zco {τ : Hp} {p0 : Int} {p1 : Int}  {rr : Int} (hF : zbv p0 p1 = some rr) :
    Ctr Try.prog 68 #[.int .u64 p0, .int .i64 p1] τ [] (fun v τ' vs' => v = .int .i64 rr ∧ vs' = []) := by
  refine ctr_of (args := [.int .u64 p0, .int .i64 p1]) hm Try.func68 s68 rfl fun w0 σ hO Q hQ => ?_
  unfold zbv at hF
  have hL := Hp.le.refl τ
  show wpn _ _ a68.body _ _ _
  unfold a68
  dsimp only
  refine wpn_qa hO [] [(0, .int .u64 p0), (1, .int .i64 p1)] (ar (ar trivial)) fun j => ?_
  refine wpn_qa hO [] [(0, .int .u64 p0), (5, .int .i64 (maxI 0 (IntKind.i64.wrap (64 - (IntKind.i64.wrap (7 * p1))))))] (ar (ar trivial)) fun j => ?_
  refine wpn_q hO 2 [] [(5, .int .i64 (maxI 0 (IntKind.i64.wrap (64 - (IntKind.i64.wrap (7 * p1)))))), (10, .int .u64 p0), (11, .int .i64 (maxI 0 (IntKind.i64.wrap (64 - (IntKind.i64.wrap (7 * p1))))))] (ar (ar (ar trivial))) fun j => ?_
  obtain ⟨y3, g4, hF⟩ := bind_some hF
  refine wpn_bn (shlO_bin g4) ?_
  refine wpn_q hO 2 [] [(13, .int .i64 (IntKind.i64.wrap y3)), (14, .int .i64 (maxI 0 (IntKind.i64.wrap (64 - (IntKind.i64.wrap (7 * p1))))))] (ar (ar trivial)) fun j => ?_
  obtain ⟨y5, g6, hF⟩ := bind_some hF
  refine wpn_bn (shrO_bin g6) ?_
  refine wpn_qa hO [] [(4, .int .i64 y5)] (ar trivial) fun j => ?_
  refine wpn_r1 ?_
  injection hF with hF
  subst hF
  exact hQ _ _ _ _ _ rfl hO hL ⟨rfl, rfl⟩
theorem zcf {τ : Hp} {v0 : Value} {p0 : (List UInt8)} {p1 : Int} (r0 : RdT Ty.u8 τ v0 p0) {rr : Int × Int × Int} (hF : zbU p0 p1 = some rr) :
    Ctr Try.prog 67 #[v0, .int .i64 p1, .func (.func 68) #[] #[], .func (.func 48) #[] #[]] τ [] (fun v τ' vs' => v = .tuple #[.int .i64 rr.1, .int .i64 rr.2.1, .int .i64 rr.2.2] ∧ vs' = []) := by
  obtain ⟨A0, c0, rfl, -⟩ := r0.form
  refine ctr_of (args := [.slice A0 p0.length c0, .int .i64 p1, .func (.func 68) #[] #[], .func (.func 48) #[] #[]]) hm Try.func67 s67 rfl fun w0 σ hO Q hQ => ?_
  unfold zbU at hF
  have hL := Hp.le.refl τ
  show wpn _ _ a67.body _ _ _
  unfold a67
  dsimp only
  refine wpn_qa hO [] [(0, .slice A0 p0.length c0), (1, .int .i64 p1), (2, .func (.func 68) #[] #[]), (3, .func (.func 48) #[] #[])] (ar (ar (ar (ar trivial)))) fun j => ?_
  refine wpn_assoc ?_
  refine wpn_qa hO [] [(0, .slice A0 p0.length c0), (1, .int .i64 p1), (2, .func (.func 68) #[] #[]), (3, .func (.func 48) #[] #[]), (21, .bool ((decide (p1 < 0)) || (decide (p1 > (p0.length : Int)))))] (And.intro (And.intro rfl rfl) (fun _ => ar (ar (ar (ar (ar trivial)))))) fun j => ?_
  rcases ite_some hF with ⟨hb5, hF⟩ | ⟨hb5, hF⟩
  · refine wpn_cT (congrArg Value.bool hb5) ?_
    refine wpn_assoc ?_
    refine wpn_qa hO [] [(8, .int .i64 0), (9, .int .i64 0), (10, .int .i64 1)] (ar (ar (ar trivial))) fun j => ?_
    refine wpn_rt ?_
    injection hF with hF
    subst hF
    exact hQ _ _ _ _ _ rfl hO hL ⟨rfl, rfl⟩
  · refine wpn_cF (congrArg Value.bool hb5) ?_
    refine wpn_sk ?_
    refine wpn_q hO 2 [] [(0, .slice A0 p0.length c0), (1, .int .i64 p1), (2, .func (.func 68) #[] #[]), (3, .func (.func 48) #[] #[]), (23, .slice A0 p0.length c0), (24, .int .i64 p1)] (ar (ar (ar (ar (ar (ar trivial)))))) fun j => ?_
    obtain ⟨y6, g7, hF⟩ := bind_some hF
    refine wpn_sl (T := Ty.u8) r0 rfl rfl rfl g7 fun _ r8 => ?_
    obtain ⟨A9, c10, rfl, -⟩ := r8.form
    obtain ⟨c11, h12, hF⟩ := bind_some hF
    refine wpn_c0 hO (zb6 r8 h12) rfl fun _ σ _ _ hO h13 h14 => ?_
    have hL := hL.trans h13
    have r0 := r0.le h13
    have r8 := r8.le h13
    obtain ⟨rfl, rfl⟩ := h14
    have hO : Obs _ _ [] := hO
    refine wpn_qa hO [] [(0, .slice A0 p0.length c0), (1, .int .i64 p1), (2, .func (.func 68) #[] #[]), (3, .func (.func 48) #[] #[]), (11, .int .u64 c11.1), (12, .int .i64 c11.2)] (ar (ar (ar (ar (ar (ar trivial)))))) fun j => ?_
    refine wpn_q hO 3 [] [(0, .slice A0 p0.length c0), (1, .int .i64 p1), (3, .func (.func 48) #[] #[]), (12, .int .i64 c11.2), (29, .func (.func 68) #[] #[]), (30, .int .u64 c11.1), (31, .int .i64 c11.2)] (ar (ar (ar (ar (ar (ar (ar trivial))))))) fun j => ?_
    obtain ⟨c15, h16, hF⟩ := bind_some hF
    refine wpn_cv0 rfl (by kernel_rfl) hO (zco h16) rfl fun _ σ _ _ hO h17 h18 => ?_
    have hL := hL.trans h17
    have r0 := r0.le h17
    obtain ⟨rfl, rfl⟩ := h18
    have hO : Obs _ _ [] := hO
    refine wpn_qa hO [] [(0, .slice A0 p0.length c0), (1, .int .i64 p1), (3, .func (.func 48) #[] #[]), (12, .int .i64 c11.2), (13, .int .i64 c15)] (ar (ar (ar (ar (ar trivial))))) fun j => ?_
    refine wpn_assoc ?_
    refine wpn_p2r ?_
    refine wpn_q hO 3 [] [(0, .slice A0 p0.length c0), (1, .int .i64 p1), (3, .func (.func 48) #[] #[]), (12, .int .i64 c11.2), (13, .int .i64 c15), (35, .bool (c11.2 == 0))] (ar (ar (ar (ar (ar (ar trivial)))))) fun j => ?_
    obtain ⟨c19, h20, hF⟩ := bind_some hF
    refine wpn_mid 2 (fun e' σ' => ∃ (τ' : Hp), agr [(47, .bool c19), (1, .int .i64 p1), (12, .int .i64 c11.2), (13, .int .i64 c15)] e' ∧ Obs τ' σ' [] ∧ Hp.le τ τ') ?_ ?_
    · have hF := h20
      rcases ite_some hF with ⟨hb21, hF⟩ | ⟨hb21, hF⟩
      · refine wpn_gF (congrArg (fun x => isB (.bool x) false) hb21) ?_
        refine wpn_pk (congrArg Value.bool hb21) ?_
        refine wpn_nil ?_
        injection hF with hF
        subst hF
        refine wpn_end ?_
        exact ⟨rfl, _, ar (ar (ar (ar trivial))), hO, hL⟩
      · refine wpn_gT (congrArg (fun x => isB (.bool x) false) hb21) ?_
        refine wpn_q hO 7 [] [(1, .int .i64 p1), (12, .int .i64 c11.2), (13, .int .i64 c15), (35, .bool (c11.2 == 0)), (36, .func (.func 48) #[] #[]), (37, .int .i64 c15), (39, .slice A0 p0.length c0), (40, .int .i64 p1), (43, .int .i64 (IntKind.i64.wrap (p1 + c11.2)))] (ar (ar (ar (ar (ar (ar (ar (ar (ar trivial))))))))) fun j => ?_
        obtain ⟨y22, g23, hF⟩ := bind_some hF
        refine wpn_sl (T := Ty.u8) r0 rfl rfl rfl g23 fun _ r24 => ?_
        obtain ⟨A25, c26, rfl, -⟩ := r24.form
        obtain ⟨c27, h28, hF⟩ := bind_some hF
        refine wpn_cv0 rfl (by kernel_rfl) hO (zbX (RdT.nil Ty.u8 _) h28) rfl fun _ σ _ _ hO h29 h30 => ?_
        have hL := hL.trans h29
        have r0 := r0.le h29
        have r24 := r24.le h29
        obtain ⟨v31, o34, rfl, rfl, w35⟩ := h30
        obtain ⟨A32, c33, rfl, -⟩ := w35.form
        have hO : Obs _ _ [_] := hO
        obtain ⟨_, h37, r36, hO⟩ := w35.share hO (i := 0) rfl
        have hL := hL.trans h37
        have r0 := r0.le h37
        have r24 := r24.le h37
        have hO : Obs _ _ [_] := hO
        obtain ⟨c38, h39, hF⟩ := bind_some hF
        refine wpn_c0 hO (zb7 r36 r24 h39) rfl fun _ σ _ _ hO h40 h41 => ?_
        have hL := hL.trans h40
        have r36 := r36.le h40
        have r0 := r0.le h40
        have r24 := r24.le h40
        obtain ⟨rfl, rfl⟩ := h41
        have hO : Obs _ _ [_] := hO
        refine wpn_q hO 1 [] [(1, .int .i64 p1), (12, .int .i64 c11.2), (13, .int .i64 c15), (35, .bool (c11.2 == 0)), (46, .bool (!c38))] (ar (ar (ar (ar (ar trivial))))) fun j => ?_
        refine wpn_pk (congrArg Value.bool hb21) ?_
        refine wpn_nil ?_
        injection hF with hF
        subst hF
        refine wpn_end ?_
        have hO := hO.sel [] (by decide)
        exact ⟨rfl, _, ar (ar (ar (ar trivial))), hO, hL⟩
    · rintro e σ ⟨_, hA, hO, hL⟩
      rw [← sets_agr _ _ hA]
      refine wpn_nil ?_
      rcases ite_some hF with ⟨hb42, hF⟩ | ⟨hb42, hF⟩
      · refine wpn_cT (congrArg Value.bool hb42) ?_
        refine wpn_assoc ?_
        refine wpn_qa hO [] [(8, .int .i64 0), (9, .int .i64 0), (10, .int .i64 5)] (ar (ar (ar trivial))) fun j => ?_
        refine wpn_rt ?_
        injection hF with hF
        subst hF
        exact hQ _ _ _ _ _ rfl hO hL ⟨rfl, rfl⟩
      · refine wpn_cF (congrArg Value.bool hb42) ?_
        refine wpn_sk ?_
        refine wpn_qa hO [] [(8, .int .i64 c15), (9, .int .i64 (IntKind.i64.wrap (p1 + c11.2))), (10, .int .i64 0)] (ar (ar (ar trivial))) fun j => ?_
        refine wpn_r1 ?_
        injection hF with hF
        subst hF
        exact hQ _ _ _ _ _ rfl hO hL ⟨rfl, rfl⟩
theorem zcz {τ : Hp} {v0 : Value} {p0 : (List UInt8)} {p1 : Int} (r0 : RdT Ty.u8 τ v0 p0) {rr : Int × Int × Int} (hF : zbE p0 p1 = some rr) :
    Ctr Try.prog 63 #[v0, .int .i64 p1] τ [] (fun v τ' vs' => v = .tuple #[.int .i64 rr.1, .int .i64 rr.2.1, .int .i64 rr.2.2] ∧ vs' = []) := by
  obtain ⟨A0, c0, rfl, -⟩ := r0.form
  refine ctr_of (args := [.slice A0 p0.length c0, .int .i64 p1]) hm Try.func63 s63 rfl fun w0 σ hO Q hQ => ?_
  unfold zbE at hF
  have hL := Hp.le.refl τ
  show wpn _ _ a63.body _ _ _
  unfold a63
  dsimp only
  refine wpn_qa hO [] [(0, .slice A0 p0.length c0), (1, .int .i64 p1)] (ar (ar trivial)) fun j => ?_
  refine wpn_q hO 2 [] [(7, .slice A0 p0.length c0), (8, .int .i64 p1)] (ar (ar trivial)) fun j => ?_
  obtain ⟨c3, h4, hF⟩ := bind_some hF
  refine wpn_c0 hO (zcf r0 h4) rfl fun _ σ _ _ hO h5 h6 => ?_
  have hL := hL.trans h5
  have r0 := r0.le h5
  obtain ⟨rfl, rfl⟩ := h6
  have hO : Obs _ _ [] := hO
  refine wpn_qa hO [] [(4, .int .i64 c3.1), (5, .int .i64 c3.2.1), (6, .int .i64 c3.2.2)] (ar (ar (ar trivial))) fun j => ?_
  refine wpn_r1 ?_
  injection hF with hF
  subst hF
  exact hQ _ _ _ _ _ rfl hO hL ⟨rfl, rfl⟩
theorem zcq {τ : Hp} {v0 : Value} {p0 : (List UInt8)} {p1 : Int} (r0 : RdT Ty.u8 τ v0 p0) {rr : (List zb) × Int × Int} (hF : zbV p0 p1 = some rr) :
    Ctr Try.prog 55 #[v0, .int .i64 p1] τ [] (fun v τ' vs' => ∃ (v0 : Value), v = .tuple #[v0, .int .i64 rr.2.1, .int .i64 rr.2.2] ∧ vs' = [] ∧ RdT zd τ' v0 rr.1) := by
  obtain ⟨A0, c0, rfl, -⟩ := r0.form
  refine ctr_of (args := [.slice A0 p0.length c0, .int .i64 p1]) hm Try.func55 s55 rfl fun w0 σ hO Q hQ => ?_
  unfold zbV at hF
  have hL := Hp.le.refl τ
  show wpn _ _ a55.body _ _ _
  unfold a55
  dsimp only
  refine wpn_qa hO [] [(0, .slice A0 p0.length c0), (1, .int .i64 p1), (4, .slice none 0 0)] (ar (ar (ar trivial))) fun j => ?_
  refine wpn_assoc ?_
  refine wpn_qa hO [] [(0, .slice A0 p0.length c0), (1, .int .i64 p1), (4, .slice none 0 0), (16, .bool ((decide (p1 < 0)) || (decide (p1 > (p0.length : Int)))))] (And.intro (And.intro rfl rfl) (fun _ => ar (ar (ar (ar trivial))))) fun j => ?_
  rcases ite_some hF with ⟨hb3, hF⟩ | ⟨hb3, hF⟩
  · refine wpn_cT (congrArg Value.bool hb3) ?_
    refine wpn_assoc ?_
    refine wpn_qa hO [] [(4, .slice none 0 0), (5, .int .i64 0), (6, .int .i64 1)] (ar (ar (ar trivial))) fun j => ?_
    refine wpn_rt ?_
    injection hF with hF
    subst hF
    exact hQ _ _ _ _ _ rfl hO hL ⟨_, rfl, rfl, (RdT.nil _ _)⟩
  · refine wpn_cF (congrArg Value.bool hb3) ?_
    refine wpn_sk ?_
    refine wpn_q hO 2 [] [(0, .slice A0 p0.length c0), (4, .slice none 0 0), (18, .slice A0 p0.length c0), (19, .int .i64 p1)] (ar (ar (ar (ar trivial)))) fun j => ?_
    obtain ⟨c4, h5, hF⟩ := bind_some hF
    refine wpn_c0 hO (z2 r0 h5) rfl fun _ σ _ _ hO h6 h7 => ?_
    have hL := hL.trans h6
    have r0 := r0.le h6
    obtain ⟨rfl, rfl⟩ := h7
    have hO : Obs _ _ [] := hO
    refine wpn_qa hO [] [(0, .slice A0 p0.length c0), (4, .slice none 0 0), (5, .int .i64 c4.2.1), (6, .int .i64 c4.2.2), (7, .int .u64 c4.1)] (ar (ar (ar (ar (ar trivial))))) fun j => ?_
    refine wpn_assoc ?_
    refine wpn_qa hO [] [(0, .slice A0 p0.length c0), (4, .slice none 0 0), (5, .int .i64 c4.2.1), (7, .int .u64 c4.1), (29, .bool ((c4.2.2 != 0) || (decide (c4.1 > 16))))] (And.intro (And.intro rfl rfl) (fun _ => ar (ar (ar (ar (ar trivial)))))) fun j => ?_
    rcases ite_some hF with ⟨hb8, hF⟩ | ⟨hb8, hF⟩
    · refine wpn_cT (congrArg Value.bool hb8) ?_
      refine wpn_assoc ?_
      refine wpn_qa hO [] [(4, .slice none 0 0), (5, .int .i64 0), (6, .int .i64 5)] (ar (ar (ar trivial))) fun j => ?_
      refine wpn_rt ?_
      injection hF with hF
      subst hF
      exact hQ _ _ _ _ _ rfl hO hL ⟨_, rfl, rfl, (RdT.nil _ _)⟩
    · refine wpn_cF (congrArg Value.bool hb8) ?_
      refine wpn_sk ?_
      refine wpn_assoc ?_
      refine wpn_qa hO [] [(0, .slice A0 p0.length c0), (4, .slice none 0 0), (5, .int .i64 c4.2.1), (30, .int .u64 c4.1), (31, .int .u64 0)] (ar (ar (ar (ar (ar trivial))))) fun j => ?_
      refine wpn_bl ?_
      have hO := hO.no
      have hO : Obs _ _ [_] := hO
      refine wpn_lp (fun (n : Nat) e' σ' => ∃ (A46 : Option Addr) (c47 : Nat) (o48 : Ob) (x49 : List zb) (x51 : Int) (x52 : Int) (τ' : Hp), agr [(0, .slice A0 p0.length c0), (4, .slice A46 x49.length c47), (5, .int .i64 x51), (30, .int .u64 c4.1), (31, .int .u64 x52)] e' ∧ Obs τ' σ' [o48] ∧ Hp.le τ τ' ∧ RdT Ty.u8 τ' (.slice A0 p0.length c0) p0 ∧ OwnO zd 44 τ' (.slice A46 x49.length c47) x49 o48 ∧ z8 p0 c4 n x49 x51 x52 = some rr) big ⟨none, 0, none, [], c4.2.1, 0, _, ar (ar (ar (ar (ar trivial)))), hO, hL, r0, OwnO.nil _ _ _, hF⟩ ?_
      clear hF hO hL
      rintro n88 e σ ⟨A46, c47, o48, x49, x51, x52, _, hA, hO, hL, r45, w50, hF⟩
      rw [← sets_agr _ _ hA]
      cases n88 with
      | zero => exact nomatch (show none = some rr from hF)
      | succ n88 =>
        replace hF : zbI (z8 p0 c4 n88) p0 c4 x49 x51 x52 = some rr := hF
        unfold zbI at hF
        refine wpn_qa hO [] [(0, .slice A0 p0.length c0), (4, .slice A46 x49.length c47), (5, .int .i64 x51), (30, .int .u64 c4.1), (31, .int .u64 x52), (32, .bool (decide (x52 < c4.1)))] (ar (ar (ar (ar (ar (ar trivial)))))) fun j => ?_
        rcases ite_some hF with ⟨hb89, hF⟩ | ⟨hb89, hF⟩
        · refine wpn_cT (congrArg Value.bool hb89) ?_
          refine wpn_sk ?_
          refine wpn_bl ?_
          refine wpn_assoc ?_
          refine wpn_qa hO [] [(0, .slice A0 p0.length c0), (4, .slice A46 x49.length c47), (5, .int .i64 x51), (30, .int .u64 c4.1), (31, .int .u64 x52), (36, .bool (decide (x51 ≥ (p0.length : Int))))] (ar (ar (ar (ar (ar (ar trivial)))))) fun j => ?_
          rcases ite_some hF with ⟨hb90, hF⟩ | ⟨hb90, hF⟩
          · refine wpn_cT (congrArg Value.bool hb90) ?_
            refine wpn_assoc ?_
            refine wpn_qa hO [] [(4, .slice none 0 0), (5, .int .i64 0), (6, .int .i64 5)] (ar (ar (ar trivial))) fun j => ?_
            refine wpn_rt ?_
            refine inb_r1 ?_
            refine thn_r1 ?_
            refine thn_r1 ?_
            refine inb_r1 ?_
            refine thn_r1 ?_
            injection hF with hF
            subst hF
            have hO := hO.sel [] (by decide)
            exact hQ _ _ _ _ _ rfl hO hL ⟨_, rfl, rfl, (RdT.nil _ _)⟩
          · refine wpn_cF (congrArg Value.bool hb90) ?_
            refine wpn_sk ?_
            refine wpn_q hO 2 [] [(0, .slice A0 p0.length c0), (4, .slice A46 x49.length c47), (5, .int .i64 x51), (30, .int .u64 c4.1), (31, .int .u64 x52), (37, .slice A0 p0.length c0), (38, .int .i64 x51)] (ar (ar (ar (ar (ar (ar (ar trivial))))))) fun j => ?_
            obtain ⟨y91, g92, hF⟩ := bind_some hF
            refine wpn_idx (T := Ty.u8) r45 hO.base rfl rfl g92 (by decide) fun a93 _ k94 m95 => ?_
            obtain rfl : _ = ([.int .u8 y91.toNat] : List Value) := k94
            refine wpn_ld rfl (m95.le hO.base).fst ?_
            refine wpn_q hO 1 [] [(0, .slice A0 p0.length c0), (4, .slice A46 x49.length c47), (5, .int .i64 x51), (30, .int .u64 c4.1), (31, .int .u64 x52), (41, .agg #[(.int .u8 (y91.toNat : Int)), (.int .i64 0)])] (ar (ar (ar (ar (ar (ar trivial)))))) fun j => ?_
            refine wpn_al hO fun b96 σ hO => ?_
            have hO : Obs _ _ [_, _] := hO
            refine wpn_st hO (i := 1) rfl (off := 0) rfl rfl rfl rfl (Nat.le_of_ble_eq_true rfl) rfl fun σ hO => ?_
            have hO : Obs _ _ [_, _] := hO
            refine wpn_nil ?_
            refine wpn_qa hO [] [(0, .slice A0 p0.length c0), (4, .slice A46 x49.length c47), (5, .int .i64 (IntKind.i64.wrap (x51 + 1))), (8, .pointer (some ⟨b96, 0, none⟩)), (30, .int .u64 c4.1), (31, .int .u64 x52)] (ar (ar (ar (ar (ar (ar trivial)))))) fun j => ?_
            refine wpn_assoc ?_
            refine wpn_q hO 2 [1] [(0, .slice A0 p0.length c0), (4, .slice A46 x49.length c47), (5, .int .i64 (IntKind.i64.wrap (x51 + 1))), (8, .pointer (some ⟨b96, 0, none⟩)), (30, .int .u64 c4.1), (31, .int .u64 x52), (45, .int .u8 (y91.toNat : Int))] (And.intro (And.intro rfl rfl) (ar (ar (ar (ar (ar (ar (ar trivial)))))))) fun j => ?_
            obtain ⟨c97, h98, hF⟩ := bind_some hF
            refine wpn_c0 hO (zb5 h98) rfl fun _ σ _ _ hO h99 h100 => ?_
            have hL := hL.trans h99
            have r45 := r45.le h99
            have w50 := w50.le h99
            obtain ⟨rfl, rfl⟩ := h100
            have hO : Obs _ _ [_, _] := hO
            refine wpn_nil ?_
            rcases ite_some hF with ⟨hb101, hF⟩ | ⟨hb101, hF⟩
            · refine wpn_cT (congrArg Value.bool hb101) ?_
              refine wpn_assoc ?_
              refine wpn_q hO 2 [] [(0, .slice A0 p0.length c0), (4, .slice A46 x49.length c47), (8, .pointer (some ⟨b96, 0, none⟩)), (30, .int .u64 c4.1), (31, .int .u64 x52), (48, .slice A0 p0.length c0), (49, .int .i64 (IntKind.i64.wrap (x51 + 1)))] (ar (ar (ar (ar (ar (ar (ar trivial))))))) fun j => ?_
              obtain ⟨c102, h103, hF⟩ := bind_some hF
              refine wpn_c0 hO (zcz r45 h103) rfl fun _ σ _ _ hO h104 h105 => ?_
              have hL := hL.trans h104
              have r45 := r45.le h104
              have w50 := w50.le h104
              obtain ⟨rfl, rfl⟩ := h105
              have hO : Obs _ _ [_, _] := hO
              refine wpn_q hO 5 [] [(0, .slice A0 p0.length c0), (4, .slice A46 x49.length c47), (8, .pointer (some ⟨b96, 0, none⟩)), (30, .int .u64 c4.1), (31, .int .u64 x52), (51, .int .i64 c102.1), (52, .int .i64 c102.2.1), (53, .int .i64 c102.2.2), (54, .pointer (some ⟨b96, 1, none⟩))] (ar (ar (ar (ar (ar (ar (ar (ar (ar trivial))))))))) fun j => ?_
              refine wpn_st hO (i := 1) rfl (off := 1) rfl rfl rfl rfl (Nat.le_of_ble_eq_true rfl) rfl fun σ hO => ?_
              have hO : Obs _ _ [_, _] := hO
              refine wpn_qa hO [] [(0, .slice A0 p0.length c0), (4, .slice A46 x49.length c47), (5, .int .i64 c102.2.1), (6, .int .i64 c102.2.2), (8, .pointer (some ⟨b96, 0, none⟩)), (30, .int .u64 c4.1), (31, .int .u64 x52)] (ar (ar (ar (ar (ar (ar (ar trivial))))))) fun j => ?_
              refine wpn_assoc ?_
              refine wpn_qa hO [] [(0, .slice A0 p0.length c0), (4, .slice A46 x49.length c47), (5, .int .i64 c102.2.1), (8, .pointer (some ⟨b96, 0, none⟩)), (30, .int .u64 c4.1), (31, .int .u64 x52), (56, .bool (c102.2.2 != 0))] (ar (ar (ar (ar (ar (ar (ar trivial))))))) fun j => ?_
              rcases ite_some hF with ⟨hb106, hF⟩ | ⟨hb106, hF⟩
              · refine wpn_cT (congrArg Value.bool hb106) ?_
                refine wpn_assoc ?_
                refine wpn_qa hO [] [(4, .slice none 0 0), (5, .int .i64 0), (6, .int .i64 5)] (ar (ar (ar trivial))) fun j => ?_
                refine wpn_rt ?_
                refine inb_r1 ?_
                refine thn_r1 ?_
                refine thn_r1 ?_
                refine inb_r1 ?_
                refine thn_r1 ?_
                injection hF with hF
                subst hF
                have hO := hO.sel [] (by decide)
                exact hQ _ _ _ _ _ rfl hO hL ⟨_, rfl, rfl, (RdT.nil _ _)⟩
              · refine wpn_cF (congrArg Value.bool hb106) ?_
                refine wpn_sk ?_
                refine wpn_rlast ?_
                refine wpn_q hO 2 [1] [(0, .slice A0 p0.length c0), (5, .int .i64 c102.2.1), (30, .int .u64 c4.1), (31, .int .u64 x52), (57, .slice A46 x49.length c47), (58, .agg #[(.int .u8 (y91.toNat : Int)), (.int .i64 c102.1)])] (And.intro (And.intro rfl rfl) (ar (ar (ar (ar (ar (ar trivial))))))) fun j => ?_
                obtain ⟨_, hr111, hF⟩ := bind_some hF
                refine wpn_ap1 (T := zd) (y := (⟨y91, c102.1⟩ : zb)) hO w50 (i := 0) rfl rfl (fun _ => rfl) rfl rfl rfl hr111 (by decide) fun u _ σ o109 w110 hO => ?_
                obtain ⟨A107, c108, rfl, -⟩ := w110.form
                have hO : Obs _ _ [_, _] := hO
                refine wpn_qa hO [] [(0, .slice A0 p0.length c0), (4, .slice A107 (x49 ++ [(⟨y91, c102.1⟩ : zb)]).length c108), (5, .int .i64 c102.2.1), (30, .int .u64 c4.1), (31, .int .u64 x52)] (ar (ar (ar (ar (ar trivial))))) fun j => ?_
                refine wpn_end ?_
                refine inb_i ?_
                refine thn_i ?_
                refine wpn_rlast ?_
                refine wpn_qa hO [] [(0, .slice A0 p0.length c0), (4, .slice A107 (x49 ++ [(⟨y91, c102.1⟩ : zb)]).length c108), (5, .int .i64 c102.2.1), (30, .int .u64 c4.1), (31, .int .u64 (IntKind.u64.wrap (x52 + 1)))] (ar (ar (ar (ar (ar trivial))))) fun j => ?_
                refine wpn_end ?_
                refine thn_i ?_
                have hO := hO.sel [0] (by decide)
                exact ⟨n88, Nat.lt_succ_self _, A107, c108, o109, (x49 ++ [(⟨y91, c102.1⟩ : zb)]), c102.2.1, (IntKind.u64.wrap (x52 + 1)), _, ar (ar (ar (ar (ar trivial)))), hO, hL, r45, w110, hF⟩
            · refine wpn_cF (congrArg Value.bool hb101) ?_
              refine wpn_sk ?_
              refine wpn_rlast ?_
              refine wpn_q hO 2 [1] [(0, .slice A0 p0.length c0), (5, .int .i64 (IntKind.i64.wrap (x51 + 1))), (30, .int .u64 c4.1), (31, .int .u64 x52), (57, .slice A46 x49.length c47), (58, .agg #[(.int .u8 (y91.toNat : Int)), (.int .i64 0)])] (And.intro (And.intro rfl rfl) (ar (ar (ar (ar (ar (ar trivial))))))) fun j => ?_
              obtain ⟨_, hr116, hF⟩ := bind_some hF
              refine wpn_ap1 (T := zd) (y := (⟨y91, 0⟩ : zb)) hO w50 (i := 0) rfl rfl (fun _ => rfl) rfl rfl rfl hr116 (by decide) fun u _ σ o114 w115 hO => ?_
              obtain ⟨A112, c113, rfl, -⟩ := w115.form
              have hO : Obs _ _ [_, _] := hO
              refine wpn_qa hO [] [(0, .slice A0 p0.length c0), (4, .slice A112 (x49 ++ [(⟨y91, 0⟩ : zb)]).length c113), (5, .int .i64 (IntKind.i64.wrap (x51 + 1))), (30, .int .u64 c4.1), (31, .int .u64 x52)] (ar (ar (ar (ar (ar trivial))))) fun j => ?_
              refine wpn_end ?_
              refine inb_i ?_
              refine thn_i ?_
              refine wpn_rlast ?_
              refine wpn_qa hO [] [(0, .slice A0 p0.length c0), (4, .slice A112 (x49 ++ [(⟨y91, 0⟩ : zb)]).length c113), (5, .int .i64 (IntKind.i64.wrap (x51 + 1))), (30, .int .u64 c4.1), (31, .int .u64 (IntKind.u64.wrap (x52 + 1)))] (ar (ar (ar (ar (ar trivial))))) fun j => ?_
              refine wpn_end ?_
              refine thn_i ?_
              have hO := hO.sel [0] (by decide)
              exact ⟨n88, Nat.lt_succ_self _, A112, c113, o114, (x49 ++ [(⟨y91, 0⟩ : zb)]), (IntKind.i64.wrap (x51 + 1)), (IntKind.u64.wrap (x52 + 1)), _, ar (ar (ar (ar (ar trivial)))), hO, hL, r45, w115, hF⟩
        · refine wpn_cF (congrArg Value.bool hb89) ?_
          refine wpn_ex ?_
          refine thn_x ?_
          refine inb_x ?_
          refine thn_i ?_
          refine wpn_assoc ?_
          refine wpn_q hO 1 [] [(4, .slice A46 x49.length c47), (5, .int .i64 x51), (62, .slice A46 x49.length c47)] (ar (ar (ar trivial))) fun j => ?_
          obtain ⟨_, h118, r117, hO⟩ := w50.share hO (i := 0) rfl
          have hL := hL.trans h118
          have hO : Obs _ _ [_] := hO
          obtain ⟨c119, h120, hF⟩ := bind_some hF
          refine wpn_c0 hO (zbC r117 h120) rfl fun _ σ _ _ hO h121 h122 => ?_
          have hL := hL.trans h121
          have r117 := r117.le h121
          obtain ⟨rfl, rfl⟩ := h122
          have hO : Obs _ _ [_] := hO
          refine wpn_qa hO [] [(4, .slice A46 x49.length c47), (5, .int .i64 x51), (64, .bool (!c119))] (ar (ar (ar trivial))) fun j => ?_
          rcases ite_some hF with ⟨hb123, hF⟩ | ⟨hb123, hF⟩
          · refine wpn_cT (congrArg Value.bool hb123) ?_
            refine wpn_assoc ?_
            refine wpn_qa hO [] [(4, .slice none 0 0), (5, .int .i64 0), (6, .int .i64 5)] (ar (ar (ar trivial))) fun j => ?_
            refine wpn_rt ?_
            injection hF with hF
            subst hF
            have hO := hO.sel [] (by decide)
            exact hQ _ _ _ _ _ rfl hO hL ⟨_, rfl, rfl, (RdT.nil _ _)⟩
          · refine wpn_cF (congrArg Value.bool hb123) ?_
            refine wpn_sk ?_
            refine wpn_qa hO [] [(4, .slice A46 x49.length c47), (5, .int .i64 x51), (6, .int .i64 0)] (ar (ar (ar trivial))) fun j => ?_
            refine wpn_r1 ?_
            injection hF with hF
            subst hF
            have hO := hO.sel [] (by decide)
            exact hQ _ _ _ _ _ rfl hO hL ⟨_, rfl, rfl, r117⟩
theorem zcg {τ : Hp} {v0 : Value} {p0 : (List UInt8)} {p1 : Int} {p2 : Int} (r0 : RdT Ty.u8 τ v0 p0) {rr : za × Int × Bool} (hF : zbT p0 p1 p2 = some rr) :
    Ctr Try.prog 39 #[v0, .int .i64 p1, .int .i64 p2] τ [] (fun v τ' vs' => ∃ (v0_2 : Value), v = .tuple #[.agg #[.int .i64 rr.1.From, .int .i64 rr.1.To, v0_2], .int .i64 rr.2.1, .bool rr.2.2] ∧ vs' = [] ∧ RdT zd τ' v0_2 rr.1.At) := by
  obtain ⟨A0, c0, rfl, -⟩ := r0.form
  refine ctr_of (args := [.slice A0 p0.length c0, .int .i64 p1, .int .i64 p2]) hm Try.func39 s39 rfl fun w0 σ hO Q hQ => ?_
  unfold zbT at hF
  have hL := Hp.le.refl τ
  show wpn _ _ a39.body _ _ _
  unfold a39
  dsimp only
  refine wpn_al hO fun b4 σ hO => ?_
  have hO : Obs _ _ [_] := hO
  refine wpn_qa hO [] [(0, .slice A0 p0.length c0), (1, .int .i64 p1), (2, .int .i64 p2), (6, .pointer (some ⟨b4, 0, none⟩))] (ar (ar (ar (ar trivial)))) fun j => ?_
  refine wpn_q hO 2 [] [(0, .slice A0 p0.length c0), (2, .int .i64 p2), (6, .pointer (some ⟨b4, 0, none⟩)), (13, .slice A0 p0.length c0), (14, .int .i64 p1)] (ar (ar (ar (ar (ar trivial))))) fun j => ?_
  obtain ⟨c5, h6, hF⟩ := bind_some hF
  refine wpn_c0 hO (z2 r0 h6) rfl fun _ σ _ _ hO h7 h8 => ?_
  have hL := hL.trans h7
  have r0 := r0.le h7
  obtain ⟨rfl, rfl⟩ := h8
  have hO : Obs _ _ [_] := hO
  refine wpn_qa hO [] [(0, .slice A0 p0.length c0), (2, .int .i64 p2), (6, .pointer (some ⟨b4, 0, none⟩)), (7, .int .i64 c5.2.1), (9, .int .u64 c5.1), (10, .int .i64 c5.2.2)] (ar (ar (ar (ar (ar (ar trivial)))))) fun j => ?_
  refine wpn_assoc ?_
  refine wpn_qa hO [] [(0, .slice A0 p0.length c0), (2, .int .i64 p2), (6, .pointer (some ⟨b4, 0, none⟩)), (7, .int .i64 c5.2.1), (9, .int .u64 c5.1), (24, .bool ((c5.2.2 != 0) || (decide (c5.1 > 16777216))))] (And.intro (And.intro rfl rfl) (fun _ => ar (ar (ar (ar (ar (ar trivial))))))) fun j => ?_
  rcases ite_some hF with ⟨hb9, hF⟩ | ⟨hb9, hF⟩
  · refine wpn_cT (congrArg Value.bool hb9) ?_
    refine wpn_assoc ?_
    refine wpn_q hO 1 [0] [(6, .pointer (some ⟨b4, 0, none⟩)), (25, .agg #[(.int .i64 0), (.int .i64 0), (.slice none 0 0)])] (And.intro (And.intro rfl rfl) (ar (ar trivial))) fun j => ?_
    refine wpn_st hO (i := 0) rfl (off := 0) rfl rfl rfl rfl (Nat.le_of_ble_eq_true rfl) rfl fun σ hO => ?_
    have hO : Obs _ _ [_] := hO
    refine wpn_qa hO [] [(6, .pointer (some ⟨b4, 0, none⟩)), (7, .int .i64 0), (8, .bool false)] (ar (ar (ar trivial))) fun j => ?_
    refine wpn_rt ?_
    injection hF with hF
    subst hF
    have hV0 := hO.val (i := 0) rfl (off := 0) (agg := true) (n := 3) rfl
    have hO := hO.sel [] (by decide)
    exact hQ _ _ _ _ _ (resvs_c rfl (hV0) (resvs_t (resvs_t rfl))) hO hL ⟨_, rfl, rfl, (RdT.nil _ _)⟩
  · refine wpn_cF (congrArg Value.bool hb9) ?_
    refine wpn_sk ?_
    refine wpn_q hO 2 [] [(0, .slice A0 p0.length c0), (2, .int .i64 p2), (6, .pointer (some ⟨b4, 0, none⟩)), (9, .int .u64 c5.1), (27, .slice A0 p0.length c0), (28, .int .i64 c5.2.1)] (ar (ar (ar (ar (ar (ar trivial)))))) fun j => ?_
    obtain ⟨c10, h11, hF⟩ := bind_some hF
    refine wpn_c0 hO (z2 r0 h11) rfl fun _ σ _ _ hO h12 h13 => ?_
    have hL := hL.trans h12
    have r0 := r0.le h12
    obtain ⟨rfl, rfl⟩ := h13
    have hO : Obs _ _ [_] := hO
    refine wpn_qa hO [] [(0, .slice A0 p0.length c0), (2, .int .i64 p2), (6, .pointer (some ⟨b4, 0, none⟩)), (7, .int .i64 c10.2.1), (9, .int .u64 c5.1), (10, .int .i64 c10.2.2), (11, .int .u64 c10.1)] (ar (ar (ar (ar (ar (ar (ar trivial))))))) fun j => ?_
    refine wpn_assoc ?_
    refine wpn_qa hO [] [(0, .slice A0 p0.length c0), (2, .int .i64 p2), (6, .pointer (some ⟨b4, 0, none⟩)), (7, .int .i64 c10.2.1), (9, .int .u64 c5.1), (11, .int .u64 c10.1), (38, .bool ((c10.2.2 != 0) || (decide (c10.1 > 16777216))))] (And.intro (And.intro rfl rfl) (fun _ => ar (ar (ar (ar (ar (ar (ar trivial)))))))) fun j => ?_
    rcases ite_some hF with ⟨hb14, hF⟩ | ⟨hb14, hF⟩
    · refine wpn_cT (congrArg Value.bool hb14) ?_
      refine wpn_assoc ?_
      refine wpn_q hO 1 [0] [(6, .pointer (some ⟨b4, 0, none⟩)), (39, .agg #[(.int .i64 0), (.int .i64 0), (.slice none 0 0)])] (And.intro (And.intro rfl rfl) (ar (ar trivial))) fun j => ?_
      refine wpn_st hO (i := 0) rfl (off := 0) rfl rfl rfl rfl (Nat.le_of_ble_eq_true rfl) rfl fun σ hO => ?_
      have hO : Obs _ _ [_] := hO
      refine wpn_qa hO [] [(6, .pointer (some ⟨b4, 0, none⟩)), (7, .int .i64 0), (8, .bool false)] (ar (ar (ar trivial))) fun j => ?_
      refine wpn_rt ?_
      injection hF with hF
      subst hF
      have hV0 := hO.val (i := 0) rfl (off := 0) (agg := true) (n := 3) rfl
      have hO := hO.sel [] (by decide)
      exact hQ _ _ _ _ _ (resvs_c rfl (hV0) (resvs_t (resvs_t rfl))) hO hL ⟨_, rfl, rfl, (RdT.nil _ _)⟩
    · refine wpn_cF (congrArg Value.bool hb14) ?_
      refine wpn_sk ?_
      refine wpn_q hO 5 [] [(0, .slice A0 p0.length c0), (6, .pointer (some ⟨b4, 0, none⟩)), (7, .int .i64 c10.2.1), (11, .int .u64 c10.1), (43, .int .i64 (IntKind.i64.wrap (p2 + (IntKind.i64.wrap c5.1)))), (44, .pointer (some ⟨b4, 0, none⟩))] (ar (ar (ar (ar (ar (ar trivial)))))) fun j => ?_
      refine wpn_st hO (i := 0) rfl (off := 0) rfl rfl rfl rfl (Nat.le_of_ble_eq_true rfl) rfl fun σ hO => ?_
      have hO : Obs _ _ [_] := hO
      refine wpn_nil ?_
      refine wpn_q hO 6 [0] [(0, .slice A0 p0.length c0), (6, .pointer (some ⟨b4, 0, none⟩)), (7, .int .i64 c10.2.1), (49, .int .i64 (IntKind.i64.wrap ((IntKind.i64.wrap (p2 + (IntKind.i64.wrap c5.1))) + (IntKind.i64.wrap c10.1)))), (50, .pointer (some ⟨b4, 1, none⟩))] (And.intro (And.intro rfl rfl) (ar (ar (ar (ar (ar trivial)))))) fun j => ?_
      refine wpn_st hO (i := 0) rfl (off := 1) rfl rfl rfl rfl (Nat.le_of_ble_eq_true rfl) rfl fun σ hO => ?_
      have hO : Obs _ _ [_] := hO
      refine wpn_nil ?_
      refine wpn_q hO 2 [] [(6, .pointer (some ⟨b4, 0, none⟩)), (52, .slice A0 p0.length c0), (53, .int .i64 c10.2.1)] (ar (ar (ar trivial))) fun j => ?_
      obtain ⟨c15, h16, hF⟩ := bind_some hF
      refine wpn_c0 hO (zcq r0 h16) rfl fun _ σ _ _ hO h17 h18 => ?_
      have hL := hL.trans h17
      have r0 := r0.le h17
      obtain ⟨v19, rfl, rfl, r22⟩ := h18
      obtain ⟨A20, c21, rfl, -⟩ := r22.form
      have hO : Obs _ _ [_] := hO
      refine wpn_q hO 5 [] [(6, .pointer (some ⟨b4, 0, none⟩)), (55, .slice A20 c15.1.length c21), (56, .int .i64 c15.2.1), (57, .int .i64 c15.2.2), (58, .pointer (some ⟨b4, 2, none⟩))] (ar (ar (ar (ar (ar trivial))))) fun j => ?_
      refine wpn_st hO (i := 0) rfl (off := 2) rfl rfl rfl rfl (Nat.le_of_ble_eq_true rfl) rfl fun σ hO => ?_
      have hO : Obs _ _ [_] := hO
      refine wpn_qa hO [] [(6, .pointer (some ⟨b4, 0, none⟩)), (7, .int .i64 c15.2.1), (10, .int .i64 c15.2.2)] (ar (ar (ar trivial))) fun j => ?_
      refine wpn_q hO 7 [0, 0] [(6, .pointer (some ⟨b4, 0, none⟩)), (59, .agg #[(.int .i64 (IntKind.i64.wrap (p2 + (IntKind.i64.wrap c5.1)))), (.int .i64 (IntKind.i64.wrap ((IntKind.i64.wrap (p2 + (IntKind.i64.wrap c5.1))) + (IntKind.i64.wrap c10.1)))), (.slice A20 c15.1.length c21)]), (60, .int .i64 c15.2.1), (67, .bool ((c15.2.2 == 0) && (decide ((IntKind.i64.wrap ((IntKind.i64.wrap (p2 + (IntKind.i64.wrap c5.1))) + (IntKind.i64.wrap c10.1))) ≤ 16777216))))] (And.intro (And.intro rfl rfl) (And.intro (And.intro rfl rfl) (And.intro (And.intro rfl rfl) (fun _ => ar (ar (ar (ar trivial))))))) fun j => ?_
      refine wpn_st hO (i := 0) rfl (off := 0) rfl rfl rfl rfl (Nat.le_of_ble_eq_true rfl) rfl fun σ hO => ?_
      have hO : Obs _ _ [_] := hO
      refine wpn_qa hO [] [(6, .pointer (some ⟨b4, 0, none⟩)), (7, .int .i64 c15.2.1), (8, .bool ((c15.2.2 == 0) && (decide ((IntKind.i64.wrap ((IntKind.i64.wrap (p2 + (IntKind.i64.wrap c5.1))) + (IntKind.i64.wrap c10.1))) ≤ 16777216))))] (ar (ar (ar trivial))) fun j => ?_
      refine wpn_r1 ?_
      injection hF with hF
      subst hF
      have hV0 := hO.val (i := 0) rfl (off := 0) (agg := true) (n := 3) rfl
      have hO := hO.sel [] (by decide)
      exact hQ _ _ _ _ _ (resvs_c rfl (hV0) (resvs_t (resvs_t rfl))) hO hL ⟨_, rfl, rfl, r22⟩
theorem zcL {τ : Hp} {v0 : Value} {p0 : (List UInt8)} {p1 : Int} (r0 : RdT Ty.u8 τ v0 p0) {rr : (List za) × Int × Int} (hF : zbx p0 p1 = some rr) :
    Ctr Try.prog 20 #[v0, .int .i64 p1] τ [] (fun v τ' vs' => ∃ (v0 : Value), v = .tuple #[v0, .int .i64 rr.2.1, .int .i64 rr.2.2] ∧ vs' = [] ∧ RdT zc τ' v0 rr.1) := by
  obtain ⟨A0, c0, rfl, -⟩ := r0.form
  refine ctr_of (args := [.slice A0 p0.length c0, .int .i64 p1]) hm Try.func20 s20 rfl fun w0 σ hO Q hQ => ?_
  unfold zbx at hF
  have hL := Hp.le.refl τ
  show wpn _ _ a20.body _ _ _
  unfold a20
  dsimp only
  refine wpn_qa hO [] [(0, .slice A0 p0.length c0), (1, .int .i64 p1), (4, .slice none 0 0)] (ar (ar (ar trivial))) fun j => ?_
  refine wpn_assoc ?_
  refine wpn_qa hO [] [(0, .slice A0 p0.length c0), (1, .int .i64 p1), (4, .slice none 0 0), (19, .bool ((decide (p1 < 0)) || (decide (p1 > (p0.length : Int)))))] (And.intro (And.intro rfl rfl) (fun _ => ar (ar (ar (ar trivial))))) fun j => ?_
  rcases ite_some hF with ⟨hb3, hF⟩ | ⟨hb3, hF⟩
  · refine wpn_cT (congrArg Value.bool hb3) ?_
    refine wpn_assoc ?_
    refine wpn_qa hO [] [(4, .slice none 0 0), (5, .int .i64 0), (6, .int .i64 1)] (ar (ar (ar trivial))) fun j => ?_
    refine wpn_rt ?_
    injection hF with hF
    subst hF
    exact hQ _ _ _ _ _ rfl hO hL ⟨_, rfl, rfl, (RdT.nil _ _)⟩
  · refine wpn_cF (congrArg Value.bool hb3) ?_
    refine wpn_sk ?_
    refine wpn_q hO 2 [] [(0, .slice A0 p0.length c0), (4, .slice none 0 0), (21, .slice A0 p0.length c0), (22, .int .i64 p1)] (ar (ar (ar (ar trivial)))) fun j => ?_
    obtain ⟨c4, h5, hF⟩ := bind_some hF
    refine wpn_c0 hO (z2 r0 h5) rfl fun _ σ _ _ hO h6 h7 => ?_
    have hL := hL.trans h6
    have r0 := r0.le h6
    obtain ⟨rfl, rfl⟩ := h7
    have hO : Obs _ _ [] := hO
    refine wpn_qa hO [] [(0, .slice A0 p0.length c0), (4, .slice none 0 0), (5, .int .i64 c4.2.1), (6, .int .i64 c4.2.2), (7, .int .u64 c4.1)] (ar (ar (ar (ar (ar trivial))))) fun j => ?_
    refine wpn_assoc ?_
    refine wpn_qa hO [] [(0, .slice A0 p0.length c0), (4, .slice none 0 0), (5, .int .i64 c4.2.1), (7, .int .u64 c4.1), (32, .bool ((c4.2.2 != 0) || (decide (c4.1 > 4000))))] (And.intro (And.intro rfl rfl) (fun _ => ar (ar (ar (ar (ar trivial)))))) fun j => ?_
    rcases ite_some hF with ⟨hb8, hF⟩ | ⟨hb8, hF⟩
    · refine wpn_cT (congrArg Value.bool hb8) ?_
      refine wpn_assoc ?_
      refine wpn_qa hO [] [(4, .slice none 0 0), (5, .int .i64 0), (6, .int .i64 5)] (ar (ar (ar trivial))) fun j => ?_
      refine wpn_rt ?_
      injection hF with hF
      subst hF
      exact hQ _ _ _ _ _ rfl hO hL ⟨_, rfl, rfl, (RdT.nil _ _)⟩
    · refine wpn_cF (congrArg Value.bool hb8) ?_
      refine wpn_sk ?_
      refine wpn_qa hO [] [(0, .slice A0 p0.length c0), (4, .slice none 0 0), (5, .int .i64 c4.2.1), (7, .int .u64 c4.1), (8, .int .i64 0)] (ar (ar (ar (ar (ar trivial))))) fun j => ?_
      refine wpn_assoc ?_
      refine wpn_qa hO [] [(0, .slice A0 p0.length c0), (4, .slice none 0 0), (5, .int .i64 c4.2.1), (8, .int .i64 0), (33, .int .u64 c4.1), (34, .int .u64 0)] (ar (ar (ar (ar (ar (ar trivial)))))) fun j => ?_
      refine wpn_bl ?_
      have hO := hO.no
      have hO : Obs _ _ [_] := hO
      refine wpn_lp (fun (n : Nat) e' σ' => ∃ (A39 : Option Addr) (c40 : Nat) (o41 : Ob) (x42 : List za) (x44 : Int) (x45 : Int) (x46 : Int) (τ' : Hp), agr [(0, .slice A0 p0.length c0), (4, .slice A39 x42.length c40), (5, .int .i64 x44), (8, .int .i64 x45), (33, .int .u64 c4.1), (34, .int .u64 x46)] e' ∧ Obs τ' σ' [o41] ∧ Hp.le τ τ' ∧ RdT Ty.u8 τ' (.slice A0 p0.length c0) p0 ∧ OwnO zc 46 τ' (.slice A39 x42.length c40) x42 o41 ∧ zbf p0 c4 n x42 x44 x45 x46 = some rr) big ⟨none, 0, none, [], c4.2.1, 0, 0, _, ar (ar (ar (ar (ar (ar trivial))))), hO, hL, r0, OwnO.nil _ _ _, hF⟩ ?_
      clear hF hO hL
      rintro n76 e σ ⟨A39, c40, o41, x42, x44, x45, x46, _, hA, hO, hL, r38, w43, hF⟩
      rw [← sets_agr _ _ hA]
      cases n76 with
      | zero => exact nomatch (show none = some rr from hF)
      | succ n76 =>
        replace hF : zby (zbf p0 c4 n76) p0 c4 x42 x44 x45 x46 = some rr := hF
        unfold zby at hF
        refine wpn_qa hO [] [(0, .slice A0 p0.length c0), (4, .slice A39 x42.length c40), (5, .int .i64 x44), (8, .int .i64 x45), (33, .int .u64 c4.1), (34, .int .u64 x46), (35, .bool (decide (x46 < c4.1)))] (ar (ar (ar (ar (ar (ar (ar trivial))))))) fun j => ?_
        rcases ite_some hF with ⟨hb77, hF⟩ | ⟨hb77, hF⟩
        · refine wpn_cT (congrArg Value.bool hb77) ?_
          refine wpn_sk ?_
          refine wpn_bl ?_
          refine wpn_q hO 3 [] [(0, .slice A0 p0.length c0), (4, .slice A39 x42.length c40), (33, .int .u64 c4.1), (34, .int .u64 x46), (37, .slice A0 p0.length c0), (38, .int .i64 x44), (39, .int .i64 x45)] (ar (ar (ar (ar (ar (ar (ar trivial))))))) fun j => ?_
          obtain ⟨c78, h79, hF⟩ := bind_some hF
          refine wpn_c0 hO (zcg r38 h79) rfl fun _ σ _ _ hO h80 h81 => ?_
          have hL := hL.trans h80
          have r38 := r38.le h80
          have w43 := w43.le h80
          obtain ⟨v82, rfl, rfl, r83⟩ := h81
          obtain ⟨A84, c85, rfl, -⟩ := r83.form
          have hO : Obs _ _ [_] := hO
          refine wpn_q hO 4 [] [(0, .slice A0 p0.length c0), (4, .slice A39 x42.length c40), (33, .int .u64 c4.1), (34, .int .u64 x46), (41, .agg #[(.int .i64 c78.1.From), (.int .i64 c78.1.To), (.slice A84 c78.1.At.length c85)]), (42, .int .i64 c78.2.1), (43, .bool c78.2.2)] (ar (ar (ar (ar (ar (ar (ar trivial))))))) fun j => ?_
          refine wpn_al hO fun b86 σ hO => ?_
          have hO : Obs _ _ [_, _] := hO
          refine wpn_st hO (i := 1) rfl (off := 0) rfl rfl rfl rfl (Nat.le_of_ble_eq_true rfl) rfl fun σ hO => ?_
          have hO : Obs _ _ [_, _] := hO
          refine wpn_qa hO [] [(0, .slice A0 p0.length c0), (4, .slice A39 x42.length c40), (9, .pointer (some ⟨b86, 0, none⟩)), (10, .int .i64 c78.2.1), (11, .bool c78.2.2), (33, .int .u64 c4.1), (34, .int .u64 x46)] (ar (ar (ar (ar (ar (ar (ar trivial))))))) fun j => ?_
          refine wpn_assoc ?_
          refine wpn_qa hO [] [(0, .slice A0 p0.length c0), (4, .slice A39 x42.length c40), (9, .pointer (some ⟨b86, 0, none⟩)), (10, .int .i64 c78.2.1), (33, .int .u64 c4.1), (34, .int .u64 x46), (45, .bool (!c78.2.2))] (ar (ar (ar (ar (ar (ar (ar trivial))))))) fun j => ?_
          rcases ite_some hF with ⟨hb87, hF⟩ | ⟨hb87, hF⟩
          · refine wpn_cT (congrArg Value.bool hb87) ?_
            refine wpn_assoc ?_
            refine wpn_qa hO [] [(4, .slice none 0 0), (5, .int .i64 0), (6, .int .i64 5)] (ar (ar (ar trivial))) fun j => ?_
            refine wpn_rt ?_
            refine inb_r1 ?_
            refine thn_r1 ?_
            refine thn_r1 ?_
            refine inb_r1 ?_
            refine thn_r1 ?_
            injection hF with hF
            subst hF
            have hO := hO.sel [] (by decide)
            exact hQ _ _ _ _ _ rfl hO hL ⟨_, rfl, rfl, (RdT.nil _ _)⟩
          · refine wpn_cF (congrArg Value.bool hb87) ?_
            refine wpn_sk ?_
            refine wpn_plast ?_
            refine wpn_q hO 5 [1, 1] [(0, .slice A0 p0.length c0), (33, .int .u64 c4.1), (34, .int .u64 x46), (46, .slice A39 x42.length c40), (47, .agg #[(.int .i64 c78.1.From), (.int .i64 c78.1.To), (.slice A84 c78.1.At.length c85)]), (50, .pointer (some ⟨b86, 1, none⟩)), (51, .int .i64 c78.1.To), (52, .int .i64 c78.2.1)] (And.intro (And.intro rfl rfl) (And.intro (And.intro rfl rfl) (ar (ar (ar (ar (ar (ar (ar (ar trivial)))))))))) fun j => ?_
            refine wpn_late ?_
            refine wpn_lit (T := zc) (l := ([(⟨c78.1.From, c78.1.To, c78.1.At⟩ : za)] : List za)) (cs := [.int .i64 c78.1.From, .int .i64 c78.1.To, .slice A84 c78.1.At.length c85]) hO rfl ⟨[.int .i64 c78.1.From, .int .i64 c78.1.To, .slice A84 c78.1.At.length c85], _, rfl, ⟨_, rfl, r83⟩, rfl⟩ rfl (by decide) fun _ σ o90 w91 hO => ?_
            obtain ⟨A88, c89, rfl, -⟩ := w91.form
            have hO : Obs _ _ [_, _, _] := hO
            refine wpn_nil ?_
            refine wpn_ag ⟨(again_ld rfl (hO.val (i := 1) (off := 1) (agg := false) (n := 1) rfl rfl) rfl), trivial⟩ ?_
            refine wpn_late ?_
            obtain ⟨_, h93, r92, hO⟩ := w91.share hO (i := 2) rfl
            have hL := hL.trans h93
            have r38 := r38.le h93
            have w43 := w43.le h93
            have r83 := r83.le h93
            have hO : Obs _ _ [_, _, _] := hO
            obtain ⟨_, hr98, hF⟩ := bind_some hF
            refine wpn_apl (T := zc) hO w43 (i := 0) rfl rfl rfl r92 hr98 (by decide) fun _ σ o96 w97 hO => ?_
            obtain ⟨A94, c95, rfl, -⟩ := w97.form
            have hO : Obs _ _ [_, _, _] := hO
            refine wpn_nil ?_
            refine wpn_ag ⟨(again_ld rfl (hO.val (i := 1) (off := 1) (agg := false) (n := 1) rfl rfl) rfl), trivial⟩ ?_
            refine wpn_late ?_
            refine wpn_qa hO [] [(0, .slice A0 p0.length c0), (4, .slice A94 (x42 ++ ([(⟨c78.1.From, c78.1.To, c78.1.At⟩ : za)] : List za)).length c95), (33, .int .u64 c4.1), (34, .int .u64 x46), (50, .pointer (some ⟨b86, 1, none⟩)), (51, .int .i64 c78.1.To), (52, .int .i64 c78.2.1)] (ar (ar (ar (ar (ar (ar (ar trivial))))))) fun j => ?_
            refine wpn_ag ⟨(again_ld rfl (hO.val (i := 1) (off := 1) (agg := false) (n := 1) rfl rfl) rfl), trivial⟩ ?_
            refine wpn_qa hO [] [(0, .slice A0 p0.length c0), (4, .slice A94 (x42 ++ ([(⟨c78.1.From, c78.1.To, c78.1.At⟩ : za)] : List za)).length c95), (5, .int .i64 c78.2.1), (8, .int .i64 c78.1.To), (33, .int .u64 c4.1), (34, .int .u64 x46)] (ar (ar (ar (ar (ar (ar trivial)))))) fun j => ?_
            refine wpn_end ?_
            refine inb_i ?_
            refine thn_i ?_
            refine wpn_rlast ?_
            refine wpn_qa hO [] [(0, .slice A0 p0.length c0), (4, .slice A94 (x42 ++ ([(⟨c78.1.From, c78.1.To, c78.1.At⟩ : za)] : List za)).length c95), (5, .int .i64 c78.2.1), (8, .int .i64 c78.1.To), (33, .int .u64 c4.1), (34, .int .u64 (IntKind.u64.wrap (x46 + 1)))] (ar (ar (ar (ar (ar (ar trivial)))))) fun j => ?_
            refine wpn_end ?_
            refine thn_i ?_
            have hO := hO.sel [0] (by decide)
            exact ⟨n76, Nat.lt_succ_self _, A94, c95, o96, (x42 ++ ([(⟨c78.1.From, c78.1.To, c78.1.At⟩ : za)] : List za)), c78.2.1, c78.1.To, (IntKind.u64.wrap (x46 + 1)), _, ar (ar (ar (ar (ar (ar trivial))))), hO, hL, r38, w97, hF⟩
        · refine wpn_cF (congrArg Value.bool hb77) ?_
          refine wpn_ex ?_
          refine thn_x ?_
          refine inb_x ?_
          refine thn_i ?_
          refine wpn_assoc ?_
          refine wpn_q hO 1 [] [(4, .slice A39 x42.length c40), (5, .int .i64 x44), (54, .slice A39 x42.length c40)] (ar (ar (ar trivial))) fun j => ?_
          obtain ⟨_, h100, r99, hO⟩ := w43.share hO (i := 0) rfl
          have hL := hL.trans h100
          have hO : Obs _ _ [_] := hO
          obtain ⟨c101, h102, hF⟩ := bind_some hF
          refine wpn_c0 hO (zu r99 h102) rfl fun _ σ _ _ hO h103 h104 => ?_
          have hL := hL.trans h103
          have r99 := r99.le h103
          obtain ⟨rfl, rfl⟩ := h104
          have hO : Obs _ _ [_] := hO
          refine wpn_qa hO [] [(4, .slice A39 x42.length c40), (5, .int .i64 x44), (56, .bool (!c101))] (ar (ar (ar trivial))) fun j => ?_
          rcases ite_some hF with ⟨hb105, hF⟩ | ⟨hb105, hF⟩
          · refine wpn_cT (congrArg Value.bool hb105) ?_
            refine wpn_assoc ?_
            refine wpn_qa hO [] [(4, .slice none 0 0), (5, .int .i64 0), (6, .int .i64 5)] (ar (ar (ar trivial))) fun j => ?_
            refine wpn_rt ?_
            injection hF with hF
            subst hF
            have hO := hO.sel [] (by decide)
            exact hQ _ _ _ _ _ rfl hO hL ⟨_, rfl, rfl, (RdT.nil _ _)⟩
          · refine wpn_cF (congrArg Value.bool hb105) ?_
            refine wpn_sk ?_
            refine wpn_qa hO [] [(4, .slice A39 x42.length c40), (5, .int .i64 x44), (6, .int .i64 0)] (ar (ar (ar trivial))) fun j => ?_
            refine wpn_r1 ?_
            injection hF with hF
            subst hF
            have hO := hO.sel [] (by decide)
            exact hQ _ _ _ _ _ rfl hO hL ⟨_, rfl, rfl, r99⟩
theorem zbY {τ : Hp} {v0 : Value} {p0 : (List zb)} (r0 : RdT zd τ v0 p0) {rr : (List zb)} (hF : zq p0 = some rr) :
    Ctr Try.prog 42 #[v0] τ [] (fun v τ' vs' => ∃ (v0 : Value) (o0 : Ob), v = v0 ∧ vs' = [o0] ∧ OwnO zd 44 τ' v0 rr o0) := by
  obtain ⟨A0, c0, rfl, -⟩ := r0.form
  refine ctr_of (args := [.slice A0 p0.length c0]) hm Try.func42 s42 rfl fun w0 σ hO Q hQ => ?_
  unfold zq at hF
  obtain ⟨_, hr, hF⟩ := bind_some hF
  injection hF with hF
  subst hF
  have hL := Hp.le.refl τ
  show wpn _ _ a42.body _ _ _
  unfold a42
  dsimp only
  refine wpn_qa hO [] [(0, .slice A0 p0.length c0)] (ar trivial) fun j => ?_
  refine wpn_assoc ?_
  refine wpn_qa hO [] [(0, .slice A0 p0.length c0), (4, .bool A0.isNone)] (ar (ar trivial)) fun j => ?_
  rcases (Bool.eq_false_or_eq_true A0.isNone).symm with hA | hA
  · refine wpn_cF (congrArg Value.bool hA) ?_
    refine wpn_sk ?_
    refine wpn_lit (T := zd) (l := []) (cs := []) hO rfl rfl rfl (by decide) fun _ σ o1 w1 hO => ?_
    obtain ⟨A1, c1, rfl, -⟩ := w1.form
    refine wpn_q hO 1 [] [(5, .slice A1 0 c1), (6, .slice A0 p0.length c0)] (ar (ar trivial)) fun j => ?_
    refine wpn_apl (T := zd) hO w1 (i := 0) rfl rfl rfl r0 (by simpa using hr) (by decide) fun _ σ o2 w2 hO => ?_
    refine wpn_qa hO [] [(2, _)] (ar trivial) fun j => ?_
    refine wpn_r1 ?_
    exact hQ _ _ _ _ _ rfl hO hL ⟨_, _, rfl, rfl, w2⟩
  · refine wpn_cT (congrArg Value.bool hA) ?_
    have := r0.empty (by decide) hA
    subst this
    refine wpn_assoc ?_
    refine wpn_qa hO [] [(2, .slice none 0 0)] (ar trivial) fun j => ?_
    refine wpn_rt ?_
    have hO := hO.no
    exact hQ _ _ _ _ _ rfl hO hL ⟨_, _, rfl, rfl, OwnO.nil _ _ _⟩
theorem zbc {τ : Hp} {v0 : Value} {p0 : (List za)} {p1 : Int} (r0 : RdT zc τ v0 p0) {rr : (List zb)} (hF : zm p0 p1 = some rr) :
    Ctr Try.prog 22 #[v0, .int .i64 p1] τ [] (fun v τ' vs' => ∃ (v0 : Value) (o0 : Ob), v = v0 ∧ vs' = [o0] ∧ OwnO zd 44 τ' v0 rr o0) := by
  obtain ⟨A0, c0, rfl, -⟩ := r0.form
  refine ctr_of (args := [.slice A0 p0.length c0, .int .i64 p1]) hm Try.func22 s22 rfl fun w0 σ hO Q hQ => ?_
  unfold zm at hF
  have hL := Hp.le.refl τ
  show wpn _ _ a22.body _ _ _
  unfold a22
  dsimp only
  refine wpn_qa hO [] [(0, .slice A0 p0.length c0), (1, .int .i64 p1)] (ar (ar trivial)) fun j => ?_
  refine wpn_assoc ?_
  refine wpn_qa hO [] [(1, .int .i64 p1), (7, .slice A0 p0.length c0), (8, .int .i64 (p0.length : Int)), (9, .int .i64 0)] (ar (ar (ar (ar trivial)))) fun j => ?_
  refine wpn_bl ?_
  refine wpn_lp (fun (n : Nat) e' σ' => ∃ (x26 : Int) (τ' : Hp), agr [(1, .int .i64 p1), (7, .slice A0 p0.length c0), (8, .int .i64 (p0.length : Int)), (9, .int .i64 x26)] e' ∧ Obs τ' σ' [] ∧ Hp.le τ τ' ∧ RdT zc τ' (.slice A0 p0.length c0) p0 ∧ zv p0 p1 n x26 = some rr) big ⟨0, _, ar (ar (ar (ar trivial))), hO, hL, r0, hF⟩ ?_
  clear hF hO hL
  rintro n48 e σ ⟨x26, _, hA, hO, hL, r25, hF⟩
  rw [← sets_agr _ _ hA]
  cases n48 with
  | zero => exact nomatch (show none = some rr from hF)
  | succ n48 =>
    replace hF : zL (zv p0 p1 n48) p0 p1 x26 = some rr := hF
    unfold zL at hF
    refine wpn_qa hO [] [(1, .int .i64 p1), (7, .slice A0 p0.length c0), (8, .int .i64 (p0.length : Int)), (9, .int .i64 x26), (10, .bool (decide (x26 < (p0.length : Int))))] (ar (ar (ar (ar (ar trivial))))) fun j => ?_
    rcases ite_some hF with ⟨hb49, hF⟩ | ⟨hb49, hF⟩
    · refine wpn_cT (congrArg Value.bool hb49) ?_
      refine wpn_sk ?_
      refine wpn_bl ?_
      obtain ⟨y50, g51, hF⟩ := bind_some hF
      refine wpn_idx (T := zc) r25 hO.base rfl rfl g51 (by decide) fun a52 _ k53 m54 => ?_
      obtain ⟨v55, rfl, r56⟩ := k53
      obtain ⟨A57, c58, rfl, -⟩ := r56.form
      refine wpn_ld rfl ((m54.le hO.base).all rfl) ?_
      refine wpn_al hO fun b59 σ hO => ?_
      have hO : Obs _ _ [_] := hO
      refine wpn_st hO (i := 0) rfl (off := 0) rfl rfl rfl rfl (Nat.le_of_ble_eq_true rfl) rfl fun σ hO => ?_
      have hO : Obs _ _ [_] := hO
      refine wpn_nil ?_
      refine wpn_qa hO [0, 0] [(1, .int .i64 p1), (6, .pointer (some ⟨b59, 0, none⟩)), (7, .slice A0 p0.length c0), (8, .int .i64 (p0.length : Int)), (9, .int .i64 x26), (22, .bool ((decide (y50.From ≤ p1)) && (decide (p1 < y50.To))))] (And.intro (And.intro rfl rfl) (And.intro (And.intro rfl rfl) (And.intro (And.intro rfl rfl) (fun _ => ar (ar (ar (ar (ar (ar trivial))))))))) fun j => ?_
      refine wpn_clast ?_
      rcases ite_some hF with ⟨hb60, hF⟩ | ⟨hb60, hF⟩
      · refine wpn_cT (congrArg Value.bool hb60) ?_
        refine wpn_assoc ?_
        refine wpn_q hO 2 [0] [(24, .slice A57 y50.At.length c58)] (And.intro (And.intro rfl rfl) (ar trivial)) fun j => ?_
        obtain ⟨c61, h62, hF⟩ := bind_some hF
        refine wpn_c0 hO (zbY r56 h62) rfl fun _ σ _ _ hO h63 h64 => ?_
        have hL := hL.trans h63
        have r56 := r56.le h63
        obtain ⟨v65, o68, rfl, rfl, w69⟩ := h64
        obtain ⟨A66, c67, rfl, -⟩ := w69.form
        have hO : Obs _ _ [_, _] := hO
        refine wpn_qa hO [] [(4, .slice A66 c61.length c67)] (ar trivial) fun j => ?_
        refine wpn_rt ?_
        refine inb_r1 ?_
        refine thn_r1 ?_
        refine thn_r1 ?_
        refine inb_r1 ?_
        refine thn_r1 ?_
        injection hF with hF
        subst hF
        have hO := hO.sel [1] (by decide)
        exact hQ _ _ _ _ _ rfl hO hL ⟨_, _, rfl, rfl, w69⟩
      · refine wpn_cF (congrArg Value.bool hb60) ?_
        refine wpn_sk ?_
        refine wpn_end ?_
        refine inb_i ?_
        refine thn_i ?_
        refine wpn_rlast ?_
        refine wpn_qa hO [] [(1, .int .i64 p1), (7, .slice A0 p0.length c0), (8, .int .i64 (p0.length : Int)), (9, .int .i64 (IntKind.i64.wrap (x26 + 1)))] (ar (ar (ar (ar trivial)))) fun j => ?_
        refine wpn_end ?_
        refine thn_i ?_
        have hO := hO.sel [] (by decide)
        exact ⟨n48, Nat.lt_succ_self _, (IntKind.i64.wrap (x26 + 1)), _, ar (ar (ar (ar trivial))), hO, hL, r25, hF⟩
    · refine wpn_cF (congrArg Value.bool hb49) ?_
      refine wpn_ex ?_
      refine thn_x ?_
      refine inb_x ?_
      refine thn_i ?_
      refine wpn_qa hO [] [(4, .slice none 0 0)] (ar trivial) fun j => ?_
      refine wpn_r1 ?_
      have hO := hO.no
      have hO : Obs _ _ [_] := hO
      injection hF with hF
      subst hF
      exact hQ _ _ _ _ _ rfl hO hL ⟨_, _, rfl, rfl, (OwnO.nil _ _ _)⟩
theorem zbO {τ : Hp} {p0 : za} {v0_2 : Value} (r0_2 : RdT zd τ v0_2 p0.At) {rr : za} (hF : zo p0 = some rr) :
    Ctr Try.prog 43 #[.agg #[.int .i64 p0.From, .int .i64 p0.To, v0_2]] τ [] (fun v τ' vs' => ∃ (v0_2 : Value), v = .agg #[.int .i64 rr.From, .int .i64 rr.To, v0_2] ∧ vs' = [] ∧ RdT zd τ' v0_2 rr.At) := by
  obtain ⟨A0_2, c0_2, rfl, -⟩ := r0_2.form
  refine ctr_of (args := [.agg #[.int .i64 p0.From, .int .i64 p0.To, (.slice A0_2 p0.At.length c0_2)]]) hm Try.func43 s43 rfl fun w0 σ hO Q hQ => ?_
  unfold zo at hF
  have hL := Hp.le.refl τ
  show wpn _ _ a43.body _ _ _
  unfold a43
  dsimp only
  refine wpn_bx (n := 3) hO rfl rfl fun b2 σ hO => ?_
  have hO : Obs _ _ [_] := hO
  refine wpn_al hO fun b3 σ hO => ?_
  have hO : Obs _ _ [_, _] := hO
  refine wpn_nil ?_
  refine wpn_q hO 2 [0] [(1, .pointer (some ⟨b2, 0, none⟩)), (2, .pointer (some ⟨b3, 0, none⟩)), (4, .slice A0_2 p0.At.length c0_2)] (And.intro (And.intro rfl rfl) (ar (ar (ar trivial)))) fun j => ?_
  obtain ⟨c4, h5, hF⟩ := bind_some hF
  refine wpn_c0 hO (zbY r0_2 h5) rfl fun _ σ _ _ hO h6 h7 => ?_
  have hL := hL.trans h6
  have r0_2 := r0_2.le h6
  obtain ⟨v8, o11, rfl, rfl, w12⟩ := h7
  obtain ⟨A9, c10, rfl, -⟩ := w12.form
  have hO : Obs _ _ [_, _, _] := hO
  refine wpn_q hO 1 [] [(1, .pointer (some ⟨b2, 0, none⟩)), (2, .pointer (some ⟨b3, 0, none⟩)), (5, .slice A9 c4.length c10), (6, .pointer (some ⟨b2, 2, none⟩))] (ar (ar (ar (ar trivial)))) fun j => ?_
  refine wpn_st hO (i := 0) rfl (off := 2) rfl rfl rfl rfl (Nat.le_of_ble_eq_true rfl) rfl fun σ hO => ?_
  have hO : Obs _ _ [_, _, _] := hO
  refine wpn_nil ?_
  refine wpn_q hO 1 [0] [(2, .pointer (some ⟨b3, 0, none⟩)), (7, .agg #[(.int .i64 p0.From), (.int .i64 p0.To), (.slice A9 c4.length c10)])] (And.intro (And.intro rfl rfl) (ar (ar trivial))) fun j => ?_
  refine wpn_st hO (i := 1) rfl (off := 0) rfl rfl rfl rfl (Nat.le_of_ble_eq_true rfl) rfl fun σ hO => ?_
  have hO : Obs _ _ [_, _, _] := hO
  refine wpn_nil ?_
  refine wpn_r1 ?_
  obtain ⟨_, h14, r13, hO⟩ := w12.share hO (i := 2) rfl
  have hL := hL.trans h14
  have hO : Obs _ _ [_, _, _] := hO
  injection hF with hF
  subst hF
  have hV0 := hO.val (i := 1) rfl (off := 0) (agg := true) (n := 3) rfl
  have hO := hO.sel [] (by decide)
  exact hQ _ _ _ _ _ (resvs_c rfl (hV0) rfl) hO hL ⟨_, rfl, rfl, r13⟩
end Go.Proofs.Ytjcehfjmmbbblaa
