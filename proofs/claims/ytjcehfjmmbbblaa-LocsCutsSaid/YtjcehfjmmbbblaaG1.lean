import Derived.Test.YtjcehfjmmbbblaaF
import Derived.Test.YtjcehfjmmbbblaaAc0
import Derived.Test.YtjcehfjmmbbblaaM00
import Derived.Test.YtjcehfjmmbbblaaM01
import Derived.Test.YtjcehfjmmbbblaaG0
namespace Go.Proofs.Ytjcehfjmmbbblaa
open Go.Ab Go.RowKit
set_option linter.unusedVariables false
set_option linter.unusedSimpArgs false
set_option maxRecDepth 10000
theorem zcC {w0 : Base} {l : Nat} {rec : Loop} (hl : w0.hid l = some (.loop rec)) (hs0 : w0.heap.size ≤ l) {τ : Hp} {q0_0 : (List za)} {bm0_0 : Nat} {vm0_0_0 : Value} {om0_0_0 : Ob} {qf0 : (List za)} {vf0_0 : Value} {af0 : Addr} {qf1 : Int} {af1 : Addr} {qf2 : Int} {af2 : Addr} {σ : Hp} (hy : ∀ {τ : Hp} {p0 : za} {v0_2 : Value} {qf0 : (List za)} {vq : Value} {oq : Ob}, ∀ {rr : Bool × (List za)}, zk p0 qf0 = some rr → RdT zd τ v0_2 p0.At → OwnO zc 46 τ vq qf0 oq → YC Try.prog l rec #[.agg #[.int .i64 p0.From, .int .i64 p0.To, v0_2]] τ [some (bm0_0, ⟨[vq], 23, 1, true⟩), oq] (fun v τ' vs' => ∃ (u : Value) (y : Ob), v = .bool rr.1 ∧ vs' = [some (bm0_0, ⟨[u], 23, 1, true⟩), y] ∧ OwnO zc 46 τ' u rr.2 y)) (wm0_0_0 : OwnO zc 46 τ vm0_0_0 q0_0 om0_0_0) (rf0_0 : RdT zc τ vf0_0 qf0) (mf0 : At τ af0 [vf0_0]) (mf1 : At τ af1 [.int .i64 qf1]) (mf2 : At τ af2 [.int .i64 qf2]) {rr : (List za)} (hF : zbA q0_0 qf0 qf1 qf2 = some rr) (hO : Obs τ σ [some (bm0_0, ⟨[vm0_0_0], 23, 1, true⟩), om0_0_0]) :
    ACalls Try.prog w0 58 #[.func (.yield l) #[] #[], .pointer (some af0), .pointer (some af1), .pointer (some af2)] σ (fun v σ' => ∃ τ' vs', Obs τ' σ' vs' ∧ Hp.le τ τ' ∧ ((fun v τ' vs' => ∃ (u0_0 : Value) (y0_0 : Ob), v = .tuple #[] ∧ vs' = [some (bm0_0, ⟨[u0_0], 23, 1, true⟩), y0_0] ∧ OwnO zc 46 τ' u0_0 rr y0_0)) v τ' vs') noPan := by
  obtain ⟨Am0_0_0, cm0_0_0, rfl, -⟩ := wm0_0_0.form
  obtain ⟨Af0_0, cf0_0, rfl, -⟩ := rf0_0.form
  refine acalls_nn (args := [.func (.yield l) #[] #[], .pointer (some af0), .pointer (some af1), .pointer (some af2)]) hm Try.func58 s58 rfl fun Q hQ0 => ?_
  have hQ := fun e σ' rs τ' vs' h1 h2 h3 h4 => hQ0 e σ' rs h1 ⟨τ', vs', h2, h3, h4⟩
  unfold zbA at hF
  have hL := Hp.le.refl τ
  show wpn _ _ a58.body _ _ _
  unfold a58
  dsimp only
  refine wpn_ld rfl (mf0.le hO.base).fst ?_
  refine wpn_qa hO [] [(0, .func (.yield l) #[] #[]), (2, .pointer (some af1)), (3, .pointer (some af2)), (9, .slice Af0_0 qf0.length cf0_0), (10, .int .i64 (qf0.length : Int)), (11, .int .i64 0)] (ar (ar (ar (ar (ar (ar trivial)))))) fun j => ?_
  refine wpn_blast ?_
  refine wpn_bl ?_
  refine wpn_lp (fun (n : Nat) e' σ' => ∃ (A73 : Option Addr) (c74 : Nat) (o75 : Ob) (x76 : List za) (x81 : Int) (τ' : Hp), agr [(0, .func (.yield l) #[] #[]), (2, .pointer (some af1)), (3, .pointer (some af2)), (9, .slice Af0_0 qf0.length cf0_0), (10, .int .i64 (qf0.length : Int)), (11, .int .i64 x81)] e' ∧ Obs τ' σ' [some (bm0_0, ⟨[.slice A73 x76.length c74], 23, 1, true⟩), o75] ∧ Hp.le τ τ' ∧ OwnO zc 46 τ' (.slice A73 x76.length c74) x76 o75 ∧ At τ' af1 [.int .i64 qf1] ∧ At τ' af2 [.int .i64 qf2] ∧ RdT zc τ' (.slice Af0_0 qf0.length cf0_0) qf0 ∧ zt qf0 qf1 qf2 n x76 x81 = some rr) big ⟨Am0_0_0, cm0_0_0, om0_0_0, q0_0, 0, _, ar (ar (ar (ar (ar (ar trivial))))), hO, hL, wm0_0_0, mf1, mf2, rf0_0, hF⟩ ?_
  clear hF hO hL
  rintro n145 e σ ⟨A73, c74, o75, x76, x81, _, hA, hO, hL, w77, m78, m79, r80, hF⟩
  rw [← sets_agr _ _ hA]
  cases n145 with
  | zero => exact nomatch (show none = some rr from hF)
  | succ n145 =>
    replace hF : zJ (zt qf0 qf1 qf2 n145) qf0 qf1 qf2 x76 x81 = some rr := hF
    unfold zJ at hF
    refine wpn_qa hO [] [(0, .func (.yield l) #[] #[]), (2, .pointer (some af1)), (3, .pointer (some af2)), (9, .slice Af0_0 qf0.length cf0_0), (10, .int .i64 (qf0.length : Int)), (11, .int .i64 x81), (12, .bool (decide (x81 < (qf0.length : Int))))] (ar (ar (ar (ar (ar (ar (ar trivial))))))) fun j => ?_
    rcases ite_some hF with ⟨hb146, hF⟩ | ⟨hb146, hF⟩
    · refine wpn_cT (congrArg Value.bool hb146) ?_
      refine wpn_sk ?_
      refine wpn_bl ?_
      obtain ⟨y147, g148, hF⟩ := bind_some hF
      refine wpn_idx (T := zc) r80 hO.base rfl rfl g148 (by decide) fun a149 _ k150 m151 => ?_
      obtain ⟨v152, rfl, r153⟩ := k150
      obtain ⟨A154, c155, rfl, -⟩ := r153.form
      refine wpn_ld rfl ((m151.le hO.base).all rfl) ?_
      refine wpn_al hO fun b156 σ hO => ?_
      have hO : Obs _ _ [_, _, _] := hO
      refine wpn_st hO (i := 2) rfl (off := 0) rfl rfl rfl rfl (Nat.le_of_ble_eq_true rfl) rfl fun σ hO => ?_
      have hO : Obs _ _ [_, _, _] := hO
      refine wpn_nil ?_
      refine wpn_assoc ?_
      refine wpn_qa hO [2, 2] [(0, .func (.yield l) #[] #[]), (2, .pointer (some af1)), (3, .pointer (some af2)), (6, .pointer (some ⟨b156, 0, none⟩)), (9, .slice Af0_0 qf0.length cf0_0), (10, .int .i64 (qf0.length : Int)), (11, .int .i64 x81), (19, .bool (decide (y147.From ≥ y147.To)))] (And.intro (And.intro rfl rfl) (And.intro (And.intro rfl rfl) (ar (ar (ar (ar (ar (ar (ar (ar trivial)))))))))) fun j => ?_
      rcases ite_some hF with ⟨hb157, hF⟩ | ⟨hb157, hF⟩
      · refine wpn_cT (congrArg Value.bool hb157) ?_
        refine wpn_ex ?_
        refine inb_x ?_
        refine thn_i ?_
        refine wpn_rlast ?_
        refine wpn_qa hO [] [(0, .func (.yield l) #[] #[]), (2, .pointer (some af1)), (3, .pointer (some af2)), (9, .slice Af0_0 qf0.length cf0_0), (10, .int .i64 (qf0.length : Int)), (11, .int .i64 (IntKind.i64.wrap (x81 + 1)))] (ar (ar (ar (ar (ar (ar trivial)))))) fun j => ?_
        refine wpn_end ?_
        refine thn_i ?_
        have hO := hO.sel [0, 1] (by decide)
        exact ⟨n145, Nat.lt_succ_self _, A73, c74, o75, x76, (IntKind.i64.wrap (x81 + 1)), _, ar (ar (ar (ar (ar (ar trivial))))), hO, hL, w77, m78, m79, r80, hF⟩
      · refine wpn_cF (congrArg Value.bool hb157) ?_
        refine wpn_sk ?_
        refine wpn_pq ?_
        refine wpn_qa hO [2] [(0, .func (.yield l) #[] #[]), (2, .pointer (some af1)), (3, .pointer (some af2)), (6, .pointer (some ⟨b156, 0, none⟩)), (9, .slice Af0_0 qf0.length cf0_0), (10, .int .i64 (qf0.length : Int)), (11, .int .i64 x81), (20, .agg #[(.int .i64 y147.From), (.int .i64 y147.To), (.slice A154 y147.At.length c155)])] (And.intro (And.intro rfl rfl) (ar (ar (ar (ar (ar (ar (ar (ar trivial))))))))) fun j => ?_
        refine wpn_pq ?_
        refine wpn_qa hO [2] [(0, .func (.yield l) #[] #[]), (2, .pointer (some af1)), (3, .pointer (some af2)), (6, .pointer (some ⟨b156, 0, none⟩)), (9, .slice Af0_0 qf0.length cf0_0), (10, .int .i64 (qf0.length : Int)), (11, .int .i64 x81), (20, .agg #[(.int .i64 y147.From), (.int .i64 y147.To), (.slice A154 y147.At.length c155)]), (21, .agg #[(.int .i64 y147.From), (.int .i64 y147.To), (.slice A154 y147.At.length c155)])] (And.intro (And.intro rfl rfl) (ar (ar (ar (ar (ar (ar (ar (ar (ar trivial)))))))))) fun j => ?_
        refine wpn_cut (fun e' σ' => ∃ (A160 : Option Addr) (c161 : Nat) (o162 : Ob) (x163 : List za) (b168 : Nat) (b170 : Nat) (τ' : Hp), agr [(0, .func (.yield l) #[] #[]), (2, .pointer (some af1)), (3, .pointer (some af2)), (6, .pointer (some ⟨b156, 0, none⟩)), (7, .pointer (some ⟨b168, 0, none⟩)), (8, .pointer (some ⟨b170, 0, none⟩)), (9, .slice Af0_0 qf0.length cf0_0), (10, .int .i64 (qf0.length : Int)), (11, .int .i64 x81)] e' ∧ Obs τ' σ' [some (bm0_0, ⟨[.slice A160 x163.length c161], 23, 1, true⟩), o162, some (b156, ⟨[.int .i64 y147.From, .int .i64 y147.To, .slice A154 y147.At.length c155], 46, 3, true⟩), some (b168, ⟨[.int .i64 y147.From, .int .i64 y147.To, .slice A154 y147.At.length c155], 46, 3, true⟩), some (b170, ⟨[.int .i64 y147.From, .int .i64 y147.To, .slice A154 y147.At.length c155], 46, 3, true⟩)] ∧ Hp.le τ τ' ∧ OwnO zc 46 τ' (.slice A160 x163.length c161) x163 o162 ∧ At τ' af1 [.int .i64 qf1] ∧ At τ' af2 [.int .i64 qf2] ∧ RdT zd τ' (.slice A154 y147.At.length c155) y147.At ∧ RdT zd τ' (.slice A154 y147.At.length c155) y147.At ∧ RdT zd τ' (.slice A154 y147.At.length c155) y147.At ∧ RdT zc τ' (.slice Af0_0 qf0.length cf0_0) qf0 ∧ z7 (zt qf0 qf1 qf2 n145) qf1 qf2 x81 y147 x163 = some rr) ?_ ?_
        · refine wpn_ptl ?_
          refine wpn_pb ?_ ?_
          · refine wpn_pe ?_
            refine wpn_late ?_
            refine wpn_al hO fun b207 σ hO => ?_
            have hO : Obs _ _ [_, _, _, _] := hO
            refine wpn_nil ?_
            refine wpn_ag ⟨(again_ld rfl (hO.val (i := 2) (off := 0) (agg := true) (n := 3) rfl rfl) rfl), (again_ld rfl (hO.val (i := 2) (off := 0) (agg := true) (n := 3) rfl rfl) rfl), trivial⟩ ?_
            refine wpn_nil ?_
            refine wpn_pe ?_
            refine wpn_late ?_
            refine wpn_al hO fun b208 σ hO => ?_
            have hO : Obs _ _ [_, _, _, _, _] := hO
            refine wpn_nil ?_
            refine wpn_ag ⟨(again_ld rfl (hO.val (i := 2) (off := 0) (agg := true) (n := 3) rfl rfl) rfl), (again_ld rfl (hO.val (i := 2) (off := 0) (agg := true) (n := 3) rfl rfl) rfl), trivial⟩ ?_
            refine wpn_nil ?_
            refine wpn_pe ?_
            refine wpn_late ?_
            refine wpn_st hO (i := 3) rfl (off := 0) rfl rfl rfl rfl (Nat.le_of_ble_eq_true rfl) rfl fun σ hO => ?_
            have hO : Obs _ _ [_, _, _, _, _] := hO
            refine wpn_nil ?_
            refine wpn_ag ⟨(again_ld rfl (hO.val (i := 2) (off := 0) (agg := true) (n := 3) rfl rfl) rfl), trivial⟩ ?_
            refine wpn_nil ?_
            refine wpn_pe ?_
            refine wpn_st hO (i := 4) rfl (off := 0) rfl rfl rfl rfl (Nat.le_of_ble_eq_true rfl) rfl fun σ hO => ?_
            have hO : Obs _ _ [_, _, _, _, _] := hO
            refine wpn_nil ?_
            refine wpn_pd ?_
            refine wpn_end ?_
            refine thn_i ?_
            exact ⟨A73, c74, o75, x76, b207, b208, _, ar (ar (ar (ar (ar (ar (ar (ar (ar trivial)))))))), hO, hL, w77, m78, m79, r153, r153, r153, r80, hF⟩
          · refine wpn_pe ?_
            refine wpn_late ?_
            refine wpn_al hO fun b208 σ hO => ?_
            have hO : Obs _ _ [_, _, _, _] := hO
            refine wpn_nil ?_
            refine wpn_ag ⟨(again_ld rfl (hO.val (i := 2) (off := 0) (agg := true) (n := 3) rfl rfl) rfl), (again_ld rfl (hO.val (i := 2) (off := 0) (agg := true) (n := 3) rfl rfl) rfl), trivial⟩ ?_
            refine wpn_nil ?_
            refine wpn_pe ?_
            refine wpn_late ?_
            refine wpn_al hO fun b207 σ hO => ?_
            have hO : Obs _ _ [_, _, _, _, _] := hO
            refine wpn_nil ?_
            refine wpn_ag ⟨(again_ld rfl (hO.val (i := 2) (off := 0) (agg := true) (n := 3) rfl rfl) rfl), (again_ld rfl (hO.val (i := 2) (off := 0) (agg := true) (n := 3) rfl rfl) rfl), trivial⟩ ?_
            refine wpn_nil ?_
            refine wpn_pe ?_
            refine wpn_late ?_
            refine wpn_st hO (i := 4) rfl (off := 0) rfl rfl rfl rfl (Nat.le_of_ble_eq_true rfl) rfl fun σ hO => ?_
            have hO : Obs _ _ [_, _, _, _, _] := hO
            refine wpn_nil ?_
            refine wpn_ag ⟨(again_ld rfl (hO.val (i := 2) (off := 0) (agg := true) (n := 3) rfl rfl) rfl), trivial⟩ ?_
            refine wpn_nil ?_
            refine wpn_pe ?_
            refine wpn_st hO (i := 3) rfl (off := 0) rfl rfl rfl rfl (Nat.le_of_ble_eq_true rfl) rfl fun σ hO => ?_
            have hO : Obs _ _ [_, _, _, _, _] := hO
            refine wpn_nil ?_
            refine wpn_pd ?_
            refine wpn_end ?_
            refine thn_i ?_
            have hO := hO.sel [0, 1, 2, 4, 3] (by decide)
            exact ⟨A73, c74, o75, x76, b207, b208, _, ar (ar (ar (ar (ar (ar (ar (ar (ar trivial)))))))), hO, hL, w77, m78, m79, r153, r153, r153, r80, hF⟩
        · rintro e σ ⟨A160, c161, o162, x163, b168, b170, _, hA, hO, hL, w164, m165, m166, r167, r169, r171, r172, hF⟩
          rw [← sets_agr _ _ hA]
          unfold z7 at hF
          refine wpn_p2r ?_
          refine wpn_q hO 2 [2] [(0, .func (.yield l) #[] #[]), (2, .pointer (some af1)), (3, .pointer (some af2)), (6, .pointer (some ⟨b156, 0, none⟩)), (7, .pointer (some ⟨b168, 0, none⟩)), (8, .pointer (some ⟨b170, 0, none⟩)), (9, .slice Af0_0 qf0.length cf0_0), (10, .int .i64 (qf0.length : Int)), (11, .int .i64 x81), (23, .int .i64 y147.To)] (And.intro (And.intro rfl rfl) (ar (ar (ar (ar (ar (ar (ar (ar (ar (ar trivial))))))))))) fun j => ?_
          refine wpn_ld rfl (m165.le hO.base).fst ?_
          refine wpn_q hO 3 [2] [(0, .func (.yield l) #[] #[]), (2, .pointer (some af1)), (3, .pointer (some af2)), (7, .pointer (some ⟨b168, 0, none⟩)), (8, .pointer (some ⟨b170, 0, none⟩)), (9, .slice Af0_0 qf0.length cf0_0), (10, .int .i64 (qf0.length : Int)), (11, .int .i64 x81), (25, .int .i64 (minI y147.To qf1)), (26, .pointer (some ⟨b156, 0, none⟩)), (27, .int .i64 y147.From)] (And.intro (And.intro rfl rfl) (ar (ar (ar (ar (ar (ar (ar (ar (ar (ar (ar trivial)))))))))))) fun j => ?_
          refine wpn_ld rfl (m166.le hO.base).fst ?_
          refine wpn_q hO 2 [] [(0, .func (.yield l) #[] #[]), (2, .pointer (some af1)), (3, .pointer (some af2)), (7, .pointer (some ⟨b168, 0, none⟩)), (8, .pointer (some ⟨b170, 0, none⟩)), (9, .slice Af0_0 qf0.length cf0_0), (10, .int .i64 (qf0.length : Int)), (11, .int .i64 x81), (25, .int .i64 (minI y147.To qf1)), (26, .pointer (some ⟨b156, 0, none⟩)), (27, .int .i64 y147.From), (28, .int .i64 qf2), (29, .int .i64 (maxI y147.From qf2)), (30, .pointer (some ⟨b168, 1, none⟩))] (ar (ar (ar (ar (ar (ar (ar (ar (ar (ar (ar (ar (ar (ar trivial)))))))))))))) fun j => ?_
          refine wpn_late ?_
          refine wpn_st hO (i := 3) rfl (off := 1) rfl rfl rfl rfl (Nat.le_of_ble_eq_true rfl) rfl fun σ hO => ?_
          have hO : Obs _ _ [_, _, _, _, _] := hO
          refine wpn_nil ?_
          refine wpn_ag ⟨(again_ld rfl (m166.le hO.base).fst rfl), (again_ld rfl (hO.val (i := 2) (off := 0) (agg := false) (n := 1) rfl rfl) rfl), trivial⟩ ?_
          refine wpn_q hO 1 [] [(0, .func (.yield l) #[] #[]), (2, .pointer (some af1)), (3, .pointer (some af2)), (7, .pointer (some ⟨b168, 0, none⟩)), (8, .pointer (some ⟨b170, 0, none⟩)), (9, .slice Af0_0 qf0.length cf0_0), (10, .int .i64 (qf0.length : Int)), (11, .int .i64 x81), (29, .int .i64 (maxI y147.From qf2)), (31, .pointer (some ⟨b170, 0, none⟩))] (ar (ar (ar (ar (ar (ar (ar (ar (ar (ar trivial)))))))))) fun j => ?_
          refine wpn_st hO (i := 4) rfl (off := 0) rfl rfl rfl rfl (Nat.le_of_ble_eq_true rfl) rfl fun σ hO => ?_
          have hO : Obs _ _ [_, _, _, _, _] := hO
          refine wpn_nil ?_
          refine wpn_q hO 6 [3, 3] [(0, .func (.yield l) #[] #[]), (2, .pointer (some af1)), (3, .pointer (some af2)), (7, .pointer (some ⟨b168, 0, none⟩)), (8, .pointer (some ⟨b170, 0, none⟩)), (9, .slice Af0_0 qf0.length cf0_0), (10, .int .i64 (qf0.length : Int)), (11, .int .i64 x81), (37, .bool (decide (y147.From < (minI y147.To qf1))))] (And.intro (And.intro rfl rfl) (And.intro (And.intro rfl rfl) (ar (ar (ar (ar (ar (ar (ar (ar (ar trivial))))))))))) fun j => ?_
          rcases ite_some hF with ⟨hb173, hF⟩ | ⟨hb173, hF⟩
          · refine wpn_gT (congrArg (fun x => isB (.bool x) true) hb173) ?_
            refine wpn_q hO 2 [3] [(0, .func (.yield l) #[] #[]), (2, .pointer (some af1)), (3, .pointer (some af2)), (8, .pointer (some ⟨b170, 0, none⟩)), (9, .slice Af0_0 qf0.length cf0_0), (10, .int .i64 (qf0.length : Int)), (11, .int .i64 x81), (37, .bool (decide (y147.From < (minI y147.To qf1)))), (38, .func (.yield l) #[] #[]), (39, .agg #[(.int .i64 y147.From), (.int .i64 (minI y147.To qf1)), (.slice A154 y147.At.length c155)])] (And.intro (And.intro rfl rfl) (ar (ar (ar (ar (ar (ar (ar (ar (ar (ar trivial))))))))))) fun j => ?_
            obtain ⟨c174, h175, hF⟩ := bind_some hF
            have hO := hO.sel [2, 3, 4, 0, 1] (by decide)
            refine wpn_yv (hs := [_, _, _]) (vs := [_, _]) rfl hl hs0 hO (hy h175 r169 w164) rfl fun _ σ _ _ hO h176 h177 => ?_
            have hL := hL.trans h176
            have m165 := m165.le h176
            have m166 := m166.le h176
            have r172 := r172.le h176
            have r169 := r169.le h176
            have r167 := r167.le h176
            have r171 := r171.le h176
            obtain ⟨v178, o181, rfl, rfl, w182⟩ := h177
            obtain ⟨A179, c180, rfl, -⟩ := w182.form
            have hO : Obs _ _ [_, _, _, _, _] := hO
            refine wpn_q hO 1 [] [(0, .func (.yield l) #[] #[]), (2, .pointer (some af1)), (3, .pointer (some af2)), (8, .pointer (some ⟨b170, 0, none⟩)), (9, .slice Af0_0 qf0.length cf0_0), (10, .int .i64 (qf0.length : Int)), (11, .int .i64 x81), (37, .bool (decide (y147.From < (minI y147.To qf1)))), (41, .bool (!c174.1))] (ar (ar (ar (ar (ar (ar (ar (ar (ar trivial))))))))) fun j => ?_
            refine wpn_pk (congrArg Value.bool hb173) ?_
            refine wpn_q hO 1 [] [(0, .func (.yield l) #[] #[]), (2, .pointer (some af1)), (3, .pointer (some af2)), (8, .pointer (some ⟨b170, 0, none⟩)), (9, .slice Af0_0 qf0.length cf0_0), (10, .int .i64 (qf0.length : Int)), (11, .int .i64 x81), (43, .bool (!c174.1))] (ar (ar (ar (ar (ar (ar (ar (ar trivial)))))))) fun j => ?_
            rcases ite_some hF with ⟨hb183, hF⟩ | ⟨hb183, hF⟩
            · refine wpn_gF (congrArg (fun x => isB (.bool x) false) hb183) ?_
              refine wpn_gF rfl ?_
              refine wpn_gF (congrArg (fun x => isB (.bool x) false) hb183) ?_
              refine wpn_pk (congrArg Value.bool hb183) ?_
              refine wpn_nil ?_
              refine wpn_clast ?_
              refine wpn_cT rfl ?_
              refine wpn_rt ?_
              refine inb_r1 ?_
              refine thn_r1 ?_
              refine thn_r1 ?_
              refine inb_r1 ?_
              refine thn_r1 ?_
              injection hF with hF
              subst hF
              have hO := hO.sel [3, 4] (by decide)
              exact (hQ _ _ _ _ _ rfl hO hL ⟨_, _, rfl, rfl, w182⟩).1
            · refine wpn_gT (congrArg (fun x => isB (.bool x) false) hb183) ?_
              refine wpn_q hO 6 [2, 2] [(0, .func (.yield l) #[] #[]), (2, .pointer (some af1)), (3, .pointer (some af2)), (8, .pointer (some ⟨b170, 0, none⟩)), (9, .slice Af0_0 qf0.length cf0_0), (10, .int .i64 (qf0.length : Int)), (11, .int .i64 x81), (43, .bool (!c174.1)), (49, .bool (decide ((maxI y147.From qf2) < y147.To)))] (And.intro (And.intro rfl rfl) (And.intro (And.intro rfl rfl) (ar (ar (ar (ar (ar (ar (ar (ar (ar trivial))))))))))) fun j => ?_
              rcases ite_some hF with ⟨hb184, hF⟩ | ⟨hb184, hF⟩
              · refine wpn_gT (congrArg (fun x => isB (.bool x) true) hb184) ?_
                refine wpn_q hO 2 [2] [(0, .func (.yield l) #[] #[]), (2, .pointer (some af1)), (3, .pointer (some af2)), (9, .slice Af0_0 qf0.length cf0_0), (10, .int .i64 (qf0.length : Int)), (11, .int .i64 x81), (43, .bool (!c174.1)), (49, .bool (decide ((maxI y147.From qf2) < y147.To))), (50, .func (.yield l) #[] #[]), (51, .agg #[(.int .i64 (maxI y147.From qf2)), (.int .i64 y147.To), (.slice A154 y147.At.length c155)])] (And.intro (And.intro rfl rfl) (ar (ar (ar (ar (ar (ar (ar (ar (ar (ar trivial))))))))))) fun j => ?_
                obtain ⟨c185, h186, hF⟩ := bind_some hF
                refine wpn_yv (hs := [_, _, _]) (vs := [_, _]) rfl hl hs0 hO (hy h186 r171 w182) rfl fun _ σ _ _ hO h187 h188 => ?_
                have hL := hL.trans h187
                have m165 := m165.le h187
                have m166 := m166.le h187
                have r172 := r172.le h187
                have r171 := r171.le h187
                have r167 := r167.le h187
                have r169 := r169.le h187
                obtain ⟨v189, o192, rfl, rfl, w193⟩ := h188
                obtain ⟨A190, c191, rfl, -⟩ := w193.form
                have hO : Obs _ _ [_, _, _, _, _] := hO
                refine wpn_q hO 1 [] [(0, .func (.yield l) #[] #[]), (2, .pointer (some af1)), (3, .pointer (some af2)), (9, .slice Af0_0 qf0.length cf0_0), (10, .int .i64 (qf0.length : Int)), (11, .int .i64 x81), (43, .bool (!c174.1)), (49, .bool (decide ((maxI y147.From qf2) < y147.To))), (53, .bool (!c185.1))] (ar (ar (ar (ar (ar (ar (ar (ar (ar trivial))))))))) fun j => ?_
                refine wpn_gT (congrArg (fun x => isB (.bool x) false) hb183) ?_
                refine wpn_pk (congrArg Value.bool hb184) ?_
                refine wpn_pk (congrArg Value.bool hb183) ?_
                refine wpn_nil ?_
                refine wpn_clast ?_
                rcases ite_some hF with ⟨hb194, hF⟩ | ⟨hb194, hF⟩
                · refine wpn_cT (congrArg Value.bool hb194) ?_
                  refine wpn_rt ?_
                  refine inb_r1 ?_
                  refine thn_r1 ?_
                  refine thn_r1 ?_
                  refine inb_r1 ?_
                  refine thn_r1 ?_
                  injection hF with hF
                  subst hF
                  have hO := hO.sel [3, 4] (by decide)
                  exact (hQ _ _ _ _ _ rfl hO hL ⟨_, _, rfl, rfl, w193⟩).1
                · refine wpn_cF (congrArg Value.bool hb194) ?_
                  refine wpn_sk ?_
                  refine wpn_end ?_
                  refine inb_i ?_
                  refine thn_i ?_
                  refine wpn_rlast ?_
                  refine wpn_qa hO [] [(0, .func (.yield l) #[] #[]), (2, .pointer (some af1)), (3, .pointer (some af2)), (9, .slice Af0_0 qf0.length cf0_0), (10, .int .i64 (qf0.length : Int)), (11, .int .i64 (IntKind.i64.wrap (x81 + 1)))] (ar (ar (ar (ar (ar (ar trivial)))))) fun j => ?_
                  refine wpn_end ?_
                  refine thn_i ?_
                  have hO := hO.sel [3, 4] (by decide)
                  exact ⟨n145, Nat.lt_succ_self _, A190, c191, o192, c185.2, (IntKind.i64.wrap (x81 + 1)), _, ar (ar (ar (ar (ar (ar trivial))))), hO, hL, w193, m165, m166, r172, hF⟩
              · refine wpn_gF (congrArg (fun x => isB (.bool x) true) hb184) ?_
                refine wpn_gT (congrArg (fun x => isB (.bool x) false) hb183) ?_
                refine wpn_pk (congrArg Value.bool hb184) ?_
                refine wpn_pk (congrArg Value.bool hb183) ?_
                refine wpn_nil ?_
                refine wpn_clast ?_
                refine wpn_cF rfl ?_
                refine wpn_sk ?_
                refine wpn_end ?_
                refine inb_i ?_
                refine thn_i ?_
                refine wpn_rlast ?_
                refine wpn_qa hO [] [(0, .func (.yield l) #[] #[]), (2, .pointer (some af1)), (3, .pointer (some af2)), (9, .slice Af0_0 qf0.length cf0_0), (10, .int .i64 (qf0.length : Int)), (11, .int .i64 (IntKind.i64.wrap (x81 + 1)))] (ar (ar (ar (ar (ar (ar trivial)))))) fun j => ?_
                refine wpn_end ?_
                refine thn_i ?_
                have hO := hO.sel [3, 4] (by decide)
                exact ⟨n145, Nat.lt_succ_self _, A179, c180, o181, c174.2, (IntKind.i64.wrap (x81 + 1)), _, ar (ar (ar (ar (ar (ar trivial))))), hO, hL, w182, m165, m166, r172, hF⟩
          · refine wpn_gF (congrArg (fun x => isB (.bool x) true) hb173) ?_
            refine wpn_pk (congrArg Value.bool hb173) ?_
            refine wpn_q hO 1 [] [(0, .func (.yield l) #[] #[]), (2, .pointer (some af1)), (3, .pointer (some af2)), (8, .pointer (some ⟨b170, 0, none⟩)), (9, .slice Af0_0 qf0.length cf0_0), (10, .int .i64 (qf0.length : Int)), (11, .int .i64 x81), (43, .bool false)] (ar (ar (ar (ar (ar (ar (ar (ar trivial)))))))) fun j => ?_
            rcases ite_some hF with ⟨hb195, hF⟩ | ⟨hb195, hF⟩
            · refine wpn_gF (congrArg (fun x => isB (.bool x) false) hb195) ?_
              refine wpn_gF rfl ?_
              refine wpn_gF (congrArg (fun x => isB (.bool x) false) hb195) ?_
              refine wpn_pk (congrArg Value.bool hb195) ?_
              refine wpn_nil ?_
              refine wpn_clast ?_
              refine wpn_cT rfl ?_
              refine wpn_rt ?_
              refine inb_r1 ?_
              refine thn_r1 ?_
              refine thn_r1 ?_
              refine inb_r1 ?_
              refine thn_r1 ?_
              injection hF with hF
              subst hF
              have hO := hO.sel [0, 1] (by decide)
              exact (hQ _ _ _ _ _ rfl hO hL ⟨_, _, rfl, rfl, w164⟩).1
            · refine wpn_gT (congrArg (fun x => isB (.bool x) false) hb195) ?_
              refine wpn_q hO 6 [4, 4] [(0, .func (.yield l) #[] #[]), (2, .pointer (some af1)), (3, .pointer (some af2)), (8, .pointer (some ⟨b170, 0, none⟩)), (9, .slice Af0_0 qf0.length cf0_0), (10, .int .i64 (qf0.length : Int)), (11, .int .i64 x81), (43, .bool false), (49, .bool (decide ((maxI y147.From qf2) < y147.To)))] (And.intro (And.intro rfl rfl) (And.intro (And.intro rfl rfl) (ar (ar (ar (ar (ar (ar (ar (ar (ar trivial))))))))))) fun j => ?_
              rcases ite_some hF with ⟨hb196, hF⟩ | ⟨hb196, hF⟩
              · refine wpn_gT (congrArg (fun x => isB (.bool x) true) hb196) ?_
                refine wpn_q hO 2 [4] [(0, .func (.yield l) #[] #[]), (2, .pointer (some af1)), (3, .pointer (some af2)), (9, .slice Af0_0 qf0.length cf0_0), (10, .int .i64 (qf0.length : Int)), (11, .int .i64 x81), (43, .bool false), (49, .bool (decide ((maxI y147.From qf2) < y147.To))), (50, .func (.yield l) #[] #[]), (51, .agg #[(.int .i64 (maxI y147.From qf2)), (.int .i64 y147.To), (.slice A154 y147.At.length c155)])] (And.intro (And.intro rfl rfl) (ar (ar (ar (ar (ar (ar (ar (ar (ar (ar trivial))))))))))) fun j => ?_
                obtain ⟨c197, h198, hF⟩ := bind_some hF
                have hO := hO.sel [2, 3, 4, 0, 1] (by decide)
                refine wpn_yv (hs := [_, _, _]) (vs := [_, _]) rfl hl hs0 hO (hy h198 r171 w164) rfl fun _ σ _ _ hO h199 h200 => ?_
                have hL := hL.trans h199
                have m165 := m165.le h199
                have m166 := m166.le h199
                have r172 := r172.le h199
                have r171 := r171.le h199
                have r167 := r167.le h199
                have r169 := r169.le h199
                obtain ⟨v201, o204, rfl, rfl, w205⟩ := h200
                obtain ⟨A202, c203, rfl, -⟩ := w205.form
                have hO : Obs _ _ [_, _, _, _, _] := hO
                refine wpn_q hO 1 [] [(0, .func (.yield l) #[] #[]), (2, .pointer (some af1)), (3, .pointer (some af2)), (9, .slice Af0_0 qf0.length cf0_0), (10, .int .i64 (qf0.length : Int)), (11, .int .i64 x81), (43, .bool false), (49, .bool (decide ((maxI y147.From qf2) < y147.To))), (53, .bool (!c197.1))] (ar (ar (ar (ar (ar (ar (ar (ar (ar trivial))))))))) fun j => ?_
                refine wpn_gT (congrArg (fun x => isB (.bool x) false) hb195) ?_
                refine wpn_pk (congrArg Value.bool hb196) ?_
                refine wpn_pk (congrArg Value.bool hb195) ?_
                refine wpn_nil ?_
                refine wpn_clast ?_
                rcases ite_some hF with ⟨hb206, hF⟩ | ⟨hb206, hF⟩
                · refine wpn_cT (congrArg Value.bool hb206) ?_
                  refine wpn_rt ?_
                  refine inb_r1 ?_
                  refine thn_r1 ?_
                  refine thn_r1 ?_
                  refine inb_r1 ?_
                  refine thn_r1 ?_
                  injection hF with hF
                  subst hF
                  have hO := hO.sel [3, 4] (by decide)
                  exact (hQ _ _ _ _ _ rfl hO hL ⟨_, _, rfl, rfl, w205⟩).1
                · refine wpn_cF (congrArg Value.bool hb206) ?_
                  refine wpn_sk ?_
                  refine wpn_end ?_
                  refine inb_i ?_
                  refine thn_i ?_
                  refine wpn_rlast ?_
                  refine wpn_qa hO [] [(0, .func (.yield l) #[] #[]), (2, .pointer (some af1)), (3, .pointer (some af2)), (9, .slice Af0_0 qf0.length cf0_0), (10, .int .i64 (qf0.length : Int)), (11, .int .i64 (IntKind.i64.wrap (x81 + 1)))] (ar (ar (ar (ar (ar (ar trivial)))))) fun j => ?_
                  refine wpn_end ?_
                  refine thn_i ?_
                  have hO := hO.sel [3, 4] (by decide)
                  exact ⟨n145, Nat.lt_succ_self _, A202, c203, o204, c197.2, (IntKind.i64.wrap (x81 + 1)), _, ar (ar (ar (ar (ar (ar trivial))))), hO, hL, w205, m165, m166, r172, hF⟩
              · refine wpn_gF (congrArg (fun x => isB (.bool x) true) hb196) ?_
                refine wpn_gT (congrArg (fun x => isB (.bool x) false) hb195) ?_
                refine wpn_pk (congrArg Value.bool hb196) ?_
                refine wpn_pk (congrArg Value.bool hb195) ?_
                refine wpn_nil ?_
                refine wpn_clast ?_
                refine wpn_cF rfl ?_
                refine wpn_sk ?_
                refine wpn_end ?_
                refine inb_i ?_
                refine thn_i ?_
                refine wpn_rlast ?_
                refine wpn_qa hO [] [(0, .func (.yield l) #[] #[]), (2, .pointer (some af1)), (3, .pointer (some af2)), (9, .slice Af0_0 qf0.length cf0_0), (10, .int .i64 (qf0.length : Int)), (11, .int .i64 (IntKind.i64.wrap (x81 + 1)))] (ar (ar (ar (ar (ar (ar trivial)))))) fun j => ?_
                refine wpn_end ?_
                refine thn_i ?_
                have hO := hO.sel [0, 1] (by decide)
                exact ⟨n145, Nat.lt_succ_self _, A160, c161, o162, x163, (IntKind.i64.wrap (x81 + 1)), _, ar (ar (ar (ar (ar (ar trivial))))), hO, hL, w164, m165, m166, r172, hF⟩
    · refine wpn_cF (congrArg Value.bool hb146) ?_
      refine wpn_ex ?_
      refine thn_x ?_
      refine inb_x ?_
      refine thn_i ?_
      refine wpn_end ?_
      injection hF with hF
      subst hF
      exact (hQ _ _ _ _ _ rfl hO hL ⟨_, _, rfl, rfl, w77⟩).2
theorem zcJ {τ : Hp} {v0 : Value} {p0 : (List za)} {p1 p2 : Int} (r0 : RdT zc τ v0 p0) :
    Ctr Try.prog 44 #[v0, .int .i64 p1, .int .i64 p2] τ [] (fun v τ' vs' => ∃ (v0 : Value) (a0 a1 a2 : Addr), v = .func (.func 58) #[] #[.pointer (some a0), .pointer (some a1), .pointer (some a2)] ∧ vs' = [] ∧ RdT zc τ' v0 p0 ∧ At τ' a0 [v0] ∧ At τ' a1 [.int .i64 p1] ∧ At τ' a2 [.int .i64 p2]) := by
  obtain ⟨A0, c0, rfl, -⟩ := r0.form
  refine ctr_of (args := [.slice A0 p0.length c0, .int .i64 p1, .int .i64 p2]) hm Try.func44 s44 rfl fun w0 σ hO Q hQ => ?_
  have hL := Hp.le.refl τ
  show wpn _ _ a44.body _ _ _
  unfold a44
  dsimp only
  refine wpn_bx hO rfl rfl fun b3 σ hO => ?_
  have hO : Obs _ _ [_] := hO
  refine wpn_bx hO rfl rfl fun b4 σ hO => ?_
  have hO : Obs _ _ [_, _] := hO
  refine wpn_bx hO rfl rfl fun b5 σ hO => ?_
  have hO : Obs _ _ [_, _, _] := hO
  obtain ⟨_, h6, m6, hO⟩ := hO.shareV (i := 0) rfl
  obtain ⟨_, h7, m7, hO⟩ := hO.shareV (i := 1) rfl
  obtain ⟨_, h8, m8, hO⟩ := hO.shareV (i := 2) rfl
  refine wpn_qa hO [] [(3, .pointer (some ⟨b3, 0, none⟩)), (4, .pointer (some ⟨b4, 0, none⟩)), (5, .pointer (some ⟨b5, 0, none⟩))] (ar (ar (ar trivial))) fun j => ?_
  refine wpn_qa hO [] [(6, .func (.func 58) #[] #[.pointer (some ⟨b3, 0, none⟩), .pointer (some ⟨b4, 0, none⟩), .pointer (some ⟨b5, 0, none⟩)])] (ar trivial) fun j => ?_
  refine wpn_r1 ?_
  exact hQ _ _ _ _ _ rfl (hO.sel [] (by decide)) (((hL.trans h6).trans h7).trans h8) ⟨_, _, _, _, rfl, rfl, ((r0.le h6).le h7).le h8, (m6.le h7).le h8, m7.le h8, m8⟩
def a23as : XCode := (.reg [.s ⟨(some 10), .alloc 46 [(.int .i64 0), (.int .i64 0), (.slice none 0 0)], []⟩,
  .s ⟨none, .store 3 (.t 10) (.t 31), []⟩])
def a23bd : XCode := (.block 3 (.par [.s ⟨(some 32), .load false 1 (.t 7), []⟩,
  .s ⟨(some 33), .load true 3 (.t 10), []⟩,
  .s ⟨(some 34), .call 43 [(.t 33)], [⟨none, (some 32), .load false 1 (.t 7)⟩]⟩,
  .s ⟨(some 35), .bslice 46 1 [(.int .i64 0), (.int .i64 0), (.slice none 0 0)] [(0, 3, (.t 34))], [⟨none, (some 32), .load false 1 (.t 7)⟩]⟩,
  .s ⟨(some 36), .app 46 3 40 (.t 32) (.t 35), []⟩,
  .s ⟨none, .store 1 (.t 7) (.t 36), []⟩]))
def a23c : XCode := (.seq (.reg [.s ⟨(some 11), .mv (.t 1), []⟩,
  .s ⟨(some 12), .mv (.t 2), []⟩,
  .s ⟨(some 13), .bin .geq (.t 11) (.t 12), []⟩])
 (.cond (.t 13) (.seq (.seq (.reg [.s ⟨(some 14), .mv (.t 0), []⟩,
  .s ⟨(some 15), .lenL (.t 14), []⟩,
  .s ⟨(some 16), .mv (.c (.int .i64 0)), []⟩])
 (.block 0 (.loop (.seq (.reg [.s ⟨(some 17), .bin .lss (.t 16) (.t 15), []⟩])
 (.seq (.cond (.t 17) .skip
 (.exit 0))
 (.seq (.block 1 (.seq (.reg [.s ⟨(some 18), .idx 3 (.t 14) (.t 16), []⟩,
  .s ⟨(some 19), .load true 3 (.t 18), []⟩,
  .s ⟨(some 9), .alloc 46 [(.int .i64 0), (.int .i64 0), (.slice none 0 0)], []⟩,
  .s ⟨none, .store 3 (.t 9) (.t 19), []⟩])
 (.par [.s ⟨(some 20), .load false 1 (.t 7), []⟩,
  .s ⟨(some 21), .load true 3 (.t 9), []⟩,
  .s ⟨(some 22), .call 43 [(.t 21)], [⟨none, (some 20), .load false 1 (.t 7)⟩]⟩,
  .s ⟨(some 23), .bslice 46 1 [(.int .i64 0), (.int .i64 0), (.slice none 0 0)] [(0, 3, (.t 22))], [⟨none, (some 20), .load false 1 (.t 7)⟩]⟩,
  .s ⟨(some 24), .app 46 3 40 (.t 20) (.t 23), []⟩,
  .s ⟨none, .store 1 (.t 7) (.t 24), []⟩])))
 (.reg [.s ⟨(some 25), .bin .add (.t 16) (.c (.int .i64 1)), []⟩,
  .s ⟨(some 16), .mv (.t 25), []⟩])))))))
 (.seq (.reg [.s ⟨(some 26), .load false 1 (.t 7), []⟩,
  .s ⟨(some 6), .mv (.t 26), []⟩])
 .ret))
 .skip))
def a23 : RFun := ⟨38, [.t 6], .seq (.reg [.s ⟨(some 6), .mv (.c (.slice none 0 0)), []⟩])
 (.seq (.reg [.s ⟨(some 7), .alloc 23 [(.slice none 0 0)], []⟩])
 (.seq a23c (.seqR (.seq (.reg [.s ⟨(some 27), .mv (.t 0), []⟩,
  .s ⟨(some 28), .mv (.t 1), []⟩,
  .s ⟨(some 29), .mv (.t 2), []⟩,
  .s ⟨(some 30), .call 44 [(.t 27), (.t 28), (.t 29)], []⟩])
 (.block 2 (.range 30 31 a23as a23bd)))
 (.seq (.reg [.s ⟨(some 37), .load false 1 (.t 7), []⟩,
  .s ⟨(some 6), .mv (.t 37), []⟩])
 .ret))))⟩
theorem s23 : slimFR Try.prog Try.f23 = some a23.fn := by kernel_rfl
theorem zb8 {τ : Hp} {v0 : Value} {p0 : (List za)} {p1 : Int} {p2 : Int} (r0 : RdT zc τ v0 p0) {rr : (List za)} (hF : zp p0 p1 p2 = some rr) :
    Ctr Try.prog 23 #[v0, .int .i64 p1, .int .i64 p2] τ [] (fun v τ' vs' => ∃ (v0 : Value) (o0 : Ob), v = v0 ∧ vs' = [o0] ∧ OwnO zc 46 τ' v0 rr o0) := by
  obtain ⟨A0, c0, rfl, -⟩ := r0.form
  refine ctr_R (args := [.slice A0 p0.length c0, .int .i64 p1, .int .i64 p2]) hm Try.func23 s23 rfl fun w0 σ hO Q hQ => ?_
  unfold zp at hF
  have hL := Hp.le.refl τ
  show awpR _ _ a23.body _ _ _
  unfold a23
  dsimp only
  refine awpR_s ?_
  refine wpn_rlast ?_
  refine wpn_qa hO [] [(0, .slice A0 p0.length c0), (1, .int .i64 p1), (2, .int .i64 p2)] (ar (ar (ar trivial))) fun j => ?_
  refine wpn_end ?_
  refine thn_i ?_
  refine awpR_s ?_
  refine wpn_rlast ?_
  refine wpn_al hO fun b4 σ hO => ?_
  have hO : Obs _ _ [_] := hO
  refine wpn_nil ?_
  refine wpn_end ?_
  refine thn_i ?_
  refine awpR_s ?_
  unfold a23c
  refine wpn_qa hO [] [(0, .slice A0 p0.length c0), (1, .int .i64 p1), (2, .int .i64 p2), (7, .pointer (some ⟨b4, 0, none⟩)), (13, .bool (decide (p1 ≥ p2)))] (ar (ar (ar (ar (ar trivial))))) fun j => ?_
  refine wpn_clast ?_
  rcases ite_some hF with ⟨hb5, hF⟩ | ⟨hb5, hF⟩
  · refine wpn_cT (congrArg Value.bool hb5) ?_
    refine wpn_assoc ?_
    refine wpn_assoc ?_
    refine wpn_qa hO [] [(7, .pointer (some ⟨b4, 0, none⟩)), (14, .slice A0 p0.length c0), (15, .int .i64 (p0.length : Int)), (16, .int .i64 0)] (ar (ar (ar (ar trivial)))) fun j => ?_
    refine wpn_bl ?_
    have hO := hO.no
    have hO : Obs _ _ [_, _] := hO
    refine wpn_lp (fun (n : Nat) e' σ' => ∃ (A37 : Option Addr) (c38 : Nat) (o39 : Ob) (x40 : List za) (x43 : Int) (τ' : Hp), agr [(7, .pointer (some ⟨b4, 0, none⟩)), (14, .slice A0 p0.length c0), (15, .int .i64 (p0.length : Int)), (16, .int .i64 x43)] e' ∧ Obs τ' σ' [some (b4, ⟨[.slice A37 x40.length c38], 23, 1, true⟩), o39] ∧ Hp.le τ τ' ∧ OwnO zc 46 τ' (.slice A37 x40.length c38) x40 o39 ∧ RdT zc τ' (.slice A0 p0.length c0) p0 ∧ zO p0 n x40 x43 = some rr) big ⟨none, 0, none, [], 0, _, ar (ar (ar (ar trivial))), hO, hL, OwnO.nil _ _ _, r0, hF⟩ ?_
    clear hF hO hL
    rintro n73 e σ ⟨A37, c38, o39, x40, x43, _, hA, hO, hL, w41, r42, hF⟩
    rw [← sets_agr _ _ hA]
    cases n73 with
    | zero => exact nomatch (show none = some rr from hF)
    | succ n73 =>
      replace hF : zU (zO p0 n73) p0 x40 x43 = some rr := hF
      unfold zU at hF
      refine wpn_qa hO [] [(7, .pointer (some ⟨b4, 0, none⟩)), (14, .slice A0 p0.length c0), (15, .int .i64 (p0.length : Int)), (16, .int .i64 x43), (17, .bool (decide (x43 < (p0.length : Int))))] (ar (ar (ar (ar (ar trivial))))) fun j => ?_
      rcases ite_some hF with ⟨hb74, hF⟩ | ⟨hb74, hF⟩
      · refine wpn_cT (congrArg Value.bool hb74) ?_
        refine wpn_sk ?_
        refine wpn_bl ?_
        obtain ⟨y75, g76, hF⟩ := bind_some hF
        refine wpn_idx (T := zc) r42 hO.base rfl rfl g76 (by decide) fun a77 _ k78 m79 => ?_
        obtain ⟨v80, rfl, r81⟩ := k78
        obtain ⟨A82, c83, rfl, -⟩ := r81.form
        refine wpn_ld rfl ((m79.le hO.base).all rfl) ?_
        refine wpn_al hO fun b84 σ hO => ?_
        have hO : Obs _ _ [_, _, _] := hO
        refine wpn_st hO (i := 2) rfl (off := 0) rfl rfl rfl rfl (Nat.le_of_ble_eq_true rfl) rfl fun σ hO => ?_
        have hO : Obs _ _ [_, _, _] := hO
        refine wpn_nil ?_
        refine wpn_plast ?_
        refine wpn_q hO 2 [0, 2] [(7, .pointer (some ⟨b4, 0, none⟩)), (14, .slice A0 p0.length c0), (15, .int .i64 (p0.length : Int)), (16, .int .i64 x43), (20, .slice A37 x40.length c38), (21, .agg #[(.int .i64 y75.From), (.int .i64 y75.To), (.slice A82 y75.At.length c83)])] (And.intro (And.intro rfl rfl) (And.intro (And.intro rfl rfl) (ar (ar (ar (ar (ar (ar trivial)))))))) fun j => ?_
        refine wpn_late ?_
        obtain ⟨c85, h86, hF⟩ := bind_some hF
        refine wpn_c0 hO (zbO r81 h86) rfl fun _ σ _ _ hO h87 h88 => ?_
        have hL := hL.trans h87
        have r42 := r42.le h87
        have w41 := w41.le h87
        have r81 := r81.le h87
        obtain ⟨v89, rfl, rfl, r90⟩ := h88
        obtain ⟨A91, c92, rfl, -⟩ := r90.form
        have hO : Obs _ _ [_, _, _] := hO
        refine wpn_nil ?_
        refine wpn_ag ⟨(again_ld rfl (hO.val (i := 0) (off := 0) (agg := false) (n := 1) rfl rfl) rfl), trivial⟩ ?_
        refine wpn_late ?_
        refine wpn_lit (T := zc) (l := ([(⟨c85.From, c85.To, c85.At⟩ : za)] : List za)) (cs := [.int .i64 c85.From, .int .i64 c85.To, .slice A91 c85.At.length c92]) hO rfl ⟨[.int .i64 c85.From, .int .i64 c85.To, .slice A91 c85.At.length c92], _, rfl, ⟨_, rfl, r90⟩, rfl⟩ rfl (by decide) fun _ σ o95 w96 hO => ?_
        obtain ⟨A93, c94, rfl, -⟩ := w96.form
        have hO : Obs _ _ [_, _, _, _] := hO
        refine wpn_nil ?_
        refine wpn_ag ⟨(again_ld rfl (hO.val (i := 0) (off := 0) (agg := false) (n := 1) rfl rfl) rfl), trivial⟩ ?_
        obtain ⟨_, h98, r97, hO⟩ := w96.share hO (i := 3) rfl
        have hL := hL.trans h98
        have r42 := r42.le h98
        have w41 := w41.le h98
        have hO : Obs _ _ [_, _, _, _] := hO
        obtain ⟨_, hr, hF⟩ := bind_some hF
        refine wpn_apl (T := zc) hO w41 (i := 1) rfl rfl rfl r97 hr (by decide) fun _ σ o101 w102 hO => ?_
        obtain ⟨A99, c100, rfl, -⟩ := w102.form
        have hO : Obs _ _ [_, _, _, _] := hO
        refine wpn_st hO (i := 0) rfl (off := 0) rfl rfl rfl rfl (Nat.le_of_ble_eq_true rfl) rfl fun σ hO => ?_
        have hO : Obs _ _ [_, _, _, _] := hO
        refine wpn_nil ?_
        refine wpn_end ?_
        refine inb_i ?_
        refine thn_i ?_
        refine wpn_rlast ?_
        refine wpn_qa hO [] [(7, .pointer (some ⟨b4, 0, none⟩)), (14, .slice A0 p0.length c0), (15, .int .i64 (p0.length : Int)), (16, .int .i64 (IntKind.i64.wrap (x43 + 1)))] (ar (ar (ar (ar trivial)))) fun j => ?_
        refine wpn_end ?_
        refine thn_i ?_
        have hO := hO.sel [0, 1] (by decide)
        exact ⟨n73, Nat.lt_succ_self _, A99, c100, o101, (x40 ++ ([(⟨c85.From, c85.To, c85.At⟩ : za)] : List za)), (IntKind.i64.wrap (x43 + 1)), _, ar (ar (ar (ar trivial))), hO, hL, w102, r42, hF⟩
      · refine wpn_cF (congrArg Value.bool hb74) ?_
        refine wpn_ex ?_
        refine thn_x ?_
        refine inb_x ?_
        refine thn_i ?_
        refine wpn_assoc ?_
        refine wpn_qa hO [0] [(6, .slice A37 x40.length c38)] (And.intro (And.intro rfl rfl) (ar trivial)) fun j => ?_
        refine wpn_rt ?_
        injection hF with hF
        subst hF
        have hO := hO.sel [1] (by decide)
        exact hQ _ _ _ _ _ rfl hO hL ⟨_, _, rfl, rfl, w41⟩
  · refine wpn_cF (congrArg Value.bool hb5) ?_
    refine wpn_sk ?_
    refine wpn_end ?_
    refine thn_i ?_
    refine awpR_q ?_
    refine awpR_s ?_
    refine wpn_rlast ?_
    refine wpn_q hO 3 [] [(7, .pointer (some ⟨b4, 0, none⟩)), (27, .slice A0 p0.length c0), (28, .int .i64 p1), (29, .int .i64 p2)] (ar (ar (ar (ar trivial)))) fun j => ?_
    refine wpn_c0 hO (zcJ r0) rfl fun _ σ _ _ hO h6 h7 => ?_
    have hL := hL.trans h6
    obtain ⟨v8, a8, a9, a10, rfl, rfl, r8, m8, m9, m10⟩ := h7
    have hO : Obs _ _ [_] := hO
    have hO := hO.no
    have hO : Obs _ _ [_, _] := hO
    refine wpn_nil ?_
    refine wpn_end ?_
    refine thn_i ?_
    refine awpR_b ?_
    refine awpR_r ?_
    refine ⟨58, #[.pointer (some a8), .pointer (some a9), .pointer (some a10)], _, rfl, by kernel_rfl, fun w1 l rec hl hs0 hY => zcC hl hs0 (fun {τ p0 v0_2 qf0 vq oq} rr hF r0_2 wq => ?_) (OwnO.nil _ _ _) r8 m8 m9 m10 hF hO, fun v σ' hK => ?_⟩
    · clear hO
      refine hY _ _ _ _ fun ρ hO w1 => ?_
      obtain ⟨A0_2, c0_2, rfl, -⟩ := r0_2.form
      obtain ⟨Aq, cq, rfl, -⟩ := wq.form
      unfold zk at hF
      have hL := Hp.le.refl τ
      unfold a23as
      refine wpn_rlast ?_
      refine wpn_al hO fun b2 σ hO => ?_
      have hO : Obs _ _ [_, _, _] := hO
      refine wpn_st hO (i := 2) rfl (off := 0) rfl rfl rfl rfl (Nat.le_of_ble_eq_true rfl) rfl fun σ hO => ?_
      have hO : Obs _ _ [_, _, _] := hO
      refine wpn_nil ?_
      refine wpn_end ?_
      refine ⟨rfl, fun w2 => ?_⟩
      unfold a23bd
      refine wpn_blast ?_
      refine wpn_bl ?_
      refine wpn_plast ?_
      refine wpn_q hO 2 [0, 2] [(7, .pointer (some ⟨b4, 0, none⟩)), (32, .slice Aq qf0.length cq), (33, .agg #[(.int .i64 p0.From), (.int .i64 p0.To), (.slice A0_2 p0.At.length c0_2)])] (And.intro (And.intro rfl rfl) (And.intro (And.intro rfl rfl) (ar (ar (ar trivial))))) fun j => ?_
      refine wpn_late ?_
      obtain ⟨c3, h4, hF⟩ := bind_some hF
      refine wpn_c0 hO (zbO r0_2 h4) rfl fun _ σ _ _ hO h5 h6 => ?_
      have hL := hL.trans h5
      have wq := wq.le h5
      obtain ⟨v7, rfl, rfl, r8⟩ := h6
      obtain ⟨A9, c10, rfl, -⟩ := r8.form
      have hO : Obs _ _ [_, _, _] := hO
      refine wpn_nil ?_
      refine wpn_ag ⟨(again_ld rfl (hO.val (i := 0) (off := 0) (agg := false) (n := 1) rfl rfl) rfl), trivial⟩ ?_
      refine wpn_late ?_
      refine wpn_lit (T := zc) (l := ([(⟨c3.From, c3.To, c3.At⟩ : za)] : List za)) (cs := [.int .i64 c3.From, .int .i64 c3.To, .slice A9 c3.At.length c10]) hO rfl ⟨[.int .i64 c3.From, .int .i64 c3.To, .slice A9 c3.At.length c10], _, rfl, ⟨_, rfl, r8⟩, rfl⟩ rfl (by decide) fun _ σ o13 w14 hO => ?_
      obtain ⟨A11, c12, rfl, -⟩ := w14.form
      have hO : Obs _ _ [_, _, _, _] := hO
      refine wpn_nil ?_
      refine wpn_ag ⟨(again_ld rfl (hO.val (i := 0) (off := 0) (agg := false) (n := 1) rfl rfl) rfl), trivial⟩ ?_
      obtain ⟨_, h16, r15, hO⟩ := w14.share hO (i := 3) rfl
      have hL := hL.trans h16
      have wq := wq.le h16
      have hO : Obs _ _ [_, _, _, _] := hO
      obtain ⟨_, hr, hF⟩ := bind_some hF
      refine wpn_apl (T := zc) hO wq (i := 1) rfl rfl rfl r15 hr (by decide) fun _ σ o19 w20 hO => ?_
      obtain ⟨A17, c18, rfl, -⟩ := w20.form
      have hO : Obs _ _ [_, _, _, _] := hO
      refine wpn_st hO (i := 0) rfl (off := 0) rfl rfl rfl rfl (Nat.le_of_ble_eq_true rfl) rfl fun σ hO => ?_
      have hO : Obs _ _ [_, _, _, _] := hO
      refine wpn_nil ?_
      refine wpn_end ?_
      refine inb_i ?_
      refine thn_i ?_
      refine wpn_end ?_
      injection hF with hF
      subst hF
      have hO := hO.sel [0, 1] (by decide)
      exact ⟨rfl, _, _, hO, hL, _, _, rfl, rfl, w20⟩
    · obtain ⟨_, _, hO, h11, u, y, rfl, rfl, w12⟩ := hK
      have hL := hL.trans h11
      refine inb_i ?_
      refine thn_i ?_
      intro w1
      obtain ⟨Au, cu, rfl, -⟩ := w12.form
      refine wpn_qa hO [0] [(6, .slice Au rr.length cu)] (And.intro (And.intro rfl rfl) (ar trivial)) fun j => ?_
      refine wpn_r1 ?_
      have hO := hO.sel [1] (by decide)
      exact hQ _ _ _ _ _ rfl hO hL ⟨_, _, rfl, rfl, w12⟩
theorem zcm {τ : Hp} {v0 : Value} {p0 : (List zb)} {v1 : Value} {p1 : (List zb)} (r0 : RdT zd τ v0 p0) (r1 : RdT zd τ v1 p1) {rr : Bool} (hF : zZ p0 p1 = some rr) :
    Ctr Try.prog 45 #[v0, v1] τ [] (fun v τ' vs' => v = .bool rr ∧ vs' = []) := by
  obtain ⟨A0, c0, rfl, -⟩ := r0.form
  obtain ⟨A1, c1, rfl, -⟩ := r1.form
  refine ctr_of (args := [.slice A0 p0.length c0, .slice A1 p1.length c1]) hm Try.func45 s45 rfl fun w0 σ hO Q hQ => ?_
  unfold zZ at hF
  have hL := Hp.le.refl τ
  show wpn _ _ a45.body _ _ _
  unfold a45
  dsimp only
  refine wpn_qa hO [] [(0, .slice A0 p0.length c0), (1, .slice A1 p1.length c1)] (ar (ar trivial)) fun j => ?_
  refine wpn_assoc ?_
  refine wpn_qa hO [] [(0, .slice A0 p0.length c0), (1, .slice A1 p1.length c1), (10, .bool ((p0.length : Int) != (p1.length : Int)))] (ar (ar (ar trivial))) fun j => ?_
  rcases ite_some hF with ⟨hb3, hF⟩ | ⟨hb3, hF⟩
  · refine wpn_cT (congrArg Value.bool hb3) ?_
    refine wpn_assoc ?_
    refine wpn_qa hO [] [(4, .bool false)] (ar trivial) fun j => ?_
    refine wpn_rt ?_
    injection hF with hF
    subst hF
    exact hQ _ _ _ _ _ rfl hO hL ⟨rfl, rfl⟩
  · refine wpn_cF (congrArg Value.bool hb3) ?_
    refine wpn_sk ?_
    refine wpn_assoc ?_
    refine wpn_qa hO [] [(0, .slice A0 p0.length c0), (1, .slice A1 p1.length c1), (12, .int .i64 (p0.length : Int)), (13, .int .i64 0)] (ar (ar (ar (ar trivial)))) fun j => ?_
    refine wpn_bl ?_
    refine wpn_lp (fun (n : Nat) e' σ' => ∃ (x20 : Int) (τ' : Hp), agr [(0, .slice A0 p0.length c0), (1, .slice A1 p1.length c1), (12, .int .i64 (p0.length : Int)), (13, .int .i64 x20)] e' ∧ Obs τ' σ' [] ∧ Hp.le τ τ' ∧ RdT zd τ' (.slice A0 p0.length c0) p0 ∧ RdT zd τ' (.slice A1 p1.length c1) p1 ∧ zT p0 p1 n x20 = some rr) big ⟨0, _, ar (ar (ar (ar trivial))), hO, hL, r0, r1, hF⟩ ?_
    clear hF hO hL
    rintro n33 e σ ⟨x20, _, hA, hO, hL, r18, r19, hF⟩
    rw [← sets_agr _ _ hA]
    cases n33 with
    | zero => exact nomatch (show none = some rr from hF)
    | succ n33 =>
      replace hF : zH (zT p0 p1 n33) p0 p1 x20 = some rr := hF
      unfold zH at hF
      refine wpn_qa hO [] [(0, .slice A0 p0.length c0), (1, .slice A1 p1.length c1), (12, .int .i64 (p0.length : Int)), (13, .int .i64 x20), (14, .bool (decide (x20 < (p0.length : Int))))] (ar (ar (ar (ar (ar trivial))))) fun j => ?_
      rcases ite_some hF with ⟨hb34, hF⟩ | ⟨hb34, hF⟩
      · refine wpn_cT (congrArg Value.bool hb34) ?_
        refine wpn_sk ?_
        refine wpn_bl ?_
        refine wpn_qa hO [] [(0, .slice A0 p0.length c0), (1, .slice A1 p1.length c1), (5, .int .i64 x20), (12, .int .i64 (p0.length : Int)), (13, .int .i64 x20)] (ar (ar (ar (ar (ar trivial))))) fun j => ?_
        refine wpn_p2r ?_
        refine wpn_q hO 2 [] [(0, .slice A0 p0.length c0), (1, .slice A1 p1.length c1), (5, .int .i64 x20), (12, .int .i64 (p0.length : Int)), (13, .int .i64 x20), (16, .slice A0 p0.length c0), (17, .int .i64 x20)] (ar (ar (ar (ar (ar (ar (ar trivial))))))) fun j => ?_
        obtain ⟨y35, g36, hF⟩ := bind_some hF
        refine wpn_idx (T := zd) r18 hO.base rfl rfl g36 (by decide) fun a37 _ k38 m39 => ?_
        obtain rfl : _ = ([.int .u8 y35.Kind.toNat, .int .i64 y35.N] : List Value) := k38
        refine wpn_ld rfl ((m39.le hO.base).all rfl) ?_
        refine wpn_q hO 2 [] [(0, .slice A0 p0.length c0), (1, .slice A1 p1.length c1), (12, .int .i64 (p0.length : Int)), (13, .int .i64 x20), (19, .agg #[(.int .u8 (y35.Kind.toNat : Int)), (.int .i64 y35.N)]), (20, .slice A1 p1.length c1), (21, .int .i64 x20)] (ar (ar (ar (ar (ar (ar (ar trivial))))))) fun j => ?_
        obtain ⟨y40, g41, hF⟩ := bind_some hF
        refine wpn_idx (T := zd) r19 hO.base rfl rfl g41 (by decide) fun a42 _ k43 m44 => ?_
        obtain rfl : _ = ([.int .u8 y40.Kind.toNat, .int .i64 y40.N] : List Value) := k43
        refine wpn_ld rfl ((m44.le hO.base).all rfl) ?_
        refine wpn_qa hO [] [(0, .slice A0 p0.length c0), (1, .slice A1 p1.length c1), (12, .int .i64 (p0.length : Int)), (13, .int .i64 x20), (24, .bool (!(( (y35.Kind.toNat : Int) == (y40.Kind.toNat : Int)) && (( y35.N == y40.N) && true))))] (ar (ar (ar (ar (ar trivial))))) fun j => ?_
        refine wpn_clast ?_
        rcases ite_some hF with ⟨hb45, hF⟩ | ⟨hb45, hF⟩
        · refine wpn_cT (congrArg Value.bool hb45) ?_
          refine wpn_assoc ?_
          refine wpn_qa hO [] [(4, .bool false)] (ar trivial) fun j => ?_
          refine wpn_rt ?_
          refine inb_r1 ?_
          refine thn_r1 ?_
          refine thn_r1 ?_
          refine inb_r1 ?_
          refine thn_r1 ?_
          injection hF with hF
          subst hF
          exact hQ _ _ _ _ _ rfl hO hL ⟨rfl, rfl⟩
        · refine wpn_cF (congrArg Value.bool hb45) ?_
          refine wpn_sk ?_
          refine wpn_end ?_
          refine inb_i ?_
          refine thn_i ?_
          refine wpn_rlast ?_
          refine wpn_qa hO [] [(0, .slice A0 p0.length c0), (1, .slice A1 p1.length c1), (12, .int .i64 (p0.length : Int)), (13, .int .i64 (IntKind.i64.wrap (x20 + 1)))] (ar (ar (ar (ar trivial)))) fun j => ?_
          refine wpn_end ?_
          refine thn_i ?_
          exact ⟨n33, Nat.lt_succ_self _, (IntKind.i64.wrap (x20 + 1)), _, ar (ar (ar (ar trivial))), hO, hL, r18, r19, hF⟩
      · refine wpn_cF (congrArg Value.bool hb34) ?_
        refine wpn_ex ?_
        refine thn_x ?_
        refine inb_x ?_
        refine thn_i ?_
        refine wpn_qa hO [] [(4, .bool true)] (ar trivial) fun j => ?_
        refine wpn_r1 ?_
        injection hF with hF
        subst hF
        exact hQ _ _ _ _ _ rfl hO hL ⟨rfl, rfl⟩
theorem zb1 {τ : Hp} {v0 : Value} {p0 : (List za)} (r0 : RdT zc τ v0 p0) {rr : (List za)} (hF : zC p0 = some rr) :
    Ctr Try.prog 24 #[v0] τ [] (fun v τ' vs' => ∃ (v0 : Value) (o0 : Ob), v = v0 ∧ vs' = [o0] ∧ OwnO zc 46 τ' v0 rr o0) := by
  obtain ⟨A0, c0, rfl, -⟩ := r0.form
  refine ctr_of (args := [.slice A0 p0.length c0]) hm Try.func24 s24 rfl fun w0 σ hO Q hQ => ?_
  unfold zC at hF
  have hL := Hp.le.refl τ
  show wpn _ _ a24.body _ _ _
  unfold a24
  dsimp only
  refine wpn_qa hO [] [(0, .slice A0 p0.length c0)] (ar trivial) fun j => ?_
  refine wpn_qa hO [] [(0, .slice A0 p0.length c0), (3, .slice none 0 0)] (ar (ar trivial)) fun j => ?_
  refine wpn_assoc ?_
  refine wpn_qa hO [] [(3, .slice none 0 0), (7, .slice A0 p0.length c0), (8, .int .i64 (p0.length : Int)), (9, .int .i64 0)] (ar (ar (ar (ar trivial)))) fun j => ?_
  refine wpn_bl ?_
  have hO := hO.no
  have hO : Obs _ _ [_] := hO
  refine wpn_lp (fun (n : Nat) e' σ' => ∃ (k112 : Nat) (A113 : Option Addr) (c114 : Nat) (o115 : Ob) (x116 : List za) (x120 : Int) (τ' : Hp), agr [(3, .slice A113 k112 c114), (7, .slice A0 p0.length c0), (8, .int .i64 (p0.length : Int)), (9, .int .i64 x120)] e' ∧ Obs τ' σ' [o115] ∧ Hp.le τ τ' ∧ k112 = x116.length ∧ OwnO zc 46 τ' (.slice A113 k112 c114) x116 o115 ∧ RdT zc τ' (.slice A0 p0.length c0) p0 ∧ zi p0 n x116 x120 = some rr) big ⟨0, none, 0, none, [], 0, _, ar (ar (ar (ar trivial))), hO, hL, rfl, OwnO.nil _ _ _, r0, hF⟩ ?_
  clear hF hO hL
  rintro n191 e σ ⟨k112, A113, c114, o115, x116, x120, _, hA, hO, hL, hk117, w118, r119, hF⟩
  rw [← sets_agr _ _ hA]
  cases n191 with
  | zero => exact nomatch (show none = some rr from hF)
  | succ n191 =>
    replace hF : zG (zi p0 n191) p0 x116 x120 = some rr := hF
    unfold zG at hF
    subst hk117
    refine wpn_qa hO [] [(3, .slice A113 x116.length c114), (7, .slice A0 p0.length c0), (8, .int .i64 (p0.length : Int)), (9, .int .i64 x120), (10, .bool (decide (x120 < (p0.length : Int))))] (ar (ar (ar (ar (ar trivial))))) fun j => ?_
    rcases ite_some hF with ⟨hb192, hF⟩ | ⟨hb192, hF⟩
    · refine wpn_cT (congrArg Value.bool hb192) ?_
      refine wpn_sk ?_
      refine wpn_bl ?_
      obtain ⟨y193, g194, hF⟩ := bind_some hF
      refine wpn_idx (T := zc) r119 hO.base rfl rfl g194 (by decide) fun a195 _ k196 m197 => ?_
      obtain ⟨v198, rfl, r199⟩ := k196
      obtain ⟨A200, c201, rfl, -⟩ := r199.form
      refine wpn_ld rfl ((m197.le hO.base).all rfl) ?_
      refine wpn_al hO fun b202 σ hO => ?_
      have hO : Obs _ _ [_, _] := hO
      refine wpn_st hO (i := 1) rfl (off := 0) rfl rfl rfl rfl (Nat.le_of_ble_eq_true rfl) rfl fun σ hO => ?_
      have hO : Obs _ _ [_, _] := hO
      refine wpn_nil ?_
      refine wpn_assoc ?_
      refine wpn_qa hO [] [(3, .slice A113 x116.length c114), (5, .pointer (some ⟨b202, 0, none⟩)), (6, .int .i64 (IntKind.i64.wrap ((x116.length : Int) - 1))), (7, .slice A0 p0.length c0), (8, .int .i64 (p0.length : Int)), (9, .int .i64 x120)] (ar (ar (ar (ar (ar (ar trivial)))))) fun j => ?_
      refine wpn_assoc ?_
      refine wpn_p2r ?_
      refine wpn_q hO 3 [] [(3, .slice A113 x116.length c114), (5, .pointer (some ⟨b202, 0, none⟩)), (6, .int .i64 (IntKind.i64.wrap ((x116.length : Int) - 1))), (7, .slice A0 p0.length c0), (8, .int .i64 (p0.length : Int)), (9, .int .i64 x120), (18, .bool (decide ((IntKind.i64.wrap ((x116.length : Int) - 1)) ≥ 0)))] (ar (ar (ar (ar (ar (ar (ar trivial))))))) fun j => ?_
      obtain ⟨c203, h204, hF⟩ := bind_some hF
      refine wpn_midq 2 [(27, .bool c203), (3, .slice A113 x116.length c114), (5, .pointer (some ⟨b202, 0, none⟩)), (6, .int .i64 (IntKind.i64.wrap ((x116.length : Int) - 1))), (7, .slice A0 p0.length c0), (8, .int .i64 (p0.length : Int)), (9, .int .i64 x120)] (fun Q hQ => ?_) fun j => ?_
      · have hF := h204
        rcases ite_some hF with ⟨hb205, hF⟩ | ⟨hb205, hF⟩
        · refine wpn_gT (congrArg (fun x => isB (.bool x) true) hb205) ?_
          refine wpn_q hO 2 [] [(3, .slice A113 x116.length c114), (5, .pointer (some ⟨b202, 0, none⟩)), (6, .int .i64 (IntKind.i64.wrap ((x116.length : Int) - 1))), (7, .slice A0 p0.length c0), (8, .int .i64 (p0.length : Int)), (9, .int .i64 x120), (18, .bool (decide ((IntKind.i64.wrap ((x116.length : Int) - 1)) ≥ 0))), (19, .slice A113 x116.length c114), (20, .int .i64 (IntKind.i64.wrap ((x116.length : Int) - 1)))] (ar (ar (ar (ar (ar (ar (ar (ar (ar trivial))))))))) fun j => ?_
          obtain ⟨y206, g207, hF⟩ := bind_some hF
          refine wpn_ido (T := zc) hO w118 (i := 0) rfl rfl rfl g207 (by decide) fun a208 _ k209 m210 i211 => ?_
          have k212 := k209
          obtain ⟨v213, rfl, r214⟩ := k212
          obtain ⟨A215, c216, rfl, -⟩ := r214.form
          refine wpn_q hO 1 [] [(3, .slice A113 x116.length c114), (5, .pointer (some ⟨b202, 0, none⟩)), (6, .int .i64 (IntKind.i64.wrap ((x116.length : Int) - 1))), (7, .slice A0 p0.length c0), (8, .int .i64 (p0.length : Int)), (9, .int .i64 x120), (18, .bool (decide ((IntKind.i64.wrap ((x116.length : Int) - 1)) ≥ 0))), (22, .pointer (some (a208.add 1)))] (ar (ar (ar (ar (ar (ar (ar (ar trivial)))))))) fun j => ?_
          refine wpn_ld rfl (m210.one 1 rfl) ?_
          refine wpn_q hO 3 [1] [(3, .slice A113 x116.length c114), (5, .pointer (some ⟨b202, 0, none⟩)), (6, .int .i64 (IntKind.i64.wrap ((x116.length : Int) - 1))), (7, .slice A0 p0.length c0), (8, .int .i64 (p0.length : Int)), (9, .int .i64 x120), (18, .bool (decide ((IntKind.i64.wrap ((x116.length : Int) - 1)) ≥ 0))), (26, .bool (y206.To == y193.From))] (And.intro (And.intro rfl rfl) (ar (ar (ar (ar (ar (ar (ar (ar trivial))))))))) fun j => ?_
          refine wpn_pk (congrArg Value.bool hb205) ?_
          refine wpn_nil ?_
          injection hF with hF
          subst hF
          refine wpn_end ?_
          exact hQ _ (ar (ar (ar (ar (ar (ar (ar trivial)))))))
        · refine wpn_gF (congrArg (fun x => isB (.bool x) true) hb205) ?_
          refine wpn_pk (congrArg Value.bool hb205) ?_
          refine wpn_nil ?_
          injection hF with hF
          subst hF
          refine wpn_end ?_
          exact hQ _ (ar (ar (ar (ar (ar (ar (ar trivial)))))))
      · refine wpn_q hO 1 [] [(3, .slice A113 x116.length c114), (5, .pointer (some ⟨b202, 0, none⟩)), (6, .int .i64 (IntKind.i64.wrap ((x116.length : Int) - 1))), (7, .slice A0 p0.length c0), (8, .int .i64 (p0.length : Int)), (9, .int .i64 x120), (28, .bool c203)] (ar (ar (ar (ar (ar (ar (ar trivial))))))) fun j => ?_
        obtain ⟨c217, h218, hF⟩ := bind_some hF
        refine wpn_mid 2 (fun e' σ' => ∃ (τ' : Hp), agr [(37, .bool c217), (3, .slice A113 x116.length c114), (5, .pointer (some ⟨b202, 0, none⟩)), (6, .int .i64 (IntKind.i64.wrap ((x116.length : Int) - 1))), (7, .slice A0 p0.length c0), (8, .int .i64 (p0.length : Int)), (9, .int .i64 x120)] e' ∧ Obs τ' σ' [o115, some (b202, ⟨[.int .i64 y193.From, .int .i64 y193.To, .slice A200 y193.At.length c201], 46, 3, true⟩)] ∧ Hp.le τ τ' ∧ OwnO zc 46 τ' (.slice A113 x116.length c114) x116 o115 ∧ RdT zc τ' (.slice A0 p0.length c0) p0 ∧ RdT zd τ' (.slice A200 y193.At.length c201) y193.At) ?_ ?_
        · have hF := h218
          rcases ite_some hF with ⟨hb219, hF⟩ | ⟨hb219, hF⟩
          · refine wpn_gT (congrArg (fun x => isB (.bool x) true) hb219) ?_
            refine wpn_q hO 2 [] [(3, .slice A113 x116.length c114), (5, .pointer (some ⟨b202, 0, none⟩)), (6, .int .i64 (IntKind.i64.wrap ((x116.length : Int) - 1))), (7, .slice A0 p0.length c0), (8, .int .i64 (p0.length : Int)), (9, .int .i64 x120), (28, .bool c203), (29, .slice A113 x116.length c114), (30, .int .i64 (IntKind.i64.wrap ((x116.length : Int) - 1)))] (ar (ar (ar (ar (ar (ar (ar (ar (ar trivial))))))))) fun j => ?_
            obtain ⟨y220, g221, hF⟩ := bind_some hF
            refine wpn_ido (T := zc) hO w118 (i := 0) rfl rfl rfl g221 (by decide) fun a222 _ k223 m224 i225 => ?_
            have k226 := k223
            obtain ⟨v227, rfl, r228⟩ := k226
            obtain ⟨A229, c230, rfl, -⟩ := r228.form
            refine wpn_q hO 1 [] [(3, .slice A113 x116.length c114), (5, .pointer (some ⟨b202, 0, none⟩)), (6, .int .i64 (IntKind.i64.wrap ((x116.length : Int) - 1))), (7, .slice A0 p0.length c0), (8, .int .i64 (p0.length : Int)), (9, .int .i64 x120), (28, .bool c203), (32, .pointer (some (a222.add 2)))] (ar (ar (ar (ar (ar (ar (ar (ar trivial)))))))) fun j => ?_
            refine wpn_ld rfl (m224.one 2 rfl) ?_
            refine wpn_q hO 2 [1] [(3, .slice A113 x116.length c114), (5, .pointer (some ⟨b202, 0, none⟩)), (6, .int .i64 (IntKind.i64.wrap ((x116.length : Int) - 1))), (7, .slice A0 p0.length c0), (8, .int .i64 (p0.length : Int)), (9, .int .i64 x120), (28, .bool c203), (33, .slice A229 y220.At.length c230), (35, .slice A200 y193.At.length c201)] (And.intro (And.intro rfl rfl) (ar (ar (ar (ar (ar (ar (ar (ar (ar trivial)))))))))) fun j => ?_
            obtain ⟨c231, h232, hF⟩ := bind_some hF
            refine wpn_c0 hO (zcm r228 r199 h232) rfl fun _ σ _ _ hO h233 h234 => ?_
            have hL := hL.trans h233
            have w118 := w118.le h233
            have r119 := r119.le h233
            have r228 := r228.le h233
            have r199 := r199.le h233
            obtain ⟨rfl, rfl⟩ := h234
            have hO : Obs _ _ [_, _] := hO
            refine wpn_pk (congrArg Value.bool hb219) ?_
            refine wpn_nil ?_
            injection hF with hF
            subst hF
            refine wpn_end ?_
            exact ⟨rfl, _, ar (ar (ar (ar (ar (ar (ar trivial)))))), hO, hL, w118, r119, r199⟩
          · refine wpn_gF (congrArg (fun x => isB (.bool x) true) hb219) ?_
            refine wpn_pk (congrArg Value.bool hb219) ?_
            refine wpn_nil ?_
            injection hF with hF
            subst hF
            refine wpn_end ?_
            exact ⟨rfl, _, ar (ar (ar (ar (ar (ar (ar trivial)))))), hO, hL, w118, r119, r199⟩
        · rintro e σ ⟨_, hA, hO, hL, w118, r119, r199⟩
          rw [← sets_agr _ _ hA]
          refine wpn_nil ?_
          rcases ite_some hF with ⟨hb235, hF⟩ | ⟨hb235, hF⟩
          · refine wpn_cT (congrArg Value.bool hb235) ?_
            refine wpn_assoc ?_
            refine wpn_q hO 4 [1] [(3, .slice A113 x116.length c114), (7, .slice A0 p0.length c0), (8, .int .i64 (p0.length : Int)), (9, .int .i64 x120), (38, .slice A113 x116.length c114), (39, .int .i64 (IntKind.i64.wrap ((x116.length : Int) - 1))), (41, .int .i64 y193.To)] (And.intro (And.intro rfl rfl) (ar (ar (ar (ar (ar (ar (ar trivial)))))))) fun j => ?_
            obtain ⟨y236, g237, hF⟩ := bind_some hF
            refine wpn_ido (T := zc) hO w118 (i := 0) rfl rfl rfl g237 (by decide) fun a238 _ k239 m240 i241 => ?_
            have k242 := k239
            obtain ⟨v243, rfl, r244⟩ := k242
            obtain ⟨A245, c246, rfl, -⟩ := r244.form
            refine wpn_q hO 1 [] [(3, .slice A113 x116.length c114), (7, .slice A0 p0.length c0), (8, .int .i64 (p0.length : Int)), (9, .int .i64 x120), (41, .int .i64 y193.To), (43, .pointer (some (a238.add 1)))] (ar (ar (ar (ar (ar (ar trivial)))))) fun j => ?_
            refine wpn_sto (T := zc) (z' := (⟨y236.From, y193.To, y236.At⟩ : za)) (off := 1) (vs := [.int .i64 y193.To]) hO w118 (i := 0) rfl rfl i241 g237 k239 m240 rfl rfl rfl rfl (by decide) ⟨_, rfl, r244⟩ fun σ o247 w248 hO => ?_
            have hO : Obs _ _ [_, _] := hO
            refine wpn_nil ?_
            refine wpn_ex ?_
            refine inb_x ?_
            refine thn_i ?_
            refine wpn_rlast ?_
            refine wpn_qa hO [] [(3, .slice A113 x116.length c114), (7, .slice A0 p0.length c0), (8, .int .i64 (p0.length : Int)), (9, .int .i64 (IntKind.i64.wrap (x120 + 1)))] (ar (ar (ar (ar trivial)))) fun j => ?_
            refine wpn_end ?_
            refine thn_i ?_
            have hO := hO.sel [0] (by decide)
            exact ⟨n191, Nat.lt_succ_self _, x116.length, A113, c114, o247, (x116.set (Int.toNat (IntKind.i64.wrap ((x116.length : Int) - 1))) (⟨y236.From, y193.To, y236.At⟩ : za)), (IntKind.i64.wrap (x120 + 1)), _, ar (ar (ar (ar trivial))), hO, hL, w248.len, w248, r119, hF⟩
          · refine wpn_cF (congrArg Value.bool hb235) ?_
            refine wpn_sk ?_
            refine wpn_rlast ?_
            refine wpn_q hO 2 [1] [(7, .slice A0 p0.length c0), (8, .int .i64 (p0.length : Int)), (9, .int .i64 x120), (44, .slice A113 x116.length c114), (45, .agg #[(.int .i64 y193.From), (.int .i64 y193.To), (.slice A200 y193.At.length c201)])] (And.intro (And.intro rfl rfl) (ar (ar (ar (ar (ar trivial)))))) fun j => ?_
            obtain ⟨c249, h250, hF⟩ := bind_some hF
            refine wpn_c0 hO (zbO r199 h250) rfl fun _ σ _ _ hO h251 h252 => ?_
            have hL := hL.trans h251
            have r119 := r119.le h251
            have w118 := w118.le h251
            have r199 := r199.le h251
            obtain ⟨v253, rfl, rfl, r254⟩ := h252
            obtain ⟨A255, c256, rfl, -⟩ := r254.form
            have hO : Obs _ _ [_, _] := hO
            obtain ⟨_, hr261, hF⟩ := bind_some hF
            refine wpn_ap1 (T := zc) (y := (⟨c249.From, c249.To, c249.At⟩ : za)) hO w118 (i := 0) rfl rfl (fun _ => rfl) rfl ⟨_, rfl, r254⟩ rfl hr261 (by decide) fun u _ σ o259 w260 hO => ?_
            obtain ⟨A257, c258, rfl, -⟩ := w260.form
            have hO : Obs _ _ [_, _] := hO
            refine wpn_qa hO [] [(3, .slice A257 (x116 ++ [(⟨c249.From, c249.To, c249.At⟩ : za)]).length c258), (7, .slice A0 p0.length c0), (8, .int .i64 (p0.length : Int)), (9, .int .i64 x120)] (ar (ar (ar (ar trivial)))) fun j => ?_
            refine wpn_end ?_
            refine inb_i ?_
            refine thn_i ?_
            refine wpn_rlast ?_
            refine wpn_qa hO [] [(3, .slice A257 (x116 ++ [(⟨c249.From, c249.To, c249.At⟩ : za)]).length c258), (7, .slice A0 p0.length c0), (8, .int .i64 (p0.length : Int)), (9, .int .i64 (IntKind.i64.wrap (x120 + 1)))] (ar (ar (ar (ar trivial)))) fun j => ?_
            refine wpn_end ?_
            refine thn_i ?_
            have hO := hO.sel [0] (by decide)
            exact ⟨n191, Nat.lt_succ_self _, (x116 ++ [(⟨c249.From, c249.To, c249.At⟩ : za)]).length, A257, c258, o259, (x116 ++ [(⟨c249.From, c249.To, c249.At⟩ : za)]), (IntKind.i64.wrap (x120 + 1)), _, ar (ar (ar (ar trivial))), hO, hL, w260.len, w260, r119, hF⟩
    · refine wpn_cF (congrArg Value.bool hb192) ?_
      refine wpn_ex ?_
      refine thn_x ?_
      refine inb_x ?_
      refine thn_i ?_
      refine wpn_qa hO [] [(2, .slice A113 x116.length c114)] (ar trivial) fun j => ?_
      refine wpn_r1 ?_
      injection hF with hF
      subst hF
      exact hQ _ _ _ _ _ rfl hO hL ⟨_, _, rfl, rfl, w118⟩
theorem zb3 {τ : Hp}   {rr : Bool} (hF : zR  = some rr) :
    Ctr Try.prog 9 #[] τ [] (fun v τ' vs' => v = .bool rr ∧ vs' = []) := by
  refine ctr_of (args := []) hm Try.func9 s9 rfl fun w0 σ hO Q hQ => ?_
  unfold zR at hF
  have hL := Hp.le.refl τ
  show wpn _ _ a9.body _ _ _
  unfold a9
  dsimp only
  refine wpn_qa hO [] [] (trivial) fun j => ?_
  refine wpn_q hO 1 [] [(9, .agg #[(.int .u8 2), (.int .i64 2)])] (ar trivial) fun j => ?_
  refine wpn_lit (T := zd) (l := ([(⟨(2 : UInt8), 2⟩ : zb)] : List zb)) (cs := [.int .u8 2, .int .i64 2]) hO rfl ⟨[.int .u8 2, .int .i64 2], _, rfl, rfl, rfl⟩ rfl (by decide) fun _ σ o3 w4 hO => ?_
  obtain ⟨A1, c2, rfl, -⟩ := w4.form
  have hO : Obs _ _ [_] := hO
  refine wpn_q hO 2 [] [(11, .agg #[(.int .i64 3), (.int .i64 5), (.slice A1 ([(⟨(2 : UInt8), 2⟩ : zb)] : List zb).length c2)]), (12, .agg #[(.int .u8 1), (.int .i64 7)])] (ar (ar trivial)) fun j => ?_
  refine wpn_lit (T := zd) (l := ([(⟨(1 : UInt8), 7⟩ : zb)] : List zb)) (cs := [.int .u8 1, .int .i64 7]) hO rfl ⟨[.int .u8 1, .int .i64 7], _, rfl, rfl, rfl⟩ rfl (by decide) fun _ σ o7 w8 hO => ?_
  obtain ⟨A5, c6, rfl, -⟩ := w8.form
  have hO : Obs _ _ [_, _] := hO
  refine wpn_q hO 1 [] [(11, .agg #[(.int .i64 3), (.int .i64 5), (.slice A1 ([(⟨(2 : UInt8), 2⟩ : zb)] : List zb).length c2)]), (14, .agg #[(.int .i64 5), (.int .i64 9), (.slice A5 ([(⟨(1 : UInt8), 7⟩ : zb)] : List zb).length c6)])] (ar (ar trivial)) fun j => ?_
  obtain ⟨_, h10, r9, hO⟩ := w4.share hO (i := 0) rfl
  have hL := hL.trans h10
  have w8 := w8.le h10
  have hO : Obs _ _ [_, _] := hO
  obtain ⟨_, h12, r11, hO⟩ := w8.share hO (i := 1) rfl
  have hL := hL.trans h12
  have r9 := r9.le h12
  have hO : Obs _ _ [_, _] := hO
  refine wpn_lit (T := zc) (l := ([(⟨3, 5, ([(⟨(2 : UInt8), 2⟩ : zb)] : List zb)⟩ : za), (⟨5, 9, ([(⟨(1 : UInt8), 7⟩ : zb)] : List zb)⟩ : za)] : List za)) (cs := [.int .i64 3, .int .i64 5, .slice A1 ([(⟨(2 : UInt8), 2⟩ : zb)] : List zb).length c2, .int .i64 5, .int .i64 9, .slice A5 ([(⟨(1 : UInt8), 7⟩ : zb)] : List zb).length c6]) hO rfl ⟨[.int .i64 3, .int .i64 5, .slice A1 ([(⟨(2 : UInt8), 2⟩ : zb)] : List zb).length c2], _, rfl, ⟨_, rfl, r9⟩, ⟨[.int .i64 5, .int .i64 9, .slice A5 ([(⟨(1 : UInt8), 7⟩ : zb)] : List zb).length c6], _, rfl, ⟨_, rfl, r11⟩, rfl⟩⟩ rfl (by decide) fun _ σ o15 w16 hO => ?_
  obtain ⟨A13, c14, rfl, -⟩ := w16.form
  have hO : Obs _ _ [_, _, _] := hO
  refine wpn_qa hO [] [(1, .slice A13 ([(⟨3, 5, ([(⟨(2 : UInt8), 2⟩ : zb)] : List zb)⟩ : za), (⟨5, 9, ([(⟨(1 : UInt8), 7⟩ : zb)] : List zb)⟩ : za)] : List za).length c14)] (ar trivial) fun j => ?_
  refine wpn_q hO 1 [] [(1, .slice A13 ([(⟨3, 5, ([(⟨(2 : UInt8), 2⟩ : zb)] : List zb)⟩ : za), (⟨5, 9, ([(⟨(1 : UInt8), 7⟩ : zb)] : List zb)⟩ : za)] : List za).length c14), (17, .slice A13 ([(⟨3, 5, ([(⟨(2 : UInt8), 2⟩ : zb)] : List zb)⟩ : za), (⟨5, 9, ([(⟨(1 : UInt8), 7⟩ : zb)] : List zb)⟩ : za)] : List za).length c14)] (ar (ar trivial)) fun j => ?_
  obtain ⟨_, h18, r17, hO⟩ := w16.share hO (i := 2) rfl
  have hL := hL.trans h18
  have hO : Obs _ _ [_, _, _] := hO
  obtain ⟨c19, h20, hF⟩ := bind_some hF
  refine wpn_c0 hO (zcw (RdT.nil Ty.u8 _) r17 h20) rfl fun _ σ _ _ hO h21 h22 => ?_
  have hL := hL.trans h21
  have r17 := r17.le h21
  obtain ⟨v23, o26, rfl, rfl, w27⟩ := h22
  obtain ⟨A24, c25, rfl, -⟩ := w27.form
  have hO : Obs _ _ [_, _, _, _] := hO
  refine wpn_qa hO [] [(1, .slice A13 ([(⟨3, 5, ([(⟨(2 : UInt8), 2⟩ : zb)] : List zb)⟩ : za), (⟨5, 9, ([(⟨(1 : UInt8), 7⟩ : zb)] : List zb)⟩ : za)] : List za).length c14), (2, .slice A24 c19.1.length c25), (3, .int .i64 c19.2)] (ar (ar (ar trivial))) fun j => ?_
  refine wpn_q hO 1 [] [(1, .slice A13 ([(⟨3, 5, ([(⟨(2 : UInt8), 2⟩ : zb)] : List zb)⟩ : za), (⟨5, 9, ([(⟨(1 : UInt8), 7⟩ : zb)] : List zb)⟩ : za)] : List za).length c14), (2, .slice A24 c19.1.length c25), (3, .int .i64 c19.2), (22, .slice A24 c19.1.length c25)] (ar (ar (ar (ar trivial)))) fun j => ?_
  obtain ⟨_, h29, r28, hO⟩ := w27.share hO (i := 3) rfl
  have hL := hL.trans h29
  have r17 := r17.le h29
  have hO : Obs _ _ [_, _, _, _] := hO
  obtain ⟨c30, h31, hF⟩ := bind_some hF
  refine wpn_c0 hO (zcL r28 h31) rfl fun _ σ _ _ hO h32 h33 => ?_
  have hL := hL.trans h32
  have r17 := r17.le h32
  have r28 := r28.le h32
  obtain ⟨v34, rfl, rfl, r37⟩ := h33
  obtain ⟨A35, c36, rfl, -⟩ := r37.form
  have hO : Obs _ _ [_, _, _, _] := hO
  refine wpn_qa hO [] [(1, .slice A13 ([(⟨3, 5, ([(⟨(2 : UInt8), 2⟩ : zb)] : List zb)⟩ : za), (⟨5, 9, ([(⟨(1 : UInt8), 7⟩ : zb)] : List zb)⟩ : za)] : List za).length c14), (2, .slice A24 c19.1.length c25), (3, .int .i64 c19.2), (4, .slice A35 c30.1.length c36), (5, .int .i64 c30.2.1), (6, .int .i64 c30.2.2)] (ar (ar (ar (ar (ar (ar trivial)))))) fun j => ?_
  refine wpn_q hO 1 [] [(1, .slice A13 ([(⟨3, 5, ([(⟨(2 : UInt8), 2⟩ : zb)] : List zb)⟩ : za), (⟨5, 9, ([(⟨(1 : UInt8), 7⟩ : zb)] : List zb)⟩ : za)] : List za).length c14), (2, .slice A24 c19.1.length c25), (3, .int .i64 c19.2), (4, .slice A35 c30.1.length c36), (5, .int .i64 c30.2.1), (6, .int .i64 c30.2.2), (27, .slice A13 ([(⟨3, 5, ([(⟨(2 : UInt8), 2⟩ : zb)] : List zb)⟩ : za), (⟨5, 9, ([(⟨(1 : UInt8), 7⟩ : zb)] : List zb)⟩ : za)] : List za).length c14)] (ar (ar (ar (ar (ar (ar (ar trivial))))))) fun j => ?_
  obtain ⟨c38, h39, hF⟩ := bind_some hF
  refine wpn_c0 hO (zbc r17 h39) rfl fun _ σ _ _ hO h40 h41 => ?_
  have hL := hL.trans h40
  have r17 := r17.le h40
  have r28 := r28.le h40
  have r37 := r37.le h40
  obtain ⟨v42, o45, rfl, rfl, w46⟩ := h41
  obtain ⟨A43, c44, rfl, -⟩ := w46.form
  have hO : Obs _ _ [_, _, _, _, _] := hO
  refine wpn_qa hO [] [(1, .slice A13 ([(⟨3, 5, ([(⟨(2 : UInt8), 2⟩ : zb)] : List zb)⟩ : za), (⟨5, 9, ([(⟨(1 : UInt8), 7⟩ : zb)] : List zb)⟩ : za)] : List za).length c14), (2, .slice A24 c19.1.length c25), (3, .int .i64 c19.2), (4, .slice A35 c30.1.length c36), (5, .int .i64 c30.2.1), (6, .int .i64 c30.2.2), (7, .slice A43 c38.length c44)] (ar (ar (ar (ar (ar (ar (ar trivial))))))) fun j => ?_
  refine wpn_q hO 1 [] [(1, .slice A13 ([(⟨3, 5, ([(⟨(2 : UInt8), 2⟩ : zb)] : List zb)⟩ : za), (⟨5, 9, ([(⟨(1 : UInt8), 7⟩ : zb)] : List zb)⟩ : za)] : List za).length c14), (2, .slice A24 c19.1.length c25), (3, .int .i64 c19.2), (4, .slice A35 c30.1.length c36), (5, .int .i64 c30.2.1), (6, .int .i64 c30.2.2), (7, .slice A43 c38.length c44), (29, .slice A13 ([(⟨3, 5, ([(⟨(2 : UInt8), 2⟩ : zb)] : List zb)⟩ : za), (⟨5, 9, ([(⟨(1 : UInt8), 7⟩ : zb)] : List zb)⟩ : za)] : List za).length c14)] (ar (ar (ar (ar (ar (ar (ar (ar trivial)))))))) fun j => ?_
  obtain ⟨c47, h48, hF⟩ := bind_some hF
  refine wpn_c0 hO (zb8 r17 h48) rfl fun _ σ _ _ hO h49 h50 => ?_
  have hL := hL.trans h49
  have r17 := r17.le h49
  have r28 := r28.le h49
  have r37 := r37.le h49
  have w46 := w46.le h49
  obtain ⟨v51, o54, rfl, rfl, w55⟩ := h50
  obtain ⟨A52, c53, rfl, -⟩ := w55.form
  have hO : Obs _ _ [_, _, _, _, _, _] := hO
  refine wpn_qa hO [] [(1, .slice A13 ([(⟨3, 5, ([(⟨(2 : UInt8), 2⟩ : zb)] : List zb)⟩ : za), (⟨5, 9, ([(⟨(1 : UInt8), 7⟩ : zb)] : List zb)⟩ : za)] : List za).length c14), (2, .slice A24 c19.1.length c25), (3, .int .i64 c19.2), (4, .slice A35 c30.1.length c36), (5, .int .i64 c30.2.1), (6, .int .i64 c30.2.2), (7, .slice A43 c38.length c44), (8, .slice A52 c47.length c53)] (ar (ar (ar (ar (ar (ar (ar (ar trivial)))))))) fun j => ?_
  refine wpn_q hO 12 [] [(1, .slice A13 ([(⟨3, 5, ([(⟨(2 : UInt8), 2⟩ : zb)] : List zb)⟩ : za), (⟨5, 9, ([(⟨(1 : UInt8), 7⟩ : zb)] : List zb)⟩ : za)] : List za).length c14), (4, .slice A35 c30.1.length c36), (7, .slice A43 c38.length c44), (8, .slice A52 c47.length c53), (46, .bool ((((c19.2 == 0) && ((c19.1.length : Int) == 11)) && (c30.2.2 == 0)) && (c30.2.1 == 11)))] (And.intro (And.intro rfl rfl) (fun _ => And.intro (And.intro rfl rfl) (fun _ => And.intro (And.intro rfl rfl) (fun _ => ar (ar (ar (ar (ar trivial)))))))) fun j => ?_
  have hO := hO.sel [4, 5] (by decide)
  have hO : Obs _ _ [_, _] := hO
  obtain ⟨c56, h57, hF⟩ := bind_some hF
  refine wpn_mid 2 (fun e' σ' => ∃ (τ' : Hp), agr [(50, .bool c56), (1, .slice A13 ([(⟨3, 5, ([(⟨(2 : UInt8), 2⟩ : zb)] : List zb)⟩ : za), (⟨5, 9, ([(⟨(1 : UInt8), 7⟩ : zb)] : List zb)⟩ : za)] : List za).length c14), (7, .slice A43 c38.length c44), (8, .slice A52 c47.length c53)] e' ∧ Obs τ' σ' [o45, o54] ∧ Hp.le τ τ' ∧ RdT zc τ' (.slice A13 ([(⟨3, 5, ([(⟨(2 : UInt8), 2⟩ : zb)] : List zb)⟩ : za), (⟨5, 9, ([(⟨(1 : UInt8), 7⟩ : zb)] : List zb)⟩ : za)] : List za).length c14) ([(⟨3, 5, ([(⟨(2 : UInt8), 2⟩ : zb)] : List zb)⟩ : za), (⟨5, 9, ([(⟨(1 : UInt8), 7⟩ : zb)] : List zb)⟩ : za)] : List za) ∧ OwnO zd 44 τ' (.slice A43 c38.length c44) c38 o45 ∧ OwnO zc 46 τ' (.slice A52 c47.length c53) c47 o54) ?_ ?_
  · have hF := h57
    rcases ite_some hF with ⟨hb58, hF⟩ | ⟨hb58, hF⟩
    · refine wpn_gT (congrArg (fun x => isB (.bool x) true) hb58) ?_
      refine wpn_q hO 2 [] [(1, .slice A13 ([(⟨3, 5, ([(⟨(2 : UInt8), 2⟩ : zb)] : List zb)⟩ : za), (⟨5, 9, ([(⟨(1 : UInt8), 7⟩ : zb)] : List zb)⟩ : za)] : List za).length c14), (7, .slice A43 c38.length c44), (8, .slice A52 c47.length c53), (46, .bool ((((c19.2 == 0) && ((c19.1.length : Int) == 11)) && (c30.2.2 == 0)) && (c30.2.1 == 11))), (47, .slice A13 ([(⟨3, 5, ([(⟨(2 : UInt8), 2⟩ : zb)] : List zb)⟩ : za), (⟨5, 9, ([(⟨(1 : UInt8), 7⟩ : zb)] : List zb)⟩ : za)] : List za).length c14), (48, .slice A35 c30.1.length c36)] (ar (ar (ar (ar (ar (ar trivial)))))) fun j => ?_
      obtain ⟨c59, h60, hF⟩ := bind_some hF
      refine wpn_c0 hO (zcO r17 r37 h60) rfl fun _ σ _ _ hO h61 h62 => ?_
      have hL := hL.trans h61
      have r17 := r17.le h61
      have w46 := w46.le h61
      have w55 := w55.le h61
      have r37 := r37.le h61
      obtain ⟨rfl, rfl⟩ := h62
      have hO : Obs _ _ [_, _] := hO
      refine wpn_pk (congrArg Value.bool hb58) ?_
      refine wpn_nil ?_
      injection hF with hF
      subst hF
      refine wpn_end ?_
      exact ⟨rfl, _, ar (ar (ar (ar trivial))), hO, hL, r17, w46, w55⟩
    · refine wpn_gF (congrArg (fun x => isB (.bool x) true) hb58) ?_
      refine wpn_pk (congrArg Value.bool hb58) ?_
      refine wpn_nil ?_
      injection hF with hF
      subst hF
      refine wpn_end ?_
      exact ⟨rfl, _, ar (ar (ar (ar trivial))), hO, hL, r17, w46, w55⟩
  · rintro e σ ⟨_, hA, hO, hL, r17, w46, w55⟩
    rw [← sets_agr _ _ hA]
    refine wpn_q hO 4 [] [(1, .slice A13 ([(⟨3, 5, ([(⟨(2 : UInt8), 2⟩ : zb)] : List zb)⟩ : za), (⟨5, 9, ([(⟨(1 : UInt8), 7⟩ : zb)] : List zb)⟩ : za)] : List za).length c14), (7, .slice A43 c38.length c44), (8, .slice A52 c47.length c53), (56, .bool (c56 && ((c38.length : Int) == 1)))] (And.intro (And.intro rfl rfl) (fun _ => ar (ar (ar (ar trivial))))) fun j => ?_
    obtain ⟨c63, h64, hF⟩ := bind_some hF
    refine wpn_midq 2 [(62, .bool c63), (1, .slice A13 ([(⟨3, 5, ([(⟨(2 : UInt8), 2⟩ : zb)] : List zb)⟩ : za), (⟨5, 9, ([(⟨(1 : UInt8), 7⟩ : zb)] : List zb)⟩ : za)] : List za).length c14), (8, .slice A52 c47.length c53)] (fun Q hQ => ?_) fun j => ?_
    · have hF := h64
      rcases ite_some hF with ⟨hb65, hF⟩ | ⟨hb65, hF⟩
      · refine wpn_gT (congrArg (fun x => isB (.bool x) true) hb65) ?_
        refine wpn_q hO 1 [] [(1, .slice A13 ([(⟨3, 5, ([(⟨(2 : UInt8), 2⟩ : zb)] : List zb)⟩ : za), (⟨5, 9, ([(⟨(1 : UInt8), 7⟩ : zb)] : List zb)⟩ : za)] : List za).length c14), (8, .slice A52 c47.length c53), (56, .bool (c56 && ((c38.length : Int) == 1))), (57, .slice A43 c38.length c44)] (ar (ar (ar (ar trivial)))) fun j => ?_
        obtain ⟨y66, g67, hF⟩ := bind_some hF
        refine wpn_ido (T := zd) hO w46 (i := 0) rfl rfl rfl g67 (by decide) fun a68 _ k69 m70 i71 => ?_
        have k72 := k69
        obtain rfl : _ = ([.int .u8 y66.Kind.toNat, .int .i64 y66.N] : List Value) := k72
        refine wpn_q hO 1 [] [(1, .slice A13 ([(⟨3, 5, ([(⟨(2 : UInt8), 2⟩ : zb)] : List zb)⟩ : za), (⟨5, 9, ([(⟨(1 : UInt8), 7⟩ : zb)] : List zb)⟩ : za)] : List za).length c14), (8, .slice A52 c47.length c53), (56, .bool (c56 && ((c38.length : Int) == 1))), (59, .pointer (some (a68.add 1)))] (ar (ar (ar (ar trivial)))) fun j => ?_
        refine wpn_ld rfl (m70.one 1 rfl) ?_
        refine wpn_q hO 1 [] [(1, .slice A13 ([(⟨3, 5, ([(⟨(2 : UInt8), 2⟩ : zb)] : List zb)⟩ : za), (⟨5, 9, ([(⟨(1 : UInt8), 7⟩ : zb)] : List zb)⟩ : za)] : List za).length c14), (8, .slice A52 c47.length c53), (56, .bool (c56 && ((c38.length : Int) == 1))), (61, .bool (y66.N == 2))] (ar (ar (ar (ar trivial)))) fun j => ?_
        refine wpn_pk (congrArg Value.bool hb65) ?_
        refine wpn_nil ?_
        injection hF with hF
        subst hF
        refine wpn_end ?_
        exact hQ _ (ar (ar (ar trivial)))
      · refine wpn_gF (congrArg (fun x => isB (.bool x) true) hb65) ?_
        refine wpn_pk (congrArg Value.bool hb65) ?_
        refine wpn_nil ?_
        injection hF with hF
        subst hF
        refine wpn_end ?_
        exact hQ _ (ar (ar (ar trivial)))
    · refine wpn_q hO 4 [] [(1, .slice A13 ([(⟨3, 5, ([(⟨(2 : UInt8), 2⟩ : zb)] : List zb)⟩ : za), (⟨5, 9, ([(⟨(1 : UInt8), 7⟩ : zb)] : List zb)⟩ : za)] : List za).length c14), (8, .slice A52 c47.length c53), (68, .bool (c63 && ((c47.length : Int) == 2)))] (And.intro (And.intro rfl rfl) (fun _ => ar (ar (ar trivial)))) fun j => ?_
      obtain ⟨c73, h74, hF⟩ := bind_some hF
      refine wpn_midq 2 [(74, .bool c73), (1, .slice A13 ([(⟨3, 5, ([(⟨(2 : UInt8), 2⟩ : zb)] : List zb)⟩ : za), (⟨5, 9, ([(⟨(1 : UInt8), 7⟩ : zb)] : List zb)⟩ : za)] : List za).length c14), (8, .slice A52 c47.length c53)] (fun Q hQ => ?_) fun j => ?_
      · have hF := h74
        rcases ite_some hF with ⟨hb75, hF⟩ | ⟨hb75, hF⟩
        · refine wpn_gT (congrArg (fun x => isB (.bool x) true) hb75) ?_
          refine wpn_q hO 1 [] [(1, .slice A13 ([(⟨3, 5, ([(⟨(2 : UInt8), 2⟩ : zb)] : List zb)⟩ : za), (⟨5, 9, ([(⟨(1 : UInt8), 7⟩ : zb)] : List zb)⟩ : za)] : List za).length c14), (8, .slice A52 c47.length c53), (68, .bool (c63 && ((c47.length : Int) == 2))), (69, .slice A52 c47.length c53)] (ar (ar (ar (ar trivial)))) fun j => ?_
          obtain ⟨y76, g77, hF⟩ := bind_some hF
          refine wpn_ido (T := zc) hO w55 (i := 1) rfl rfl rfl g77 (by decide) fun a78 _ k79 m80 i81 => ?_
          have k82 := k79
          obtain ⟨v83, rfl, r84⟩ := k82
          obtain ⟨A85, c86, rfl, -⟩ := r84.form
          refine wpn_q hO 1 [] [(1, .slice A13 ([(⟨3, 5, ([(⟨(2 : UInt8), 2⟩ : zb)] : List zb)⟩ : za), (⟨5, 9, ([(⟨(1 : UInt8), 7⟩ : zb)] : List zb)⟩ : za)] : List za).length c14), (8, .slice A52 c47.length c53), (68, .bool (c63 && ((c47.length : Int) == 2))), (71, .pointer (some (a78.add 1)))] (ar (ar (ar (ar trivial)))) fun j => ?_
          refine wpn_ld rfl (m80.one 1 rfl) ?_
          refine wpn_q hO 1 [] [(1, .slice A13 ([(⟨3, 5, ([(⟨(2 : UInt8), 2⟩ : zb)] : List zb)⟩ : za), (⟨5, 9, ([(⟨(1 : UInt8), 7⟩ : zb)] : List zb)⟩ : za)] : List za).length c14), (8, .slice A52 c47.length c53), (68, .bool (c63 && ((c47.length : Int) == 2))), (73, .bool (y76.To == 4))] (ar (ar (ar (ar trivial)))) fun j => ?_
          refine wpn_pk (congrArg Value.bool hb75) ?_
          refine wpn_nil ?_
          injection hF with hF
          subst hF
          refine wpn_end ?_
          exact hQ _ (ar (ar (ar trivial)))
        · refine wpn_gF (congrArg (fun x => isB (.bool x) true) hb75) ?_
          refine wpn_pk (congrArg Value.bool hb75) ?_
          refine wpn_nil ?_
          injection hF with hF
          subst hF
          refine wpn_end ?_
          exact hQ _ (ar (ar (ar trivial)))
      · refine wpn_q hO 1 [] [(1, .slice A13 ([(⟨3, 5, ([(⟨(2 : UInt8), 2⟩ : zb)] : List zb)⟩ : za), (⟨5, 9, ([(⟨(1 : UInt8), 7⟩ : zb)] : List zb)⟩ : za)] : List za).length c14), (8, .slice A52 c47.length c53), (75, .bool c73)] (ar (ar (ar trivial))) fun j => ?_
        obtain ⟨c87, h88, hF⟩ := bind_some hF
        refine wpn_midq 2 [(81, .bool c87), (1, .slice A13 ([(⟨3, 5, ([(⟨(2 : UInt8), 2⟩ : zb)] : List zb)⟩ : za), (⟨5, 9, ([(⟨(1 : UInt8), 7⟩ : zb)] : List zb)⟩ : za)] : List za).length c14)] (fun Q hQ => ?_) fun j => ?_
        · have hF := h88
          rcases ite_some hF with ⟨hb89, hF⟩ | ⟨hb89, hF⟩
          · refine wpn_gT (congrArg (fun x => isB (.bool x) true) hb89) ?_
            refine wpn_q hO 1 [] [(1, .slice A13 ([(⟨3, 5, ([(⟨(2 : UInt8), 2⟩ : zb)] : List zb)⟩ : za), (⟨5, 9, ([(⟨(1 : UInt8), 7⟩ : zb)] : List zb)⟩ : za)] : List za).length c14), (75, .bool c73), (76, .slice A52 c47.length c53)] (ar (ar (ar trivial))) fun j => ?_
            obtain ⟨y90, g91, hF⟩ := bind_some hF
            refine wpn_ido (T := zc) hO w55 (i := 1) rfl rfl rfl g91 (by decide) fun a92 _ k93 m94 i95 => ?_
            have k96 := k93
            obtain ⟨v97, rfl, r98⟩ := k96
            obtain ⟨A99, c100, rfl, -⟩ := r98.form
            refine wpn_q hO 1 [] [(1, .slice A13 ([(⟨3, 5, ([(⟨(2 : UInt8), 2⟩ : zb)] : List zb)⟩ : za), (⟨5, 9, ([(⟨(1 : UInt8), 7⟩ : zb)] : List zb)⟩ : za)] : List za).length c14), (75, .bool c73), (78, .pointer (some a92))] (ar (ar (ar trivial))) fun j => ?_
            refine wpn_ld rfl m94.fst ?_
            refine wpn_q hO 1 [] [(1, .slice A13 ([(⟨3, 5, ([(⟨(2 : UInt8), 2⟩ : zb)] : List zb)⟩ : za), (⟨5, 9, ([(⟨(1 : UInt8), 7⟩ : zb)] : List zb)⟩ : za)] : List za).length c14), (75, .bool c73), (80, .bool (y90.From == 6))] (ar (ar (ar trivial))) fun j => ?_
            refine wpn_pk (congrArg Value.bool hb89) ?_
            refine wpn_nil ?_
            injection hF with hF
            subst hF
            refine wpn_end ?_
            exact hQ _ (ar (ar trivial))
          · refine wpn_gF (congrArg (fun x => isB (.bool x) true) hb89) ?_
            refine wpn_pk (congrArg Value.bool hb89) ?_
            refine wpn_nil ?_
            injection hF with hF
            subst hF
            refine wpn_end ?_
            exact hQ _ (ar (ar trivial))
        · refine wpn_q hO 1 [] [(1, .slice A13 ([(⟨3, 5, ([(⟨(2 : UInt8), 2⟩ : zb)] : List zb)⟩ : za), (⟨5, 9, ([(⟨(1 : UInt8), 7⟩ : zb)] : List zb)⟩ : za)] : List za).length c14), (82, .bool c87)] (ar (ar trivial)) fun j => ?_
          have hO := hO.sel [] (by decide)
          have hO : Obs _ _ [] := hO
          obtain ⟨c101, h102, hF⟩ := bind_some hF
          refine wpn_mid 2 (fun e' σ' => ∃ (τ' : Hp), agr [(84, .bool c101), (1, .slice A13 ([(⟨3, 5, ([(⟨(2 : UInt8), 2⟩ : zb)] : List zb)⟩ : za), (⟨5, 9, ([(⟨(1 : UInt8), 7⟩ : zb)] : List zb)⟩ : za)] : List za).length c14)] e' ∧ Obs τ' σ' [] ∧ Hp.le τ τ' ∧ RdT zc τ' (.slice A13 ([(⟨3, 5, ([(⟨(2 : UInt8), 2⟩ : zb)] : List zb)⟩ : za), (⟨5, 9, ([(⟨(1 : UInt8), 7⟩ : zb)] : List zb)⟩ : za)] : List za).length c14) ([(⟨3, 5, ([(⟨(2 : UInt8), 2⟩ : zb)] : List zb)⟩ : za), (⟨5, 9, ([(⟨(1 : UInt8), 7⟩ : zb)] : List zb)⟩ : za)] : List za)) ?_ ?_
          · have hF := h102
            rcases ite_some hF with ⟨hb103, hF⟩ | ⟨hb103, hF⟩
            · refine wpn_gT (congrArg (fun x => isB (.bool x) true) hb103) ?_
              obtain ⟨c104, h105, hF⟩ := bind_some hF
              refine wpn_c0 hO (zu (RdT.nil zc _) h105) rfl fun _ σ _ _ hO h106 h107 => ?_
              have hL := hL.trans h106
              have r17 := r17.le h106
              obtain ⟨rfl, rfl⟩ := h107
              have hO : Obs _ _ [] := hO
              refine wpn_pk (congrArg Value.bool hb103) ?_
              refine wpn_nil ?_
              injection hF with hF
              subst hF
              refine wpn_end ?_
              exact ⟨rfl, _, ar (ar trivial), hO, hL, r17⟩
            · refine wpn_gF (congrArg (fun x => isB (.bool x) true) hb103) ?_
              refine wpn_pk (congrArg Value.bool hb103) ?_
              refine wpn_nil ?_
              injection hF with hF
              subst hF
              refine wpn_end ?_
              exact ⟨rfl, _, ar (ar trivial), hO, hL, r17⟩
          · rintro e σ ⟨_, hA, hO, hL, r17⟩
            rw [← sets_agr _ _ hA]
            refine wpn_q hO 1 [] [(1, .slice A13 ([(⟨3, 5, ([(⟨(2 : UInt8), 2⟩ : zb)] : List zb)⟩ : za), (⟨5, 9, ([(⟨(1 : UInt8), 7⟩ : zb)] : List zb)⟩ : za)] : List za).length c14), (85, .bool c101)] (ar (ar trivial)) fun j => ?_
            obtain ⟨c108, h109, hF⟩ := bind_some hF
            refine wpn_mid 2 (fun e' σ' => ∃ (τ' : Hp), agr [(90, .bool c108)] e' ∧ Obs τ' σ' [] ∧ Hp.le τ τ') ?_ ?_
            · have hF := h109
              rcases ite_some hF with ⟨hb110, hF⟩ | ⟨hb110, hF⟩
              · refine wpn_gT (congrArg (fun x => isB (.bool x) true) hb110) ?_
                refine wpn_q hO 1 [] [(85, .bool c101), (86, .slice A13 ([(⟨3, 5, ([(⟨(2 : UInt8), 2⟩ : zb)] : List zb)⟩ : za), (⟨5, 9, ([(⟨(1 : UInt8), 7⟩ : zb)] : List zb)⟩ : za)] : List za).length c14)] (ar (ar trivial)) fun j => ?_
                obtain ⟨c111, h112, hF⟩ := bind_some hF
                refine wpn_c0 hO (zb1 r17 h112) rfl fun _ σ _ _ hO h113 h114 => ?_
                have hL := hL.trans h113
                have r17 := r17.le h113
                obtain ⟨v115, o118, rfl, rfl, w119⟩ := h114
                obtain ⟨A116, c117, rfl, -⟩ := w119.form
                have hO : Obs _ _ [_] := hO
                refine wpn_q hO 2 [] [(85, .bool c101), (89, .bool ((c111.length : Int) == 2))] (ar (ar trivial)) fun j => ?_
                refine wpn_pk (congrArg Value.bool hb110) ?_
                refine wpn_nil ?_
                injection hF with hF
                subst hF
                refine wpn_end ?_
                have hO := hO.sel [] (by decide)
                exact ⟨rfl, _, ar (trivial), hO, hL⟩
              · refine wpn_gF (congrArg (fun x => isB (.bool x) true) hb110) ?_
                refine wpn_pk (congrArg Value.bool hb110) ?_
                refine wpn_nil ?_
                injection hF with hF
                subst hF
                refine wpn_end ?_
                exact ⟨rfl, _, ar (trivial), hO, hL⟩
            · rintro e σ ⟨_, hA, hO, hL⟩
              rw [← sets_agr _ _ hA]
              refine wpn_qa hO [] [(0, .bool c108)] (ar trivial) fun j => ?_
              refine wpn_r1 ?_
              injection hF with hF
              subst hF
              exact hQ _ _ _ _ _ rfl hO hL ⟨rfl, rfl⟩
theorem zcH {τ : Hp} {v0 : Value} {p0 : (List zb)} (r0 : RdT zd τ v0 p0) {rr : (List zb)} (hF : zA p0 = some rr) :
    Ctr Try.prog 30 #[v0] τ [] (fun v τ' vs' => ∃ (v0 : Value) (o0 : Ob), v = v0 ∧ vs' = [o0] ∧ OwnO zd 44 τ' v0 rr o0) := by
  obtain ⟨A0, c0, rfl, -⟩ := r0.form
  refine ctr_of (args := [.slice A0 p0.length c0]) hm Try.func30 s30 rfl fun w0 σ hO Q hQ => ?_
  unfold zA at hF
  have hL := Hp.le.refl τ
  show wpn _ _ a30.body _ _ _
  unfold a30
  dsimp only
  refine wpn_qa hO [] [(0, .slice A0 p0.length c0)] (ar trivial) fun j => ?_
  refine wpn_lit (T := zd) (l := ([] : List zb)) (cs := []) hO rfl rfl rfl (by decide) fun _ σ o4 w5 hO => ?_
  obtain ⟨A2, c3, rfl, -⟩ := w5.form
  have hO : Obs _ _ [_] := hO
  refine wpn_q hO 1 [] [(3, .slice A2 ([] : List zb).length c3), (4, .slice A0 p0.length c0)] (ar (ar trivial)) fun j => ?_
  obtain ⟨_, hr10, hF⟩ := bind_some hF
  refine wpn_apl (T := zd) hO w5 (i := 0) rfl rfl rfl r0 hr10 (by decide) fun _ σ o8 w9 hO => ?_
  obtain ⟨A6, c7, rfl, -⟩ := w9.form
  have hO : Obs _ _ [_] := hO
  refine wpn_qa hO [] [(2, .slice A6 (([] : List zb) ++ p0).length c7)] (ar trivial) fun j => ?_
  refine wpn_r1 ?_
  injection hF with hF
  subst hF
  exact hQ _ _ _ _ _ rfl hO hL ⟨_, _, rfl, rfl, w9⟩
theorem zb9 {τ : Hp} {v0 : Value} {p0 : (List za)} (r0 : RdT zc τ v0 p0) {rr : (List za)} (hF : zF p0 = some rr) :
    Ctr Try.prog 11 #[v0] τ [] (fun v τ' vs' => ∃ (v0 : Value) (o0 : Ob), v = v0 ∧ vs' = [o0] ∧ OwnO zc 46 τ' v0 rr o0) := by
  obtain ⟨A0, c0, rfl, -⟩ := r0.form
  refine ctr_of (args := [.slice A0 p0.length c0]) hm Try.func11 s11 rfl fun w0 σ hO Q hQ => ?_
  unfold zF at hF
  have hL := Hp.le.refl τ
  show wpn _ _ a11.body _ _ _
  unfold a11
  dsimp only
  refine wpn_qa hO [] [(0, .slice A0 p0.length c0)] (ar trivial) fun j => ?_
  refine wpn_qa hO [] [(0, .slice A0 p0.length c0), (3, .slice none 0 0)] (ar (ar trivial)) fun j => ?_
  refine wpn_assoc ?_
  refine wpn_qa hO [] [(0, .slice A0 p0.length c0), (3, .slice none 0 0), (4, .int .i64 0)] (ar (ar (ar trivial))) fun j => ?_
  refine wpn_bl ?_
  have hO := hO.no
  have hO : Obs _ _ [_] := hO
  refine wpn_lp (fun (n : Nat) e' σ' => ∃ (A49 : Option Addr) (c50 : Nat) (o51 : Ob) (x52 : List za) (x54 : Int) (τ' : Hp), agr [(0, .slice A0 p0.length c0), (3, .slice A49 x52.length c50), (4, .int .i64 x54)] e' ∧ Obs τ' σ' [o51] ∧ Hp.le τ τ' ∧ RdT zc τ' (.slice A0 p0.length c0) p0 ∧ OwnO zc 46 τ' (.slice A49 x52.length c50) x52 o51 ∧ zN p0 n x52 x54 = some rr) big ⟨none, 0, none, [], 0, _, ar (ar (ar trivial)), hO, hL, r0, OwnO.nil _ _ _, hF⟩ ?_
  clear hF hO hL
  rintro n99 e σ ⟨A49, c50, o51, x52, x54, _, hA, hO, hL, r48, w53, hF⟩
  rw [← sets_agr _ _ hA]
  cases n99 with
  | zero => exact nomatch (show none = some rr from hF)
  | succ n99 =>
    replace hF : zW (zN p0 n99) p0 x52 x54 = some rr := hF
    unfold zW at hF
    refine wpn_assoc ?_
    refine wpn_qa hO [] [(0, .slice A0 p0.length c0), (3, .slice A49 x52.length c50), (4, .int .i64 x54), (8, .bool (decide (x54 < (p0.length : Int))))] (ar (ar (ar (ar trivial)))) fun j => ?_
    rcases ite_some hF with ⟨hb100, hF⟩ | ⟨hb100, hF⟩
    · refine wpn_cT (congrArg Value.bool hb100) ?_
      refine wpn_sk ?_
      refine wpn_bl ?_
      refine wpn_plast ?_
      refine wpn_q hO 3 [] [(0, .slice A0 p0.length c0), (4, .int .i64 x54), (11, .slice A49 x52.length c50), (12, .slice A0 p0.length c0), (13, .int .i64 x54)] (ar (ar (ar (ar (ar trivial))))) fun j => ?_
      obtain ⟨y101, g102, hF⟩ := bind_some hF
      refine wpn_idx (T := zc) r48 hO.base rfl rfl g102 (by decide) fun a103 _ k104 m105 => ?_
      obtain ⟨v106, rfl, r107⟩ := k104
      obtain ⟨A108, c109, rfl, -⟩ := r107.form
      refine wpn_q hO 1 [] [(0, .slice A0 p0.length c0), (4, .int .i64 x54), (11, .slice A49 x52.length c50), (15, .pointer (some a103))] (ar (ar (ar (ar trivial)))) fun j => ?_
      refine wpn_ld rfl (m105.le hO.base).fst ?_
      refine wpn_q hO 2 [] [(0, .slice A0 p0.length c0), (4, .int .i64 x54), (11, .slice A49 x52.length c50), (15, .pointer (some a103)), (16, .int .i64 y101.From), (17, .slice A0 p0.length c0), (18, .int .i64 x54)] (ar (ar (ar (ar (ar (ar (ar trivial))))))) fun j => ?_
      obtain ⟨y110, g111, hF⟩ := bind_some hF
      refine wpn_idx (T := zc) r48 hO.base rfl rfl g111 (by decide) fun a112 _ k113 m114 => ?_
      obtain ⟨v115, rfl, r116⟩ := k113
      obtain ⟨A117, c118, rfl, -⟩ := r116.form
      refine wpn_q hO 1 [] [(0, .slice A0 p0.length c0), (4, .int .i64 x54), (11, .slice A49 x52.length c50), (15, .pointer (some a103)), (16, .int .i64 y101.From), (20, .pointer (some (a112.add 1)))] (ar (ar (ar (ar (ar (ar trivial)))))) fun j => ?_
      refine wpn_ld rfl ((m114.le hO.base).one 1 rfl) ?_
      refine wpn_q hO 2 [] [(0, .slice A0 p0.length c0), (4, .int .i64 x54), (11, .slice A49 x52.length c50), (15, .pointer (some a103)), (16, .int .i64 y101.From), (20, .pointer (some (a112.add 1))), (21, .int .i64 y110.To), (22, .slice A0 p0.length c0), (23, .int .i64 x54)] (ar (ar (ar (ar (ar (ar (ar (ar (ar trivial))))))))) fun j => ?_
      obtain ⟨y119, g120, hF⟩ := bind_some hF
      refine wpn_idx (T := zc) r48 hO.base rfl rfl g120 (by decide) fun a121 _ k122 m123 => ?_
      obtain ⟨v124, rfl, r125⟩ := k122
      obtain ⟨A126, c127, rfl, -⟩ := r125.form
      refine wpn_q hO 1 [] [(0, .slice A0 p0.length c0), (4, .int .i64 x54), (11, .slice A49 x52.length c50), (15, .pointer (some a103)), (16, .int .i64 y101.From), (20, .pointer (some (a112.add 1))), (21, .int .i64 y110.To), (25, .pointer (some (a121.add 2)))] (ar (ar (ar (ar (ar (ar (ar (ar trivial)))))))) fun j => ?_
      refine wpn_ld rfl ((m123.le hO.base).one 2 rfl) ?_
      refine wpn_late ?_
      obtain ⟨c128, h129, hF⟩ := bind_some hF
      refine wpn_c0 hO (zcH r125 h129) rfl fun _ σ _ _ hO h130 h131 => ?_
      have hL := hL.trans h130
      have r48 := r48.le h130
      have w53 := w53.le h130
      have m105 := m105.le h130
      have r107 := r107.le h130
      have m114 := m114.le h130
      have r116 := r116.le h130
      have m123 := m123.le h130
      have r125 := r125.le h130
      obtain ⟨v132, o135, rfl, rfl, w136⟩ := h131
      obtain ⟨A133, c134, rfl, -⟩ := w136.form
      have hO : Obs _ _ [_, _] := hO
      refine wpn_nil ?_
      refine wpn_ag ⟨(again_ld rfl ((m114.le hO.base).one 1 rfl) rfl), (again_ld rfl (m105.le hO.base).fst rfl), trivial⟩ ?_
      refine wpn_q hO 1 [] [(0, .slice A0 p0.length c0), (4, .int .i64 x54), (11, .slice A49 x52.length c50), (28, .agg #[(.int .i64 y101.From), (.int .i64 y110.To), (.slice A133 c128.length c134)])] (ar (ar (ar (ar trivial)))) fun j => ?_
      obtain ⟨_, h138, r137, hO⟩ := w136.share hO (i := 1) rfl
      have hL := hL.trans h138
      have r48 := r48.le h138
      have w53 := w53.le h138
      have hO : Obs _ _ [_, _] := hO
      obtain ⟨_, hr143, hF⟩ := bind_some hF
      refine wpn_ap1 (T := zc) (y := (⟨y101.From, y110.To, c128⟩ : za)) hO w53 (i := 0) rfl rfl (fun _ => rfl) rfl ⟨_, rfl, r137⟩ rfl hr143 (by decide) fun u _ σ o141 w142 hO => ?_
      obtain ⟨A139, c140, rfl, -⟩ := w142.form
      have hO : Obs _ _ [_, _] := hO
      refine wpn_qa hO [] [(0, .slice A0 p0.length c0), (3, .slice A139 (x52 ++ [(⟨y101.From, y110.To, c128⟩ : za)]).length c140), (4, .int .i64 x54)] (ar (ar (ar trivial))) fun j => ?_
      refine wpn_end ?_
      refine inb_i ?_
      refine thn_i ?_
      refine wpn_rlast ?_
      refine wpn_qa hO [] [(0, .slice A0 p0.length c0), (3, .slice A139 (x52 ++ [(⟨y101.From, y110.To, c128⟩ : za)]).length c140), (4, .int .i64 (IntKind.i64.wrap (x54 + 1)))] (ar (ar (ar trivial))) fun j => ?_
      refine wpn_end ?_
      refine thn_i ?_
      have hO := hO.sel [0] (by decide)
      exact ⟨n99, Nat.lt_succ_self _, A139, c140, o141, (x52 ++ [(⟨y101.From, y110.To, c128⟩ : za)]), (IntKind.i64.wrap (x54 + 1)), _, ar (ar (ar trivial)), hO, hL, r48, w142, hF⟩
    · refine wpn_cF (congrArg Value.bool hb100) ?_
      refine wpn_ex ?_
      refine thn_x ?_
      refine inb_x ?_
      refine thn_i ?_
      refine wpn_qa hO [] [(2, .slice A49 x52.length c50)] (ar trivial) fun j => ?_
      refine wpn_r1 ?_
      injection hF with hF
      subst hF
      exact hQ _ _ _ _ _ rfl hO hL ⟨_, _, rfl, rfl, w53⟩
end Go.Proofs.Ytjcehfjmmbbblaa
