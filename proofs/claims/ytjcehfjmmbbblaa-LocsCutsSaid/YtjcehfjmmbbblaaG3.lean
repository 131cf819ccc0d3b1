import Derived.Test.YtjcehfjmmbbblaaF
import Derived.Test.YtjcehfjmmbbblaaAc0
import Derived.Test.YtjcehfjmmbbblaaM00
import Derived.Test.YtjcehfjmmbbblaaM01
import Derived.Test.YtjcehfjmmbbblaaG2
namespace Go.Proofs.Ytjcehfjmmbbblaa
open Go.Ab Go.RowKit
set_option linter.unusedVariables false
set_option linter.unusedSimpArgs false
set_option maxRecDepth 10000
theorem zcs {τ : Hp} {v0 : Value} {p0 : (List za)} {p1 : Int} {p2 : Int} {v3 : Value} {p3 : (List Int)} (r0 : RdT zc τ v0 p0) (r3 : RdT (Ty.int .i64) τ v3 p3) {rr : Bool} (hF : zbs p0 p1 p2 p3 = some rr) :
    Ctr Try.prog 7 #[v0, .int .i64 p1, .int .i64 p2, v3] τ [] (fun v τ' vs' => v = .bool rr ∧ vs' = []) := by
  obtain ⟨A0, c0, rfl, -⟩ := r0.form
  obtain ⟨A3, c3, rfl, -⟩ := r3.form
  refine ctr_of (args := [.slice A0 p0.length c0, .int .i64 p1, .int .i64 p2, .slice A3 p3.length c3]) hm Try.func7 s7 rfl fun w0 σ hO Q hQ => ?_
  unfold zbs at hF
  have hL := Hp.le.refl τ
  show wpn _ _ a7.body _ _ _
  unfold a7
  dsimp only
  refine wpn_qa hO [] [(0, .slice A0 p0.length c0), (1, .int .i64 p1), (2, .int .i64 p2), (3, .slice A3 p3.length c3)] (ar (ar (ar (ar trivial)))) fun j => ?_
  refine wpn_assoc ?_
  refine wpn_q hO 1 [] [(0, .slice A0 p0.length c0), (1, .int .i64 p1), (2, .int .i64 p2), (3, .slice A3 p3.length c3), (15, .slice A0 p0.length c0)] (ar (ar (ar (ar (ar trivial))))) fun j => ?_
  obtain ⟨c5, h6, hF⟩ := bind_some hF
  refine wpn_c0 hO (zcN r0 h6) rfl fun _ σ _ _ hO h7 h8 => ?_
  have hL := hL.trans h7
  have r0 := r0.le h7
  have r3 := r3.le h7
  obtain ⟨rfl, rfl⟩ := h8
  have hO : Obs _ _ [] := hO
  refine wpn_q hO 7 [] [(0, .slice A0 p0.length c0), (1, .int .i64 p1), (2, .int .i64 p2), (3, .slice A3 p3.length c3), (27, .bool ((c5 || (decide ((p3.length : Int) > 100))) || (decide ((p0.length : Int) > 500))))] (And.intro (And.intro rfl rfl) (fun _ => And.intro (And.intro rfl rfl) (fun _ => ar (ar (ar (ar (ar trivial))))))) fun j => ?_
  obtain ⟨c9, h10, hF⟩ := bind_some hF
  refine wpn_mid 2 (fun e' σ' => ∃ (τ' : Hp), agr [(31, .bool c9), (0, .slice A0 p0.length c0), (1, .int .i64 p1), (2, .int .i64 p2), (3, .slice A3 p3.length c3)] e' ∧ Obs τ' σ' [] ∧ Hp.le τ τ' ∧ RdT zc τ' (.slice A0 p0.length c0) p0 ∧ RdT (Ty.int .i64) τ' (.slice A3 p3.length c3) p3) ?_ ?_
  · have hF := h10
    rcases ite_some hF with ⟨hb11, hF⟩ | ⟨hb11, hF⟩
    · refine wpn_gF (congrArg (fun x => isB (.bool x) false) hb11) ?_
      refine wpn_pk (congrArg Value.bool hb11) ?_
      refine wpn_nil ?_
      injection hF with hF
      subst hF
      refine wpn_end ?_
      exact ⟨rfl, _, ar (ar (ar (ar (ar trivial)))), hO, hL, r0, r3⟩
    · refine wpn_gT (congrArg (fun x => isB (.bool x) false) hb11) ?_
      refine wpn_q hO 1 [] [(0, .slice A0 p0.length c0), (1, .int .i64 p1), (2, .int .i64 p2), (3, .slice A3 p3.length c3), (27, .bool ((c5 || (decide ((p3.length : Int) > 100))) || (decide ((p0.length : Int) > 500)))), (28, .slice A0 p0.length c0)] (ar (ar (ar (ar (ar (ar trivial)))))) fun j => ?_
      obtain ⟨c12, h13, hF⟩ := bind_some hF
      refine wpn_c0 hO (zu r0 h13) rfl fun _ σ _ _ hO h14 h15 => ?_
      have hL := hL.trans h14
      have r0 := r0.le h14
      have r3 := r3.le h14
      obtain ⟨rfl, rfl⟩ := h15
      have hO : Obs _ _ [] := hO
      refine wpn_q hO 1 [] [(0, .slice A0 p0.length c0), (1, .int .i64 p1), (2, .int .i64 p2), (3, .slice A3 p3.length c3), (27, .bool ((c5 || (decide ((p3.length : Int) > 100))) || (decide ((p0.length : Int) > 500)))), (30, .bool (!c12))] (ar (ar (ar (ar (ar (ar trivial)))))) fun j => ?_
      refine wpn_pk (congrArg Value.bool hb11) ?_
      refine wpn_nil ?_
      injection hF with hF
      subst hF
      refine wpn_end ?_
      exact ⟨rfl, _, ar (ar (ar (ar (ar trivial)))), hO, hL, r0, r3⟩
  · rintro e σ ⟨_, hA, hO, hL, r0, r3⟩
    rw [← sets_agr _ _ hA]
    refine wpn_nil ?_
    rcases ite_some hF with ⟨hb16, hF⟩ | ⟨hb16, hF⟩
    · refine wpn_cT (congrArg Value.bool hb16) ?_
      refine wpn_assoc ?_
      obtain ⟨c17, h18, hF⟩ := bind_some hF
      refine wpn_c0 hO (zb3 h18) rfl fun _ σ _ _ hO h19 h20 => ?_
      have hL := hL.trans h19
      have r0 := r0.le h19
      have r3 := r3.le h19
      obtain ⟨rfl, rfl⟩ := h20
      have hO : Obs _ _ [] := hO
      refine wpn_qa hO [] [(8, .bool c17)] (ar trivial) fun j => ?_
      refine wpn_rt ?_
      injection hF with hF
      subst hF
      exact hQ _ _ _ _ _ rfl hO hL ⟨rfl, rfl⟩
    · refine wpn_cF (congrArg Value.bool hb16) ?_
      refine wpn_sk ?_
      refine wpn_q hO 1 [] [(0, .slice A0 p0.length c0), (1, .int .i64 p1), (2, .int .i64 p2), (3, .slice A3 p3.length c3), (33, .slice A0 p0.length c0)] (ar (ar (ar (ar (ar trivial))))) fun j => ?_
      obtain ⟨c21, h22, hF⟩ := bind_some hF
      refine wpn_c0 hO (zb9 r0 h22) rfl fun _ σ _ _ hO h23 h24 => ?_
      have hL := hL.trans h23
      have r0 := r0.le h23
      have r3 := r3.le h23
      obtain ⟨v25, o28, rfl, rfl, w29⟩ := h24
      obtain ⟨A26, c27, rfl, -⟩ := w29.form
      have hO : Obs _ _ [_] := hO
      refine wpn_q hO 2 [] [(0, .slice A0 p0.length c0), (1, .int .i64 p1), (2, .int .i64 p2), (3, .slice A3 p3.length c3), (34, .slice A26 c21.length c27), (35, .int .i64 p1), (36, .int .i64 p2)] (ar (ar (ar (ar (ar (ar (ar trivial))))))) fun j => ?_
      obtain ⟨_, h31, r30, hO⟩ := w29.share hO (i := 0) rfl
      have hL := hL.trans h31
      have r0 := r0.le h31
      have r3 := r3.le h31
      have hO : Obs _ _ [_] := hO
      obtain ⟨c32, h33, hF⟩ := bind_some hF
      refine wpn_c0 hO (zb8 r30 h33) rfl fun _ σ _ _ hO h34 h35 => ?_
      have hL := hL.trans h34
      have r0 := r0.le h34
      have r3 := r3.le h34
      have r30 := r30.le h34
      obtain ⟨v36, o39, rfl, rfl, w40⟩ := h35
      obtain ⟨A37, c38, rfl, -⟩ := w40.form
      have hO : Obs _ _ [_, _] := hO
      refine wpn_qa hO [] [(0, .slice A0 p0.length c0), (1, .int .i64 p1), (2, .int .i64 p2), (3, .slice A3 p3.length c3), (9, .slice A37 c32.length c38)] (ar (ar (ar (ar (ar trivial))))) fun j => ?_
      refine wpn_q hO 1 [] [(0, .slice A0 p0.length c0), (1, .int .i64 p1), (2, .int .i64 p2), (3, .slice A3 p3.length c3), (9, .slice A37 c32.length c38), (38, .slice A0 p0.length c0)] (ar (ar (ar (ar (ar (ar trivial)))))) fun j => ?_
      obtain ⟨c41, h42, hF⟩ := bind_some hF
      refine wpn_c0 hO (zb9 r0 h42) rfl fun _ σ _ _ hO h43 h44 => ?_
      have hL := hL.trans h43
      have r0 := r0.le h43
      have r3 := r3.le h43
      have w40 := w40.le h43
      obtain ⟨v45, o48, rfl, rfl, w49⟩ := h44
      obtain ⟨A46, c47, rfl, -⟩ := w49.form
      have hO : Obs _ _ [_, _, _] := hO
      obtain ⟨_, h51, r50, hO⟩ := w49.share hO (i := 2) rfl
      have hL := hL.trans h51
      have r0 := r0.le h51
      have r3 := r3.le h51
      have w40 := w40.le h51
      have hO : Obs _ _ [_, _, _] := hO
      obtain ⟨c52, h53, hF⟩ := bind_some hF
      refine wpn_c0 hO (zb1 r50 h53) rfl fun _ σ _ _ hO h54 h55 => ?_
      have hL := hL.trans h54
      have r0 := r0.le h54
      have r3 := r3.le h54
      have w40 := w40.le h54
      have r50 := r50.le h54
      obtain ⟨v56, o59, rfl, rfl, w60⟩ := h55
      obtain ⟨A57, c58, rfl, -⟩ := w60.form
      have hO : Obs _ _ [_, _, _, _] := hO
      refine wpn_qa hO [] [(0, .slice A0 p0.length c0), (1, .int .i64 p1), (2, .int .i64 p2), (3, .slice A3 p3.length c3), (9, .slice A37 c32.length c38), (10, .slice A57 c52.length c58)] (ar (ar (ar (ar (ar (ar trivial)))))) fun j => ?_
      refine wpn_assoc ?_
      refine wpn_q hO 1 [] [(0, .slice A0 p0.length c0), (1, .int .i64 p1), (2, .int .i64 p2), (3, .slice A3 p3.length c3), (9, .slice A37 c32.length c38), (10, .slice A57 c52.length c58), (41, .slice A37 c32.length c38)] (ar (ar (ar (ar (ar (ar (ar trivial))))))) fun j => ?_
      obtain ⟨_, h62, r61, hO⟩ := w40.share hO (i := 1) rfl
      have hL := hL.trans h62
      have r0 := r0.le h62
      have r3 := r3.le h62
      have w60 := w60.le h62
      have hO : Obs _ _ [_, _, _, _] := hO
      obtain ⟨c63, h64, hF⟩ := bind_some hF
      refine wpn_c0 hO (zu r61 h64) rfl fun _ σ _ _ hO h65 h66 => ?_
      have hL := hL.trans h65
      have r0 := r0.le h65
      have r3 := r3.le h65
      have r61 := r61.le h65
      have w60 := w60.le h65
      obtain ⟨rfl, rfl⟩ := h66
      have hO : Obs _ _ [_, _, _, _] := hO
      refine wpn_q hO 2 [] [(0, .slice A0 p0.length c0), (1, .int .i64 p1), (2, .int .i64 p2), (3, .slice A3 p3.length c3), (9, .slice A37 c32.length c38), (10, .slice A57 c52.length c58), (44, .bool (!c63))] (ar (ar (ar (ar (ar (ar (ar trivial))))))) fun j => ?_
      obtain ⟨_, h68, r67, hO⟩ := w60.share hO (i := 3) rfl
      have hL := hL.trans h68
      have r0 := r0.le h68
      have r3 := r3.le h68
      have r61 := r61.le h68
      have hO : Obs _ _ [_, _, _, _] := hO
      have hO := hO.sel [] (by decide)
      have hO : Obs _ _ [] := hO
      obtain ⟨c69, h70, hF⟩ := bind_some hF
      refine wpn_mid 2 (fun e' σ' => ∃ (τ' : Hp), agr [(48, .bool c69), (0, .slice A0 p0.length c0), (1, .int .i64 p1), (2, .int .i64 p2), (3, .slice A3 p3.length c3), (9, .slice A37 c32.length c38), (10, .slice A57 c52.length c58)] e' ∧ Obs τ' σ' [] ∧ Hp.le τ τ' ∧ RdT zc τ' (.slice A0 p0.length c0) p0 ∧ RdT (Ty.int .i64) τ' (.slice A3 p3.length c3) p3 ∧ RdT zc τ' (.slice A37 c32.length c38) c32 ∧ RdT zc τ' (.slice A57 c52.length c58) c52) ?_ ?_
      · have hF := h70
        rcases ite_some hF with ⟨hb71, hF⟩ | ⟨hb71, hF⟩
        · refine wpn_gF (congrArg (fun x => isB (.bool x) false) hb71) ?_
          refine wpn_pk (congrArg Value.bool hb71) ?_
          refine wpn_nil ?_
          injection hF with hF
          subst hF
          refine wpn_end ?_
          exact ⟨rfl, _, ar (ar (ar (ar (ar (ar (ar trivial)))))), hO, hL, r0, r3, r61, r67⟩
        · refine wpn_gT (congrArg (fun x => isB (.bool x) false) hb71) ?_
          refine wpn_q hO 1 [] [(0, .slice A0 p0.length c0), (1, .int .i64 p1), (2, .int .i64 p2), (3, .slice A3 p3.length c3), (9, .slice A37 c32.length c38), (10, .slice A57 c52.length c58), (44, .bool (!c63)), (45, .slice A57 c52.length c58)] (ar (ar (ar (ar (ar (ar (ar (ar trivial)))))))) fun j => ?_
          obtain ⟨c72, h73, hF⟩ := bind_some hF
          refine wpn_c0 hO (zu r67 h73) rfl fun _ σ _ _ hO h74 h75 => ?_
          have hL := hL.trans h74
          have r0 := r0.le h74
          have r3 := r3.le h74
          have r61 := r61.le h74
          have r67 := r67.le h74
          obtain ⟨rfl, rfl⟩ := h75
          have hO : Obs _ _ [] := hO
          refine wpn_q hO 1 [] [(0, .slice A0 p0.length c0), (1, .int .i64 p1), (2, .int .i64 p2), (3, .slice A3 p3.length c3), (9, .slice A37 c32.length c38), (10, .slice A57 c52.length c58), (44, .bool (!c63)), (47, .bool (!c72))] (ar (ar (ar (ar (ar (ar (ar (ar trivial)))))))) fun j => ?_
          refine wpn_pk (congrArg Value.bool hb71) ?_
          refine wpn_nil ?_
          injection hF with hF
          subst hF
          refine wpn_end ?_
          exact ⟨rfl, _, ar (ar (ar (ar (ar (ar (ar trivial)))))), hO, hL, r0, r3, r61, r67⟩
      · rintro e σ ⟨_, hA, hO, hL, r0, r3, r61, r67⟩
        rw [← sets_agr _ _ hA]
        refine wpn_qa hO [] [(0, .slice A0 p0.length c0), (1, .int .i64 p1), (2, .int .i64 p2), (3, .slice A3 p3.length c3), (9, .slice A37 c32.length c38), (10, .slice A57 c52.length c58), (63, .bool ((c69 || (decide ((c32.length : Int) > (IntKind.i64.wrap ((p0.length : Int) + 1))))) || (decide ((c52.length : Int) > (p0.length : Int)))))] (And.intro (And.intro rfl rfl) (fun _ => And.intro (And.intro rfl rfl) (fun _ => ar (ar (ar (ar (ar (ar (ar trivial))))))))) fun j => ?_
        rcases ite_some hF with ⟨hb76, hF⟩ | ⟨hb76, hF⟩
        · refine wpn_cT (congrArg Value.bool hb76) ?_
          refine wpn_assoc ?_
          refine wpn_qa hO [] [(8, .bool false)] (ar trivial) fun j => ?_
          refine wpn_rt ?_
          injection hF with hF
          subst hF
          exact hQ _ _ _ _ _ rfl hO hL ⟨rfl, rfl⟩
        · refine wpn_cF (congrArg Value.bool hb76) ?_
          refine wpn_sk ?_
          refine wpn_assoc ?_
          refine wpn_qa hO [] [(0, .slice A0 p0.length c0), (1, .int .i64 p1), (2, .int .i64 p2), (3, .slice A3 p3.length c3), (9, .slice A37 c32.length c38), (10, .slice A57 c52.length c58), (11, .int .i64 0)] (ar (ar (ar (ar (ar (ar (ar trivial))))))) fun j => ?_
          refine wpn_bl ?_
          refine wpn_lp (fun (n : Nat) e' σ' => ∃ (A555 : Option Addr) (c556 : Nat) (x557 : List Int) (x561 : Int) (τ' : Hp), agr [(0, .slice A0 p0.length c0), (1, .int .i64 p1), (2, .int .i64 p2), (3, .slice A555 x557.length c556), (9, .slice A37 c32.length c38), (10, .slice A57 c52.length c58), (11, .int .i64 x561)] e' ∧ Obs τ' σ' [] ∧ Hp.le τ τ' ∧ RdT zc τ' (.slice A0 p0.length c0) p0 ∧ RdT (Ty.int .i64) τ' (.slice A555 x557.length c556) x557 ∧ RdT zc τ' (.slice A37 c32.length c38) c32 ∧ RdT zc τ' (.slice A57 c52.length c58) c52 ∧ zE p0 p1 p2 c32 c52 n x557 x561 = some rr) big ⟨A3, c3, p3, 0, _, ar (ar (ar (ar (ar (ar (ar trivial)))))), hO, hL, r0, r3, r61, r67, hF⟩ ?_
          clear hF hO hL
          rintro n1028 e σ ⟨A555, c556, x557, x561, _, hA, hO, hL, r554, r558, r559, r560, hF⟩
          rw [← sets_agr _ _ hA]
          cases n1028 with
          | zero => exact nomatch (show none = some rr from hF)
          | succ n1028 =>
            replace hF : zX (zE p0 p1 p2 c32 c52 n1028) p0 p1 p2 c32 c52 x557 x561 = some rr := hF
            unfold zX at hF
            refine wpn_assoc ?_
            refine wpn_qa hO [] [(0, .slice A0 p0.length c0), (1, .int .i64 p1), (2, .int .i64 p2), (3, .slice A555 x557.length c556), (9, .slice A37 c32.length c38), (10, .slice A57 c52.length c58), (11, .int .i64 x561), (67, .bool (decide (x561 < (p0.length : Int))))] (ar (ar (ar (ar (ar (ar (ar (ar trivial)))))))) fun j => ?_
            rcases ite_some hF with ⟨hb1029, hF⟩ | ⟨hb1029, hF⟩
            · refine wpn_cT (congrArg Value.bool hb1029) ?_
              refine wpn_sk ?_
              refine wpn_bl ?_
              refine wpn_ptl ?_
              refine wpn_pq ?_
              refine wpn_qa hO [] [(0, .slice A0 p0.length c0), (1, .int .i64 p1), (2, .int .i64 p2), (9, .slice A37 c32.length c38), (10, .slice A57 c52.length c58), (11, .int .i64 x561), (71, .slice A555 x557.length c556)] (ar (ar (ar (ar (ar (ar (ar trivial))))))) fun j => ?_
              refine wpn_pq ?_
              refine wpn_qa hO [] [(0, .slice A0 p0.length c0), (1, .int .i64 p1), (2, .int .i64 p2), (9, .slice A37 c32.length c38), (10, .slice A57 c52.length c58), (11, .int .i64 x561), (71, .slice A555 x557.length c556), (73, .slice A0 p0.length c0)] (ar (ar (ar (ar (ar (ar (ar (ar trivial)))))))) fun j => ?_
              refine wpn_pq ?_
              refine wpn_qa hO [] [(0, .slice A0 p0.length c0), (1, .int .i64 p1), (2, .int .i64 p2), (9, .slice A37 c32.length c38), (10, .slice A57 c52.length c58), (11, .int .i64 x561), (71, .slice A555 x557.length c556), (73, .slice A0 p0.length c0), (74, .int .i64 x561)] (ar (ar (ar (ar (ar (ar (ar (ar (ar trivial))))))))) fun j => ?_
              refine wpn_pq ?_
              obtain ⟨y1030, g1031, hF⟩ := bind_some hF
              refine wpn_idx (T := zc) r554 hO.base rfl rfl g1031 (by decide) fun a1032 _ k1033 m1034 => ?_
              obtain ⟨v1035, rfl, r1036⟩ := k1033
              obtain ⟨A1037, c1038, rfl, -⟩ := r1036.form
              refine wpn_nil ?_
              refine wpn_pq ?_
              refine wpn_qa hO [] [(0, .slice A0 p0.length c0), (1, .int .i64 p1), (2, .int .i64 p2), (9, .slice A37 c32.length c38), (10, .slice A57 c52.length c58), (11, .int .i64 x561), (71, .slice A555 x557.length c556), (76, .pointer (some a1032))] (ar (ar (ar (ar (ar (ar (ar (ar trivial)))))))) fun j => ?_
              refine wpn_pq ?_
              refine wpn_ld rfl (m1034.le hO.base).fst ?_
              refine wpn_nil ?_
              refine wpn_pq ?_
              refine wpn_qa hO [] [(0, .slice A0 p0.length c0), (1, .int .i64 p1), (2, .int .i64 p2), (9, .slice A37 c32.length c38), (10, .slice A57 c52.length c58), (11, .int .i64 x561), (71, .slice A555 x557.length c556), (76, .pointer (some a1032)), (77, .int .i64 y1030.From), (78, .slice A0 p0.length c0)] (ar (ar (ar (ar (ar (ar (ar (ar (ar (ar trivial)))))))))) fun j => ?_
              refine wpn_pq ?_
              refine wpn_qa hO [] [(0, .slice A0 p0.length c0), (1, .int .i64 p1), (2, .int .i64 p2), (9, .slice A37 c32.length c38), (10, .slice A57 c52.length c58), (11, .int .i64 x561), (71, .slice A555 x557.length c556), (76, .pointer (some a1032)), (77, .int .i64 y1030.From), (78, .slice A0 p0.length c0), (79, .int .i64 x561)] (ar (ar (ar (ar (ar (ar (ar (ar (ar (ar (ar trivial))))))))))) fun j => ?_
              refine wpn_pq ?_
              obtain ⟨y1039, g1040, hF⟩ := bind_some hF
              refine wpn_idx (T := zc) r554 hO.base rfl rfl g1040 (by decide) fun a1041 _ k1042 m1043 => ?_
              obtain ⟨v1044, rfl, r1045⟩ := k1042
              obtain ⟨A1046, c1047, rfl, -⟩ := r1045.form
              refine wpn_nil ?_
              refine wpn_pq ?_
              refine wpn_qa hO [] [(0, .slice A0 p0.length c0), (1, .int .i64 p1), (2, .int .i64 p2), (9, .slice A37 c32.length c38), (10, .slice A57 c52.length c58), (11, .int .i64 x561), (71, .slice A555 x557.length c556), (76, .pointer (some a1032)), (77, .int .i64 y1030.From), (81, .pointer (some (a1041.add 1)))] (ar (ar (ar (ar (ar (ar (ar (ar (ar (ar trivial)))))))))) fun j => ?_
              refine wpn_pq ?_
              refine wpn_ld rfl ((m1043.le hO.base).one 1 rfl) ?_
              refine wpn_nil ?_
              refine wpn_pq ?_
              refine wpn_qa hO [] [(0, .slice A0 p0.length c0), (1, .int .i64 p1), (2, .int .i64 p2), (9, .slice A37 c32.length c38), (10, .slice A57 c52.length c58), (11, .int .i64 x561), (71, .slice A555 x557.length c556), (76, .pointer (some a1032)), (77, .int .i64 y1030.From), (81, .pointer (some (a1041.add 1))), (82, .int .i64 y1039.To), (83, .slice A0 p0.length c0)] (ar (ar (ar (ar (ar (ar (ar (ar (ar (ar (ar (ar trivial)))))))))))) fun j => ?_
              refine wpn_pq ?_
              refine wpn_qa hO [] [(0, .slice A0 p0.length c0), (1, .int .i64 p1), (2, .int .i64 p2), (9, .slice A37 c32.length c38), (10, .slice A57 c52.length c58), (11, .int .i64 x561), (71, .slice A555 x557.length c556), (76, .pointer (some a1032)), (77, .int .i64 y1030.From), (81, .pointer (some (a1041.add 1))), (82, .int .i64 y1039.To), (83, .slice A0 p0.length c0), (84, .int .i64 x561)] (ar (ar (ar (ar (ar (ar (ar (ar (ar (ar (ar (ar (ar trivial))))))))))))) fun j => ?_
              refine wpn_pq ?_
              obtain ⟨y1048, g1049, hF⟩ := bind_some hF
              refine wpn_idx (T := zc) r554 hO.base rfl rfl g1049 (by decide) fun a1050 _ k1051 m1052 => ?_
              obtain ⟨v1053, rfl, r1054⟩ := k1051
              obtain ⟨A1055, c1056, rfl, -⟩ := r1054.form
              refine wpn_nil ?_
              refine wpn_pq ?_
              refine wpn_qa hO [] [(0, .slice A0 p0.length c0), (1, .int .i64 p1), (2, .int .i64 p2), (9, .slice A37 c32.length c38), (10, .slice A57 c52.length c58), (11, .int .i64 x561), (71, .slice A555 x557.length c556), (76, .pointer (some a1032)), (77, .int .i64 y1030.From), (81, .pointer (some (a1041.add 1))), (82, .int .i64 y1039.To), (86, .pointer (some (a1050.add 1)))] (ar (ar (ar (ar (ar (ar (ar (ar (ar (ar (ar (ar trivial)))))))))))) fun j => ?_
              refine wpn_pq ?_
              refine wpn_ld rfl ((m1052.le hO.base).one 1 rfl) ?_
              refine wpn_nil ?_
              refine wpn_pq ?_
              refine wpn_qa hO [] [(0, .slice A0 p0.length c0), (1, .int .i64 p1), (2, .int .i64 p2), (9, .slice A37 c32.length c38), (10, .slice A57 c52.length c58), (11, .int .i64 x561), (71, .slice A555 x557.length c556), (76, .pointer (some a1032)), (77, .int .i64 y1030.From), (81, .pointer (some (a1041.add 1))), (82, .int .i64 y1039.To), (86, .pointer (some (a1050.add 1))), (87, .int .i64 y1048.To), (88, .int .i64 (IntKind.i64.wrap (y1048.To - 1)))] (ar (ar (ar (ar (ar (ar (ar (ar (ar (ar (ar (ar (ar (ar trivial)))))))))))))) fun j => ?_
              refine wpn_pq ?_
              refine wpn_qa hO [] [(0, .slice A0 p0.length c0), (1, .int .i64 p1), (2, .int .i64 p2), (9, .slice A37 c32.length c38), (10, .slice A57 c52.length c58), (11, .int .i64 x561), (71, .slice A555 x557.length c556), (76, .pointer (some a1032)), (77, .int .i64 y1030.From), (81, .pointer (some (a1041.add 1))), (82, .int .i64 y1039.To), (86, .pointer (some (a1050.add 1))), (87, .int .i64 y1048.To), (88, .int .i64 (IntKind.i64.wrap (y1048.To - 1))), (89, .slice A0 p0.length c0)] (ar (ar (ar (ar (ar (ar (ar (ar (ar (ar (ar (ar (ar (ar (ar trivial))))))))))))))) fun j => ?_
              refine wpn_pq ?_
              refine wpn_qa hO [] [(0, .slice A0 p0.length c0), (1, .int .i64 p1), (2, .int .i64 p2), (9, .slice A37 c32.length c38), (10, .slice A57 c52.length c58), (11, .int .i64 x561), (71, .slice A555 x557.length c556), (76, .pointer (some a1032)), (77, .int .i64 y1030.From), (81, .pointer (some (a1041.add 1))), (82, .int .i64 y1039.To), (86, .pointer (some (a1050.add 1))), (87, .int .i64 y1048.To), (88, .int .i64 (IntKind.i64.wrap (y1048.To - 1))), (89, .slice A0 p0.length c0), (90, .int .i64 x561)] (ar (ar (ar (ar (ar (ar (ar (ar (ar (ar (ar (ar (ar (ar (ar (ar trivial)))))))))))))))) fun j => ?_
              refine wpn_pq ?_
              obtain ⟨y1057, g1058, hF⟩ := bind_some hF
              refine wpn_idx (T := zc) r554 hO.base rfl rfl g1058 (by decide) fun a1059 _ k1060 m1061 => ?_
              obtain ⟨v1062, rfl, r1063⟩ := k1060
              obtain ⟨A1064, c1065, rfl, -⟩ := r1063.form
              refine wpn_nil ?_
              refine wpn_pq ?_
              refine wpn_qa hO [] [(0, .slice A0 p0.length c0), (1, .int .i64 p1), (2, .int .i64 p2), (9, .slice A37 c32.length c38), (10, .slice A57 c52.length c58), (11, .int .i64 x561), (71, .slice A555 x557.length c556), (76, .pointer (some a1032)), (77, .int .i64 y1030.From), (81, .pointer (some (a1041.add 1))), (82, .int .i64 y1039.To), (86, .pointer (some (a1050.add 1))), (87, .int .i64 y1048.To), (88, .int .i64 (IntKind.i64.wrap (y1048.To - 1))), (92, .pointer (some a1059))] (ar (ar (ar (ar (ar (ar (ar (ar (ar (ar (ar (ar (ar (ar (ar trivial))))))))))))))) fun j => ?_
              refine wpn_pq ?_
              refine wpn_ld rfl (m1061.le hO.base).fst ?_
              refine wpn_nil ?_
              refine wpn_pq ?_
              refine wpn_qa hO [] [(0, .slice A0 p0.length c0), (1, .int .i64 p1), (2, .int .i64 p2), (9, .slice A37 c32.length c38), (10, .slice A57 c52.length c58), (11, .int .i64 x561), (71, .slice A555 x557.length c556), (76, .pointer (some a1032)), (77, .int .i64 y1030.From), (81, .pointer (some (a1041.add 1))), (82, .int .i64 y1039.To), (86, .pointer (some (a1050.add 1))), (87, .int .i64 y1048.To), (88, .int .i64 (IntKind.i64.wrap (y1048.To - 1))), (92, .pointer (some a1059)), (93, .int .i64 y1057.From), (94, .int .i64 (IntKind.i64.wrap (y1057.From - 1)))] (ar (ar (ar (ar (ar (ar (ar (ar (ar (ar (ar (ar (ar (ar (ar (ar (ar trivial))))))))))))))))) fun j => ?_
              obtain ⟨_, hr1074, hF⟩ := bind_some hF
              obtain ⟨_, hr1083, hF⟩ := bind_some hF
              refine wpn_pb ?_ ?_
              · refine wpn_pe ?_
                refine wpn_late ?_
                refine wpn_lit (T := (Ty.int .i64)) (l := ([] : List Int)) (cs := []) hO rfl rfl rfl (by decide) fun _ σ o1068 w1069 hO => ?_
                obtain ⟨A1066, c1067, rfl, -⟩ := w1069.form
                have hO : Obs _ _ [_] := hO
                refine wpn_nil ?_
                refine wpn_ag ⟨(again_ld rfl (m1061.le hO.base).fst rfl), (again_ld rfl ((m1052.le hO.base).one 1 rfl) rfl), (again_ld rfl ((m1043.le hO.base).one 1 rfl) rfl), (again_ld rfl (m1034.le hO.base).fst rfl), trivial⟩ ?_
                refine wpn_nil ?_
                refine wpn_pb ?_ ?_
                · refine wpn_pe ?_
                  refine wpn_late ?_
                  refine wpn_apl (T := (Ty.int .i64)) hO w1069 (i := 0) rfl rfl rfl r558 hr1074 (by decide) fun _ σ o1072 w1073 hO => ?_
                  obtain ⟨A1070, c1071, rfl, -⟩ := w1073.form
                  have hO : Obs _ _ [_] := hO
                  refine wpn_nil ?_
                  refine wpn_ag ⟨(again_ld rfl (m1061.le hO.base).fst rfl), (again_ld rfl ((m1052.le hO.base).one 1 rfl) rfl), (again_ld rfl ((m1043.le hO.base).one 1 rfl) rfl), (again_ld rfl (m1034.le hO.base).fst rfl), trivial⟩ ?_
                  refine wpn_nil ?_
                  refine wpn_pe ?_
                  refine wpn_lit (T := (Ty.int .i64)) (l := ([y1030.From, y1039.To, (IntKind.i64.wrap (y1048.To - 1)), (IntKind.i64.wrap (y1057.From - 1))] : List Int)) (cs := [.int .i64 y1030.From, .int .i64 y1039.To, .int .i64 (IntKind.i64.wrap (y1048.To - 1)), .int .i64 (IntKind.i64.wrap (y1057.From - 1))]) hO rfl ⟨[.int .i64 y1030.From], _, rfl, rfl, ⟨[.int .i64 y1039.To], _, rfl, rfl, ⟨[.int .i64 (IntKind.i64.wrap (y1048.To - 1))], _, rfl, rfl, ⟨[.int .i64 (IntKind.i64.wrap (y1057.From - 1))], _, rfl, rfl, rfl⟩⟩⟩⟩ rfl (by decide) fun _ σ o1077 w1078 hO => ?_
                  obtain ⟨A1075, c1076, rfl, -⟩ := w1078.form
                  have hO : Obs _ _ [_, _] := hO
                  refine wpn_nil ?_
                  refine wpn_pe ?_
                  refine wpn_apf (T := (Ty.int .i64)) (Ty.sc_flat _ _) hO w1073 (i := 0) rfl rfl rfl (w1078.rd hO (i := 1) rfl) hr1083 (by decide) fun _ σ o1081 w1082 hO => ?_
                  obtain ⟨A1079, c1080, rfl, -⟩ := w1082.form
                  have hO : Obs _ _ [_, _] := hO
                  refine wpn_nil ?_
                  refine wpn_pq ?_
                  refine wpn_qa hO [] [(0, .slice A0 p0.length c0), (1, .int .i64 p1), (2, .int .i64 p2), (3, .slice A1079 ((([] : List Int) ++ x557) ++ ([y1030.From, y1039.To, (IntKind.i64.wrap (y1048.To - 1)), (IntKind.i64.wrap (y1057.From - 1))] : List Int)).length c1080), (9, .slice A37 c32.length c38), (10, .slice A57 c52.length c58), (11, .int .i64 x561)] (ar (ar (ar (ar (ar (ar (ar trivial))))))) fun j => ?_
                  refine wpn_pd ?_
                  refine wpn_end ?_
                  refine inb_i ?_
                  refine thn_i ?_
                  refine wpn_rlast ?_
                  refine wpn_qa hO [] [(0, .slice A0 p0.length c0), (1, .int .i64 p1), (2, .int .i64 p2), (3, .slice A1079 ((([] : List Int) ++ x557) ++ ([y1030.From, y1039.To, (IntKind.i64.wrap (y1048.To - 1)), (IntKind.i64.wrap (y1057.From - 1))] : List Int)).length c1080), (9, .slice A37 c32.length c38), (10, .slice A57 c52.length c58), (11, .int .i64 (IntKind.i64.wrap (x561 + 1)))] (ar (ar (ar (ar (ar (ar (ar trivial))))))) fun j => ?_
                  refine wpn_end ?_
                  refine thn_i ?_
                  obtain ⟨_, h1085, r1084, hO⟩ := w1082.share hO (i := 0) rfl
                  have hL := hL.trans h1085
                  have r554 := r554.le h1085
                  have r559 := r559.le h1085
                  have r560 := r560.le h1085
                  have hO : Obs _ _ [_, _] := hO
                  have hO := hO.sel [] (by decide)
                  exact ⟨n1028, Nat.lt_succ_self _, A1079, c1080, ((([] : List Int) ++ x557) ++ ([y1030.From, y1039.To, (IntKind.i64.wrap (y1048.To - 1)), (IntKind.i64.wrap (y1057.From - 1))] : List Int)), (IntKind.i64.wrap (x561 + 1)), _, ar (ar (ar (ar (ar (ar (ar trivial)))))), hO, hL, r554, r1084, r559, r560, hF⟩
                · refine wpn_pe ?_
                  refine wpn_lit (T := (Ty.int .i64)) (l := ([y1030.From, y1039.To, (IntKind.i64.wrap (y1048.To - 1)), (IntKind.i64.wrap (y1057.From - 1))] : List Int)) (cs := [.int .i64 y1030.From, .int .i64 y1039.To, .int .i64 (IntKind.i64.wrap (y1048.To - 1)), .int .i64 (IntKind.i64.wrap (y1057.From - 1))]) hO rfl ⟨[.int .i64 y1030.From], _, rfl, rfl, ⟨[.int .i64 y1039.To], _, rfl, rfl, ⟨[.int .i64 (IntKind.i64.wrap (y1048.To - 1))], _, rfl, rfl, ⟨[.int .i64 (IntKind.i64.wrap (y1057.From - 1))], _, rfl, rfl, rfl⟩⟩⟩⟩ rfl (by decide) fun _ σ o1077 w1078 hO => ?_
                  obtain ⟨A1075, c1076, rfl, -⟩ := w1078.form
                  have hO : Obs _ _ [_, _] := hO
                  refine wpn_nil ?_
                  refine wpn_pe ?_
                  refine wpn_late ?_
                  refine wpn_apl (T := (Ty.int .i64)) hO w1069 (i := 0) rfl rfl rfl r558 hr1074 (by decide) fun _ σ o1072 w1073 hO => ?_
                  obtain ⟨A1070, c1071, rfl, -⟩ := w1073.form
                  have hO : Obs _ _ [_, _] := hO
                  refine wpn_nil ?_
                  refine wpn_ag ⟨(again_ld rfl (m1061.le hO.base).fst rfl), (again_ld rfl ((m1052.le hO.base).one 1 rfl) rfl), (again_ld rfl ((m1043.le hO.base).one 1 rfl) rfl), (again_ld rfl (m1034.le hO.base).fst rfl), trivial⟩ ?_
                  refine wpn_nil ?_
                  refine wpn_pe ?_
                  refine wpn_apf (T := (Ty.int .i64)) (Ty.sc_flat _ _) hO w1073 (i := 0) rfl rfl rfl (w1078.rd hO (i := 1) rfl) hr1083 (by decide) fun _ σ o1081 w1082 hO => ?_
                  obtain ⟨A1079, c1080, rfl, -⟩ := w1082.form
                  have hO : Obs _ _ [_, _] := hO
                  refine wpn_nil ?_
                  refine wpn_pq ?_
                  refine wpn_qa hO [] [(0, .slice A0 p0.length c0), (1, .int .i64 p1), (2, .int .i64 p2), (3, .slice A1079 ((([] : List Int) ++ x557) ++ ([y1030.From, y1039.To, (IntKind.i64.wrap (y1048.To - 1)), (IntKind.i64.wrap (y1057.From - 1))] : List Int)).length c1080), (9, .slice A37 c32.length c38), (10, .slice A57 c52.length c58), (11, .int .i64 x561)] (ar (ar (ar (ar (ar (ar (ar trivial))))))) fun j => ?_
                  refine wpn_pd ?_
                  refine wpn_end ?_
                  refine inb_i ?_
                  refine thn_i ?_
                  refine wpn_rlast ?_
                  refine wpn_qa hO [] [(0, .slice A0 p0.length c0), (1, .int .i64 p1), (2, .int .i64 p2), (3, .slice A1079 ((([] : List Int) ++ x557) ++ ([y1030.From, y1039.To, (IntKind.i64.wrap (y1048.To - 1)), (IntKind.i64.wrap (y1057.From - 1))] : List Int)).length c1080), (9, .slice A37 c32.length c38), (10, .slice A57 c52.length c58), (11, .int .i64 (IntKind.i64.wrap (x561 + 1)))] (ar (ar (ar (ar (ar (ar (ar trivial))))))) fun j => ?_
                  refine wpn_end ?_
                  refine thn_i ?_
                  obtain ⟨_, h1085, r1084, hO⟩ := w1082.share hO (i := 0) rfl
                  have hL := hL.trans h1085
                  have r554 := r554.le h1085
                  have r559 := r559.le h1085
                  have r560 := r560.le h1085
                  have hO : Obs _ _ [_, _] := hO
                  have hO := hO.sel [] (by decide)
                  exact ⟨n1028, Nat.lt_succ_self _, A1079, c1080, ((([] : List Int) ++ x557) ++ ([y1030.From, y1039.To, (IntKind.i64.wrap (y1048.To - 1)), (IntKind.i64.wrap (y1057.From - 1))] : List Int)), (IntKind.i64.wrap (x561 + 1)), _, ar (ar (ar (ar (ar (ar (ar trivial)))))), hO, hL, r554, r1084, r559, r560, hF⟩
              · refine wpn_pe ?_
                refine wpn_lit (T := (Ty.int .i64)) (l := ([y1030.From, y1039.To, (IntKind.i64.wrap (y1048.To - 1)), (IntKind.i64.wrap (y1057.From - 1))] : List Int)) (cs := [.int .i64 y1030.From, .int .i64 y1039.To, .int .i64 (IntKind.i64.wrap (y1048.To - 1)), .int .i64 (IntKind.i64.wrap (y1057.From - 1))]) hO rfl ⟨[.int .i64 y1030.From], _, rfl, rfl, ⟨[.int .i64 y1039.To], _, rfl, rfl, ⟨[.int .i64 (IntKind.i64.wrap (y1048.To - 1))], _, rfl, rfl, ⟨[.int .i64 (IntKind.i64.wrap (y1057.From - 1))], _, rfl, rfl, rfl⟩⟩⟩⟩ rfl (by decide) fun _ σ o1077 w1078 hO => ?_
                obtain ⟨A1075, c1076, rfl, -⟩ := w1078.form
                have hO : Obs _ _ [_] := hO
                refine wpn_nil ?_
                refine wpn_pe ?_
                refine wpn_late ?_
                refine wpn_lit (T := (Ty.int .i64)) (l := ([] : List Int)) (cs := []) hO rfl rfl rfl (by decide) fun _ σ o1068 w1069 hO => ?_
                obtain ⟨A1066, c1067, rfl, -⟩ := w1069.form
                have hO : Obs _ _ [_, _] := hO
                refine wpn_nil ?_
                refine wpn_ag ⟨(again_ld rfl (m1061.le hO.base).fst rfl), (again_ld rfl ((m1052.le hO.base).one 1 rfl) rfl), (again_ld rfl ((m1043.le hO.base).one 1 rfl) rfl), (again_ld rfl (m1034.le hO.base).fst rfl), trivial⟩ ?_
                refine wpn_nil ?_
                refine wpn_pe ?_
                refine wpn_late ?_
                refine wpn_apl (T := (Ty.int .i64)) hO w1069 (i := 1) rfl rfl rfl r558 hr1074 (by decide) fun _ σ o1072 w1073 hO => ?_
                obtain ⟨A1070, c1071, rfl, -⟩ := w1073.form
                have hO : Obs _ _ [_, _] := hO
                refine wpn_nil ?_
                refine wpn_ag ⟨(again_ld rfl (m1061.le hO.base).fst rfl), (again_ld rfl ((m1052.le hO.base).one 1 rfl) rfl), (again_ld rfl ((m1043.le hO.base).one 1 rfl) rfl), (again_ld rfl (m1034.le hO.base).fst rfl), trivial⟩ ?_
                refine wpn_nil ?_
                refine wpn_pe ?_
                refine wpn_apf (T := (Ty.int .i64)) (Ty.sc_flat _ _) hO w1073 (i := 1) rfl rfl rfl (w1078.rd hO (i := 0) rfl) hr1083 (by decide) fun _ σ o1081 w1082 hO => ?_
                obtain ⟨A1079, c1080, rfl, -⟩ := w1082.form
                have hO : Obs _ _ [_, _] := hO
                refine wpn_nil ?_
                refine wpn_pq ?_
                refine wpn_qa hO [] [(0, .slice A0 p0.length c0), (1, .int .i64 p1), (2, .int .i64 p2), (3, .slice A1079 ((([] : List Int) ++ x557) ++ ([y1030.From, y1039.To, (IntKind.i64.wrap (y1048.To - 1)), (IntKind.i64.wrap (y1057.From - 1))] : List Int)).length c1080), (9, .slice A37 c32.length c38), (10, .slice A57 c52.length c58), (11, .int .i64 x561)] (ar (ar (ar (ar (ar (ar (ar trivial))))))) fun j => ?_
                refine wpn_pd ?_
                refine wpn_end ?_
                refine inb_i ?_
                refine thn_i ?_
                refine wpn_rlast ?_
                refine wpn_qa hO [] [(0, .slice A0 p0.length c0), (1, .int .i64 p1), (2, .int .i64 p2), (3, .slice A1079 ((([] : List Int) ++ x557) ++ ([y1030.From, y1039.To, (IntKind.i64.wrap (y1048.To - 1)), (IntKind.i64.wrap (y1057.From - 1))] : List Int)).length c1080), (9, .slice A37 c32.length c38), (10, .slice A57 c52.length c58), (11, .int .i64 (IntKind.i64.wrap (x561 + 1)))] (ar (ar (ar (ar (ar (ar (ar trivial))))))) fun j => ?_
                refine wpn_end ?_
                refine thn_i ?_
                obtain ⟨_, h1085, r1084, hO⟩ := w1082.share hO (i := 1) rfl
                have hL := hL.trans h1085
                have r554 := r554.le h1085
                have r559 := r559.le h1085
                have r560 := r560.le h1085
                have hO : Obs _ _ [_, _] := hO
                have hO := hO.sel [] (by decide)
                exact ⟨n1028, Nat.lt_succ_self _, A1079, c1080, ((([] : List Int) ++ x557) ++ ([y1030.From, y1039.To, (IntKind.i64.wrap (y1048.To - 1)), (IntKind.i64.wrap (y1057.From - 1))] : List Int)), (IntKind.i64.wrap (x561 + 1)), _, ar (ar (ar (ar (ar (ar (ar trivial)))))), hO, hL, r554, r1084, r559, r560, hF⟩
            · refine wpn_cF (congrArg Value.bool hb1029) ?_
              refine wpn_ex ?_
              refine thn_x ?_
              refine inb_x ?_
              refine thn_i ?_
              refine wpn_lit (T := (Ty.int .i64)) (l := ([] : List Int)) (cs := []) hO rfl rfl rfl (by decide) fun _ σ o1088 w1089 hO => ?_
              obtain ⟨A1086, c1087, rfl, -⟩ := w1089.form
              have hO : Obs _ _ [_] := hO
              refine wpn_q hO 1 [] [(0, .slice A0 p0.length c0), (1, .int .i64 p1), (2, .int .i64 p2), (9, .slice A37 c32.length c38), (10, .slice A57 c52.length c58), (97, .slice A1086 ([] : List Int).length c1087), (98, .slice A555 x557.length c556)] (ar (ar (ar (ar (ar (ar (ar trivial))))))) fun j => ?_
              obtain ⟨_, hr1094, hF⟩ := bind_some hF
              refine wpn_apl (T := (Ty.int .i64)) hO w1089 (i := 0) rfl rfl rfl r558 hr1094 (by decide) fun _ σ o1092 w1093 hO => ?_
              obtain ⟨A1090, c1091, rfl, -⟩ := w1093.form
              have hO : Obs _ _ [_] := hO
              refine wpn_q hO 6 [] [(0, .slice A0 p0.length c0), (1, .int .i64 p1), (2, .int .i64 p2), (9, .slice A37 c32.length c38), (10, .slice A57 c52.length c58), (99, .slice A1090 (([] : List Int) ++ x557).length c1091), (100, .int .i64 p1), (102, .int .i64 (IntKind.i64.wrap (p1 - 1))), (103, .int .i64 p2), (105, .int .i64 (IntKind.i64.wrap (p2 - 1)))] (ar (ar (ar (ar (ar (ar (ar (ar (ar (ar trivial)))))))))) fun j => ?_
              refine wpn_lit (T := (Ty.int .i64)) (l := ([p1, (IntKind.i64.wrap (p1 - 1)), p2, (IntKind.i64.wrap (p2 - 1))] : List Int)) (cs := [.int .i64 p1, .int .i64 (IntKind.i64.wrap (p1 - 1)), .int .i64 p2, .int .i64 (IntKind.i64.wrap (p2 - 1))]) hO rfl ⟨[.int .i64 p1], _, rfl, rfl, ⟨[.int .i64 (IntKind.i64.wrap (p1 - 1))], _, rfl, rfl, ⟨[.int .i64 p2], _, rfl, rfl, ⟨[.int .i64 (IntKind.i64.wrap (p2 - 1))], _, rfl, rfl, rfl⟩⟩⟩⟩ rfl (by decide) fun _ σ o1097 w1098 hO => ?_
              obtain ⟨A1095, c1096, rfl, -⟩ := w1098.form
              have hO : Obs _ _ [_, _] := hO
              obtain ⟨_, hr1103, hF⟩ := bind_some hF
              refine wpn_apf (T := (Ty.int .i64)) (Ty.sc_flat _ _) hO w1093 (i := 0) rfl rfl rfl (w1098.rd hO (i := 1) rfl) hr1103 (by decide) fun _ σ o1101 w1102 hO => ?_
              obtain ⟨A1099, c1100, rfl, -⟩ := w1102.form
              have hO : Obs _ _ [_, _] := hO
              refine wpn_qa hO [] [(0, .slice A0 p0.length c0), (1, .int .i64 p1), (2, .int .i64 p2), (3, .slice A1099 ((([] : List Int) ++ x557) ++ ([p1, (IntKind.i64.wrap (p1 - 1)), p2, (IntKind.i64.wrap (p2 - 1))] : List Int)).length c1100), (9, .slice A37 c32.length c38), (10, .slice A57 c52.length c58)] (ar (ar (ar (ar (ar (ar trivial)))))) fun j => ?_
              refine wpn_assoc ?_
              refine wpn_qa hO [] [(0, .slice A0 p0.length c0), (1, .int .i64 p1), (2, .int .i64 p2), (3, .slice A1099 ((([] : List Int) ++ x557) ++ ([p1, (IntKind.i64.wrap (p1 - 1)), p2, (IntKind.i64.wrap (p2 - 1))] : List Int)).length c1100), (9, .slice A37 c32.length c38), (10, .slice A57 c52.length c58), (12, .int .i64 0)] (ar (ar (ar (ar (ar (ar (ar trivial))))))) fun j => ?_
              refine wpn_bl ?_
              have hO := hO.sel [0] (by decide)
              refine wpn_lp (fun (n : Nat) e' σ' => ∃ (A1238 : Option Addr) (c1239 : Nat) (o1240 : Ob) (x1241 : List Int) (x1245 : Int) (τ' : Hp), agr [(0, .slice A0 p0.length c0), (1, .int .i64 p1), (2, .int .i64 p2), (3, .slice A1238 x1241.length c1239), (9, .slice A37 c32.length c38), (10, .slice A57 c52.length c58), (12, .int .i64 x1245)] e' ∧ Obs τ' σ' [o1240] ∧ Hp.le τ τ' ∧ RdT zc τ' (.slice A0 p0.length c0) p0 ∧ OwnO (Ty.int .i64) 3 τ' (.slice A1238 x1241.length c1239) x1241 o1240 ∧ RdT zc τ' (.slice A37 c32.length c38) c32 ∧ RdT zc τ' (.slice A57 c52.length c58) c52 ∧ zh p0 p1 p2 c32 c52 n x1241 x1245 = some rr) big ⟨A1099, c1100, o1101, ((([] : List Int) ++ x557) ++ ([p1, (IntKind.i64.wrap (p1 - 1)), p2, (IntKind.i64.wrap (p2 - 1))] : List Int)), 0, _, ar (ar (ar (ar (ar (ar (ar trivial)))))), hO, hL, r554, w1102, r559, r560, hF⟩ ?_
              clear hF hO hL
              rintro n1371 e σ ⟨A1238, c1239, o1240, x1241, x1245, _, hA, hO, hL, r1237, w1242, r1243, r1244, hF⟩
              rw [← sets_agr _ _ hA]
              cases n1371 with
              | zero => exact nomatch (show none = some rr from hF)
              | succ n1371 =>
                replace hF : zK (zh p0 p1 p2 c32 c52 n1371) p0 p1 p2 c32 c52 x1241 x1245 = some rr := hF
                unfold zK at hF
                refine wpn_assoc ?_
                refine wpn_qa hO [] [(0, .slice A0 p0.length c0), (1, .int .i64 p1), (2, .int .i64 p2), (3, .slice A1238 x1241.length c1239), (9, .slice A37 c32.length c38), (10, .slice A57 c52.length c58), (12, .int .i64 x1245), (111, .bool (decide (x1245 < (x1241.length : Int))))] (ar (ar (ar (ar (ar (ar (ar (ar trivial)))))))) fun j => ?_
                rcases ite_some hF with ⟨hb1372, hF⟩ | ⟨hb1372, hF⟩
                · refine wpn_cT (congrArg Value.bool hb1372) ?_
                  refine wpn_sk ?_
                  refine wpn_bl ?_
                  refine wpn_q hO 3 [] [(0, .slice A0 p0.length c0), (1, .int .i64 p1), (2, .int .i64 p2), (3, .slice A1238 x1241.length c1239), (9, .slice A37 c32.length c38), (10, .slice A57 c52.length c58), (12, .int .i64 x1245), (114, .slice A0 p0.length c0), (115, .slice A1238 x1241.length c1239), (116, .int .i64 x1245)] (ar (ar (ar (ar (ar (ar (ar (ar (ar (ar trivial)))))))))) fun j => ?_
                  obtain ⟨y1373, g1374, hF⟩ := bind_some hF
                  refine wpn_ido (T := (Ty.int .i64)) hO w1242 (i := 0) rfl rfl rfl g1374 (by decide) fun a1375 _ k1376 m1377 i1378 => ?_
                  have k1379 := k1376
                  obtain rfl : _ = ([.int .i64 y1373] : List Value) := k1379
                  refine wpn_ld rfl m1377.fst ?_
                  obtain ⟨c1380, h1381, hF⟩ := bind_some hF
                  refine wpn_c0 hO (zbc r1237 h1381) rfl fun _ σ _ _ hO h1382 h1383 => ?_
                  have hL := hL.trans h1382
                  have r1237 := r1237.le h1382
                  have w1242 := w1242.le h1382
                  have r1243 := r1243.le h1382
                  have r1244 := r1244.le h1382
                  obtain ⟨v1384, o1387, rfl, rfl, w1388⟩ := h1383
                  obtain ⟨A1385, c1386, rfl, -⟩ := w1388.form
                  have hO : Obs _ _ [_, _] := hO
                  refine wpn_qa hO [] [(0, .slice A0 p0.length c0), (1, .int .i64 p1), (2, .int .i64 p2), (3, .slice A1238 x1241.length c1239), (9, .slice A37 c32.length c38), (10, .slice A57 c52.length c58), (12, .int .i64 x1245), (13, .slice A1385 c1380.length c1386)] (ar (ar (ar (ar (ar (ar (ar (ar trivial)))))))) fun j => ?_
                  refine wpn_q hO 3 [] [(0, .slice A0 p0.length c0), (1, .int .i64 p1), (2, .int .i64 p2), (3, .slice A1238 x1241.length c1239), (9, .slice A37 c32.length c38), (10, .slice A57 c52.length c58), (12, .int .i64 x1245), (13, .slice A1385 c1380.length c1386), (120, .slice A37 c32.length c38), (121, .slice A1238 x1241.length c1239), (122, .int .i64 x1245)] (ar (ar (ar (ar (ar (ar (ar (ar (ar (ar (ar trivial))))))))))) fun j => ?_
                  obtain ⟨y1389, g1390, hF⟩ := bind_some hF
                  refine wpn_ido (T := (Ty.int .i64)) hO w1242 (i := 0) rfl rfl rfl g1390 (by decide) fun a1391 _ k1392 m1393 i1394 => ?_
                  have k1395 := k1392
                  obtain rfl : _ = ([.int .i64 y1389] : List Value) := k1395
                  refine wpn_ld rfl m1393.fst ?_
                  obtain ⟨c1396, h1397, hF⟩ := bind_some hF
                  refine wpn_c0 hO (zbc r1243 h1397) rfl fun _ σ _ _ hO h1398 h1399 => ?_
                  have hL := hL.trans h1398
                  have r1237 := r1237.le h1398
                  have w1242 := w1242.le h1398
                  have r1243 := r1243.le h1398
                  have r1244 := r1244.le h1398
                  have w1388 := w1388.le h1398
                  obtain ⟨v1400, o1403, rfl, rfl, w1404⟩ := h1399
                  obtain ⟨A1401, c1402, rfl, -⟩ := w1404.form
                  have hO : Obs _ _ [_, _, _] := hO
                  refine wpn_qa hO [] [(0, .slice A0 p0.length c0), (1, .int .i64 p1), (2, .int .i64 p2), (3, .slice A1238 x1241.length c1239), (9, .slice A37 c32.length c38), (10, .slice A57 c52.length c58), (12, .int .i64 x1245), (13, .slice A1385 c1380.length c1386), (14, .slice A1401 c1396.length c1402)] (ar (ar (ar (ar (ar (ar (ar (ar (ar trivial))))))))) fun j => ?_
                  refine wpn_assoc ?_
                  refine wpn_q hO 3 [] [(0, .slice A0 p0.length c0), (1, .int .i64 p1), (2, .int .i64 p2), (3, .slice A1238 x1241.length c1239), (9, .slice A37 c32.length c38), (10, .slice A57 c52.length c58), (12, .int .i64 x1245), (13, .slice A1385 c1380.length c1386), (14, .slice A1401 c1396.length c1402), (126, .int .i64 p1), (127, .slice A1238 x1241.length c1239), (128, .int .i64 x1245)] (ar (ar (ar (ar (ar (ar (ar (ar (ar (ar (ar (ar trivial)))))))))))) fun j => ?_
                  obtain ⟨y1405, g1406, hF⟩ := bind_some hF
                  refine wpn_ido (T := (Ty.int .i64)) hO w1242 (i := 0) rfl rfl rfl g1406 (by decide) fun a1407 _ k1408 m1409 i1410 => ?_
                  have k1411 := k1408
                  obtain rfl : _ = ([.int .i64 y1405] : List Value) := k1411
                  refine wpn_ld rfl m1409.fst ?_
                  refine wpn_q hO 2 [] [(0, .slice A0 p0.length c0), (1, .int .i64 p1), (2, .int .i64 p2), (3, .slice A1238 x1241.length c1239), (9, .slice A37 c32.length c38), (10, .slice A57 c52.length c58), (12, .int .i64 x1245), (13, .slice A1385 c1380.length c1386), (14, .slice A1401 c1396.length c1402), (132, .bool (decide (p1 ≤ y1405)))] (ar (ar (ar (ar (ar (ar (ar (ar (ar (ar trivial)))))))))) fun j => ?_
                  obtain ⟨c1412, h1413, hF⟩ := bind_some hF
                  refine wpn_midq 2 [(139, .bool c1412), (0, .slice A0 p0.length c0), (1, .int .i64 p1), (2, .int .i64 p2), (3, .slice A1238 x1241.length c1239), (9, .slice A37 c32.length c38), (10, .slice A57 c52.length c58), (12, .int .i64 x1245), (13, .slice A1385 c1380.length c1386), (14, .slice A1401 c1396.length c1402)] (fun Q hQ => ?_) fun j => ?_
                  · have hF := h1413
                    rcases ite_some hF with ⟨hb1414, hF⟩ | ⟨hb1414, hF⟩
                    · refine wpn_gT (congrArg (fun x => isB (.bool x) true) hb1414) ?_
                      refine wpn_q hO 2 [] [(0, .slice A0 p0.length c0), (1, .int .i64 p1), (2, .int .i64 p2), (3, .slice A1238 x1241.length c1239), (9, .slice A37 c32.length c38), (10, .slice A57 c52.length c58), (12, .int .i64 x1245), (13, .slice A1385 c1380.length c1386), (14, .slice A1401 c1396.length c1402), (132, .bool (decide (p1 ≤ y1405))), (133, .slice A1238 x1241.length c1239), (134, .int .i64 x1245)] (ar (ar (ar (ar (ar (ar (ar (ar (ar (ar (ar (ar trivial)))))))))))) fun j => ?_
                      obtain ⟨y1415, g1416, hF⟩ := bind_some hF
                      refine wpn_ido (T := (Ty.int .i64)) hO w1242 (i := 0) rfl rfl rfl g1416 (by decide) fun a1417 _ k1418 m1419 i1420 => ?_
                      have k1421 := k1418
                      obtain rfl : _ = ([.int .i64 y1415] : List Value) := k1421
                      refine wpn_ld rfl m1419.fst ?_
                      refine wpn_q hO 2 [] [(0, .slice A0 p0.length c0), (1, .int .i64 p1), (2, .int .i64 p2), (3, .slice A1238 x1241.length c1239), (9, .slice A37 c32.length c38), (10, .slice A57 c52.length c58), (12, .int .i64 x1245), (13, .slice A1385 c1380.length c1386), (14, .slice A1401 c1396.length c1402), (132, .bool (decide (p1 ≤ y1405))), (138, .bool (decide (y1415 < p2)))] (ar (ar (ar (ar (ar (ar (ar (ar (ar (ar (ar trivial))))))))))) fun j => ?_
                      refine wpn_pk (congrArg Value.bool hb1414) ?_
                      refine wpn_nil ?_
                      injection hF with hF
                      subst hF
                      refine wpn_end ?_
                      exact hQ _ (ar (ar (ar (ar (ar (ar (ar (ar (ar (ar trivial))))))))))
                    · refine wpn_gF (congrArg (fun x => isB (.bool x) true) hb1414) ?_
                      refine wpn_pk (congrArg Value.bool hb1414) ?_
                      refine wpn_nil ?_
                      injection hF with hF
                      subst hF
                      refine wpn_end ?_
                      exact hQ _ (ar (ar (ar (ar (ar (ar (ar (ar (ar (ar trivial))))))))))
                  · refine wpn_nil ?_
                    obtain ⟨_, h1442, r1441, hO⟩ := w1388.share hO (i := 1) rfl
                    have hL := hL.trans h1442
                    have r1237 := r1237.le h1442
                    have w1242 := w1242.le h1442
                    have r1243 := r1243.le h1442
                    have r1244 := r1244.le h1442
                    have w1404 := w1404.le h1442
                    have hO : Obs _ _ [_, _, _] := hO
                    refine wpn_cut (fun e' σ' => ∃ (A1453 : Option Addr) (c1454 : Nat) (o1455 : Ob) (x1456 : List Int) (τ' : Hp), agr [(0, .slice A0 p0.length c0), (1, .int .i64 p1), (2, .int .i64 p2), (3, .slice A1453 x1456.length c1454), (9, .slice A37 c32.length c38), (10, .slice A57 c52.length c58), (12, .int .i64 x1245), (13, .slice A1385 c1380.length c1386)] e' ∧ Obs τ' σ' [o1455] ∧ Hp.le τ τ' ∧ RdT zc τ' (.slice A0 p0.length c0) p0 ∧ OwnO (Ty.int .i64) 3 τ' (.slice A1453 x1456.length c1454) x1456 o1455 ∧ RdT zc τ' (.slice A37 c32.length c38) c32 ∧ RdT zc τ' (.slice A57 c52.length c58) c52 ∧ RdT zd τ' (.slice A1385 c1380.length c1386) c1380 ∧ zs (zh p0 p1 p2 c32 c52 n1371) c52 x1245 c1380 x1456 = some rr) ?_ ?_
                    · refine wpn_clast ?_
                      rcases ite_some hF with ⟨hb1484, hF⟩ | ⟨hb1484, hF⟩
                      · refine wpn_cT (congrArg Value.bool hb1484) ?_
                        refine wpn_assoc ?_
                        refine wpn_qa hO [] [(0, .slice A0 p0.length c0), (1, .int .i64 p1), (2, .int .i64 p2), (3, .slice A1238 x1241.length c1239), (9, .slice A37 c32.length c38), (10, .slice A57 c52.length c58), (12, .int .i64 x1245), (13, .slice A1385 c1380.length c1386), (142, .bool ((c1396.length : Int) != 0))] (ar (ar (ar (ar (ar (ar (ar (ar (ar trivial))))))))) fun j => ?_
                        rcases ite_some hF with ⟨hb1485, hF⟩ | ⟨hb1485, hF⟩
                        · refine wpn_cT (congrArg Value.bool hb1485) ?_
                          refine wpn_assoc ?_
                          refine wpn_qa hO [] [(8, .bool false)] (ar trivial) fun j => ?_
                          refine wpn_rt ?_
                          refine thn_r1 ?_
                          refine inb_r1 ?_
                          refine thn_r1 ?_
                          refine thn_r1 ?_
                          refine inb_r1 ?_
                          refine thn_r1 ?_
                          injection hF with hF
                          subst hF
                          have hO := hO.sel [] (by decide)
                          exact hQ _ _ _ _ _ rfl hO hL ⟨rfl, rfl⟩
                        · refine wpn_cF (congrArg Value.bool hb1485) ?_
                          refine wpn_sk ?_
                          refine wpn_end ?_
                          refine thn_i ?_
                          have hO := hO.sel [0] (by decide)
                          exact ⟨A1238, c1239, o1240, x1241, _, ar (ar (ar (ar (ar (ar (ar (ar trivial))))))), hO, hL, r1237, w1242, r1243, r1244, r1441, hF⟩
                      · refine wpn_cF (congrArg Value.bool hb1484) ?_
                        refine wpn_assoc ?_
                        refine wpn_q hO 2 [] [(0, .slice A0 p0.length c0), (1, .int .i64 p1), (2, .int .i64 p2), (3, .slice A1238 x1241.length c1239), (9, .slice A37 c32.length c38), (10, .slice A57 c52.length c58), (12, .int .i64 x1245), (13, .slice A1385 c1380.length c1386), (143, .slice A1385 c1380.length c1386), (144, .slice A1401 c1396.length c1402)] (ar (ar (ar (ar (ar (ar (ar (ar (ar (ar trivial)))))))))) fun j => ?_
                        obtain ⟨_, h1487, r1486, hO⟩ := w1404.share hO (i := 2) rfl
                        have hL := hL.trans h1487
                        have r1237 := r1237.le h1487
                        have w1242 := w1242.le h1487
                        have r1243 := r1243.le h1487
                        have r1244 := r1244.le h1487
                        have r1441 := r1441.le h1487
                        have hO : Obs _ _ [_, _, _] := hO
                        obtain ⟨c1488, h1489, hF⟩ := bind_some hF
                        refine wpn_c0 hO (zbG r1441 r1486 h1489) rfl fun _ σ _ _ hO h1490 h1491 => ?_
                        have hL := hL.trans h1490
                        have r1237 := r1237.le h1490
                        have w1242 := w1242.le h1490
                        have r1243 := r1243.le h1490
                        have r1244 := r1244.le h1490
                        have r1441 := r1441.le h1490
                        have r1486 := r1486.le h1490
                        obtain ⟨rfl, rfl⟩ := h1491
                        have hO : Obs _ _ [_, _, _] := hO
                        refine wpn_qa hO [] [(0, .slice A0 p0.length c0), (1, .int .i64 p1), (2, .int .i64 p2), (3, .slice A1238 x1241.length c1239), (9, .slice A37 c32.length c38), (10, .slice A57 c52.length c58), (12, .int .i64 x1245), (13, .slice A1385 c1380.length c1386), (146, .bool (!c1488))] (ar (ar (ar (ar (ar (ar (ar (ar (ar trivial))))))))) fun j => ?_
                        rcases ite_some hF with ⟨hb1492, hF⟩ | ⟨hb1492, hF⟩
                        · refine wpn_cT (congrArg Value.bool hb1492) ?_
                          refine wpn_assoc ?_
                          refine wpn_qa hO [] [(8, .bool false)] (ar trivial) fun j => ?_
                          refine wpn_rt ?_
                          refine thn_r1 ?_
                          refine inb_r1 ?_
                          refine thn_r1 ?_
                          refine thn_r1 ?_
                          refine inb_r1 ?_
                          refine thn_r1 ?_
                          injection hF with hF
                          subst hF
                          have hO := hO.sel [] (by decide)
                          exact hQ _ _ _ _ _ rfl hO hL ⟨rfl, rfl⟩
                        · refine wpn_cF (congrArg Value.bool hb1492) ?_
                          refine wpn_sk ?_
                          refine wpn_end ?_
                          refine thn_i ?_
                          have hO := hO.sel [0] (by decide)
                          exact ⟨A1238, c1239, o1240, x1241, _, ar (ar (ar (ar (ar (ar (ar (ar trivial))))))), hO, hL, r1237, w1242, r1243, r1244, r1441, hF⟩
                    · rintro e σ ⟨A1453, c1454, o1455, x1456, _, hA, hO, hL, r1452, w1457, r1458, r1459, r1460, hF⟩
                      rw [← sets_agr _ _ hA]
                      unfold zs at hF
                      refine wpn_q hO 4 [] [(0, .slice A0 p0.length c0), (1, .int .i64 p1), (2, .int .i64 p2), (3, .slice A1453 x1456.length c1454), (9, .slice A37 c32.length c38), (10, .slice A57 c52.length c58), (12, .int .i64 x1245), (147, .slice A1385 c1380.length c1386), (148, .slice A57 c52.length c58), (149, .slice A1453 x1456.length c1454), (150, .int .i64 x1245)] (ar (ar (ar (ar (ar (ar (ar (ar (ar (ar (ar trivial))))))))))) fun j => ?_
                      obtain ⟨y1461, g1462, hF⟩ := bind_some hF
                      refine wpn_ido (T := (Ty.int .i64)) hO w1457 (i := 0) rfl rfl rfl g1462 (by decide) fun a1463 _ k1464 m1465 i1466 => ?_
                      have k1467 := k1464
                      obtain rfl : _ = ([.int .i64 y1461] : List Value) := k1467
                      refine wpn_ld rfl m1465.fst ?_
                      obtain ⟨c1468, h1469, hF⟩ := bind_some hF
                      refine wpn_c0 hO (zbc r1459 h1469) rfl fun _ σ _ _ hO h1470 h1471 => ?_
                      have hL := hL.trans h1470
                      have r1452 := r1452.le h1470
                      have w1457 := w1457.le h1470
                      have r1458 := r1458.le h1470
                      have r1459 := r1459.le h1470
                      have r1460 := r1460.le h1470
                      obtain ⟨v1472, o1475, rfl, rfl, w1476⟩ := h1471
                      obtain ⟨A1473, c1474, rfl, -⟩ := w1476.form
                      have hO : Obs _ _ [_, _] := hO
                      obtain ⟨_, h1478, r1477, hO⟩ := w1476.share hO (i := 1) rfl
                      have hL := hL.trans h1478
                      have r1452 := r1452.le h1478
                      have w1457 := w1457.le h1478
                      have r1458 := r1458.le h1478
                      have r1459 := r1459.le h1478
                      have r1460 := r1460.le h1478
                      have hO : Obs _ _ [_, _] := hO
                      obtain ⟨c1479, h1480, hF⟩ := bind_some hF
                      refine wpn_c0 hO (zbG r1460 r1477 h1480) rfl fun _ σ _ _ hO h1481 h1482 => ?_
                      have hL := hL.trans h1481
                      have r1452 := r1452.le h1481
                      have w1457 := w1457.le h1481
                      have r1458 := r1458.le h1481
                      have r1459 := r1459.le h1481
                      have r1460 := r1460.le h1481
                      have r1477 := r1477.le h1481
                      obtain ⟨rfl, rfl⟩ := h1482
                      have hO : Obs _ _ [_, _] := hO
                      refine wpn_qa hO [] [(0, .slice A0 p0.length c0), (1, .int .i64 p1), (2, .int .i64 p2), (3, .slice A1453 x1456.length c1454), (9, .slice A37 c32.length c38), (10, .slice A57 c52.length c58), (12, .int .i64 x1245), (155, .bool (!c1479))] (ar (ar (ar (ar (ar (ar (ar (ar trivial)))))))) fun j => ?_
                      refine wpn_clast ?_
                      rcases ite_some hF with ⟨hb1483, hF⟩ | ⟨hb1483, hF⟩
                      · refine wpn_cT (congrArg Value.bool hb1483) ?_
                        refine wpn_assoc ?_
                        refine wpn_qa hO [] [(8, .bool false)] (ar trivial) fun j => ?_
                        refine wpn_rt ?_
                        refine inb_r1 ?_
                        refine thn_r1 ?_
                        refine thn_r1 ?_
                        refine inb_r1 ?_
                        refine thn_r1 ?_
                        injection hF with hF
                        subst hF
                        have hO := hO.sel [] (by decide)
                        exact hQ _ _ _ _ _ rfl hO hL ⟨rfl, rfl⟩
                      · refine wpn_cF (congrArg Value.bool hb1483) ?_
                        refine wpn_sk ?_
                        refine wpn_end ?_
                        refine inb_i ?_
                        refine thn_i ?_
                        refine wpn_rlast ?_
                        refine wpn_qa hO [] [(0, .slice A0 p0.length c0), (1, .int .i64 p1), (2, .int .i64 p2), (3, .slice A1453 x1456.length c1454), (9, .slice A37 c32.length c38), (10, .slice A57 c52.length c58), (12, .int .i64 (IntKind.i64.wrap (x1245 + 1)))] (ar (ar (ar (ar (ar (ar (ar trivial))))))) fun j => ?_
                        refine wpn_end ?_
                        refine thn_i ?_
                        have hO := hO.sel [0] (by decide)
                        exact ⟨n1371, Nat.lt_succ_self _, A1453, c1454, o1455, x1456, (IntKind.i64.wrap (x1245 + 1)), _, ar (ar (ar (ar (ar (ar (ar trivial)))))), hO, hL, r1452, w1457, r1458, r1459, hF⟩
                · refine wpn_cF (congrArg Value.bool hb1372) ?_
                  refine wpn_ex ?_
                  refine thn_x ?_
                  refine inb_x ?_
                  refine thn_i ?_
                  obtain ⟨c1493, h1494, hF⟩ := bind_some hF
                  refine wpn_c0 hO (zb3 h1494) rfl fun _ σ _ _ hO h1495 h1496 => ?_
                  have hL := hL.trans h1495
                  have r1237 := r1237.le h1495
                  have w1242 := w1242.le h1495
                  have r1243 := r1243.le h1495
                  have r1244 := r1244.le h1495
                  obtain ⟨rfl, rfl⟩ := h1496
                  have hO : Obs _ _ [_] := hO
                  refine wpn_qa hO [] [(8, .bool c1493)] (ar trivial) fun j => ?_
                  refine wpn_r1 ?_
                  injection hF with hF
                  subst hF
                  have hO := hO.sel [] (by decide)
                  exact hQ _ _ _ _ _ rfl hO hL ⟨rfl, rfl⟩
end Go.Proofs.Ytjcehfjmmbbblaa
