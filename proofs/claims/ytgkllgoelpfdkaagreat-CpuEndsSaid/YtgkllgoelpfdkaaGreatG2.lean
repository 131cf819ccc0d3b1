import Derived.Test.YtgkllgoelpfdkaaGreatG1
namespace Go.Proofs.YtgkllgoelpfdkaaGreat
open Go.Ab Go.RowKit
set_option linter.unusedVariables false
set_option linter.unusedSimpArgs false
set_option maxRecDepth 10000
set_option maxHeartbeats 1000000
theorem zh5 {τ : Hp} {q0 : zf} {bm0 : Nat} {vm0_0 : Value} {vm0_18 : Value} {om0_18 : Ob} {vm0_19 : Value} {vm0_20 : Value} {om0_20 : Ob} {p1 : zc} (rm0_0 : RdT Ty.u8 τ vm0_0 q0.code) (wm0_18 : zd (Ty.int .i64) 2 τ vm0_18 q0.words om0_18) (rm0_19 : RdT (Ty.int .i64) τ vm0_19 q0.input) (wm0_20 : zd (Ty.int .i64) 2 τ vm0_20 q0.out om0_20) {rr : Except (Value) (Int)} (hF : zeH q0 p1 = some rr) :
  zbA Tryz.prog 66 #[.pointer (some ⟨bm0, 0, none⟩), .agg #[.int .u8 p1.Kind.toNat, .int .u8 p1.Op.toNat, .int .i64 p1.R, .int .i64 p1.S, .int .i64 p1.T, .int .i64 p1.N, .int .i64 p1.M]] τ [some (bm0, ⟨[vm0_0, .int .i64 q0.pc, .int .i64 (q0.regs 0), .int .i64 (q0.regs 1), .int .i64 (q0.regs 2), .int .i64 (q0.regs 3), .int .i64 (q0.regs 4), .int .i64 (q0.regs 5), .int .i64 (q0.regs 6), .int .i64 (q0.regs 7), .int .i64 (q0.regs 8), .int .i64 (q0.regs 9), .int .i64 (q0.regs 10), .int .i64 (q0.regs 11), .int .i64 (q0.regs 12), .int .i64 (q0.regs 13), .int .i64 (q0.regs 14), .int .i64 (q0.regs 15), vm0_18, vm0_19, vm0_20, .int .u8 q0.how.toNat, .int .i64 q0.halting], 58, 23, true⟩), om0_18, om0_20] (fun v τ' vs' => match rr with | .ok rr => v = .pointer ((slA vm0_18).map (fun x => x.add (Int.toNat rr * 1))) ∧ vs' = [some (bm0, ⟨[vm0_0, .int .i64 q0.pc, .int .i64 (q0.regs 0), .int .i64 (q0.regs 1), .int .i64 (q0.regs 2), .int .i64 (q0.regs 3), .int .i64 (q0.regs 4), .int .i64 (q0.regs 5), .int .i64 (q0.regs 6), .int .i64 (q0.regs 7), .int .i64 (q0.regs 8), .int .i64 (q0.regs 9), .int .i64 (q0.regs 10), .int .i64 (q0.regs 11), .int .i64 (q0.regs 12), .int .i64 (q0.regs 13), .int .i64 (q0.regs 14), .int .i64 (q0.regs 15), vm0_18, vm0_19, vm0_20, .int .u8 q0.how.toNat, .int .i64 q0.halting], 58, 23, true⟩), om0_18, om0_20] | .error _ => False) (fun ch τ' vs' => match rr with | .ok _ => False | .error ee => ch = [{ v := ee, recovered := false }] ∧ vs' = [some (bm0, ⟨[vm0_0, .int .i64 q0.pc, .int .i64 (q0.regs 0), .int .i64 (q0.regs 1), .int .i64 (q0.regs 2), .int .i64 (q0.regs 3), .int .i64 (q0.regs 4), .int .i64 (q0.regs 5), .int .i64 (q0.regs 6), .int .i64 (q0.regs 7), .int .i64 (q0.regs 8), .int .i64 (q0.regs 9), .int .i64 (q0.regs 10), .int .i64 (q0.regs 11), .int .i64 (q0.regs 12), .int .i64 (q0.regs 13), .int .i64 (q0.regs 14), .int .i64 (q0.regs 15), vm0_18, vm0_19, vm0_20, .int .u8 q0.how.toNat, .int .i64 q0.halting], 58, 23, true⟩), om0_18, om0_20]) := by
 obtain ⟨Am0_0, cm0_0, rfl, -⟩ := rm0_0.form
 obtain ⟨Am0_18, cm0_18, rfl, -⟩ := wm0_18.form
 obtain ⟨Am0_19, cm0_19, rfl, -⟩ := rm0_19.form
 obtain ⟨Am0_20, cm0_20, rfl, -⟩ := wm0_20.form
 refine zcn (args := [.pointer (some ⟨bm0, 0, none⟩), .agg #[.int .u8 p1.Kind.toNat, .int .u8 p1.Op.toNat, .int .i64 p1.R, .int .i64 p1.S, .int .i64 p1.T, .int .i64 p1.N, .int .i64 p1.M]]) hm Tryz.func66 s66 rfl fun w0 σ hP hO Q hQ => ?_
 unfold zeH at hF
 have hL := Hp.le.refl τ
 show wpn _ _ a66.body _ _ _
 unfold a66
 dsimp only
 refine zba (n := 7) hO rfl rfl fun b3 σ hO => ?_
 have hO : Obs _ _ [_, _, _, _] := hO
 refine za hO [] [(0, zqD bm0), (3, zqD b3)] zqn fun j => ?_
 refine zbD (zb hO 5 [3] [(0, zqD bm0), (3, zqD b3), (9, zqC p1.S), (11, .pointer (some ⟨bm0, 2, none⟩))] (And.intro (And.intro rfl rfl) zqp) fun j => ?_)
 obtain ⟨y4, g5, hF⟩ := bind_some hF
 refine zdY rfl rfl g5 ?_
 refine zdv hO (i := 0) rfl rfl (zcX (f := q0.regs) (n := 16) (zbs g5).2.2.2 [_, _] [_, _, _, _, _]) ?_
 refine za hO [3] [(0, zqD bm0), (3, zqD b3), (5, zqC (IntKind.i64.wrap ((q0.regs y4) + p1.N)))] (And.intro (And.intro rfl rfl) zqo) fun j => ?_
 refine ze (za hO [3, 3] [(0, zqD bm0), (3, zqD b3), (5, zqC (IntKind.i64.wrap ((q0.regs y4) + p1.N))), (24, .bool (((p1.Kind.toNat : Int) == 8) || ((p1.Kind.toNat : Int) == 9)))] (And.intro (And.intro rfl rfl) (And.intro (And.intro rfl rfl) (And.intro (And.intro rfl rfl) (fun _ => zqB zqo)))) fun j => ?_)
 rcases zi hF with ⟨hb6, hF⟩ | ⟨hb6, hF⟩
 ·refine zl (congrArg Value.bool hb6) ?_
  refine ze (zbD (zb hO 5 [3] [(0, zqD bm0), (3, zqD b3), (5, zqC (IntKind.i64.wrap ((q0.regs y4) + p1.N))), (27, zqC p1.T), (29, .pointer (some ⟨bm0, 2, none⟩))] (And.intro (And.intro rfl rfl) zqq) fun j => ?_))
  obtain ⟨y7, g8, hF⟩ := bind_some hF
  refine zdY rfl rfl g8 ?_
  refine zdv hO (i := 0) rfl rfl (zcX (f := q0.regs) (n := 16) (zbs g8).2.2.2 [_, _] [_, _, _, _, _]) ?_
  refine za hO [] [(0, zqD bm0), (3, zqD b3), (5, zqC (IntKind.i64.wrap ((q0.regs y4) + p1.N))), (6, zqC (q0.regs y7))] zqp fun j => ?_
  refine ze (ze (za hO [3] [(0, zqD bm0), (5, zqC (IntKind.i64.wrap ((q0.regs y4) + p1.N))), (6, zqC (q0.regs y7)), (39, .bool ((decide ((q0.regs y7) < 0)) || (decide ((q0.regs y7) ≥ p1.M))))] (And.intro (And.intro rfl rfl) (And.intro (And.intro rfl rfl) (fun _ => zqB zqo))) fun j => ?_))
  refine zbK (fun e' σ' => ∃ (τ' : Hp), agr [(0, zqD bm0), (5, zqC (IntKind.i64.wrap ((q0.regs y4) + p1.N))), (6, zqC (q0.regs y7))] e' ∧ Obs τ' σ' [some (bm0, ⟨[.slice Am0_0 q0.code.length cm0_0, .int .i64 q0.pc, .int .i64 (q0.regs 0), .int .i64 (q0.regs 1), .int .i64 (q0.regs 2), .int .i64 (q0.regs 3), .int .i64 (q0.regs 4), .int .i64 (q0.regs 5), .int .i64 (q0.regs 6), .int .i64 (q0.regs 7), .int .i64 (q0.regs 8), .int .i64 (q0.regs 9), .int .i64 (q0.regs 10), .int .i64 (q0.regs 11), .int .i64 (q0.regs 12), .int .i64 (q0.regs 13), .int .i64 (q0.regs 14), .int .i64 (q0.regs 15), .slice Am0_18 q0.words.length cm0_18, .slice Am0_19 q0.input.length cm0_19, .slice Am0_20 q0.out.length cm0_20, .int .u8 (q0.how.toNat : Int), .int .i64 q0.halting], 58, 23, true⟩), om0_18, om0_20] ∧ Hp.le τ τ' ∧ RdT Ty.u8 τ' (.slice Am0_0 q0.code.length cm0_0) q0.code ∧ zd (Ty.int .i64) 2 τ' (.slice Am0_18 q0.words.length cm0_18) q0.words om0_18 ∧ RdT (Ty.int .i64) τ' (.slice Am0_19 q0.input.length cm0_19) q0.input ∧ zd (Ty.int .i64) 2 τ' (.slice Am0_20 q0.out.length cm0_20) q0.out om0_20 ∧ zfW q0 p1 y4 y7 = some rr) ?_ ?_
  ·refine z2 ?_
   rcases zi hF with ⟨hb39, hF⟩ | ⟨hb39, hF⟩
   ·refine zl (congrArg Value.bool hb39) ?_
    rcases z9 hF with ⟨x44, h45, hF⟩ | ⟨c40, h41, hF⟩
    ·refine zco hO (zby h45) (fun _ _ _ h => False.elim h) rfl fun _ σ _ _ hO h46 h47 => ?_
     have hL := hL.trans h46
     have rm0_0 := rm0_0.le h46
     have wm0_18 := wm0_18.le h46
     have rm0_19 := rm0_19.le h46
     have wm0_20 := wm0_20.le h46
     obtain ⟨rfl, rfl⟩ := h47
     have hO : Obs _ _ [_, _, _, _] := hO
     injection hF with hF
     subst hF
     have hO := hO.sel [0, 1, 2] (by decide)
     exact hP _ _ _ _ hO hL ⟨rfl, rfl⟩
    ·refine zcg hO (zby h41) (fun _ _ _ h => False.elim h) rfl fun _ σ _ _ hO h42 h43 => ?_
     have hL := hL.trans h42
     have rm0_0 := rm0_0.le h42
     have wm0_18 := wm0_18.le h42
     have rm0_19 := rm0_19.le h42
     have wm0_20 := wm0_20.le h42
     obtain ⟨rfl, rfl⟩ := h43
     have hO : Obs _ _ [_, _, _, _] := hO
     refine zh (zg (zn ?_))
     have hO := hO.sel [0, 1, 2] (by decide)
     exact ⟨_, zqB zqn, hO, hL, rm0_0, wm0_18, rm0_19, wm0_20, hF⟩
   ·refine zk (congrArg Value.bool hb39) ?_
    refine zv (zg (zn ?_))
    have hO := hO.sel [0, 1, 2] (by decide)
    exact ⟨_, zqB zqn, hO, hL, rm0_0, wm0_18, rm0_19, wm0_20, hF⟩
  ·rintro e σ ⟨_, hA, hO, hL, r18, w19, r20, w21, hF⟩
   rw [← zC _ _ hA]
   unfold zfW at hF
   refine za hO [] [(0, zqD bm0), (5, zqC (IntKind.i64.wrap ((IntKind.i64.wrap ((q0.regs y4) + p1.N)) + (q0.regs y7))))] zqn fun j => ?_
   refine zb hO 2 [] [(0, zqD bm0), (44, zqD bm0), (45, zqC (IntKind.i64.wrap ((IntKind.i64.wrap ((q0.regs y4) + p1.N)) + (q0.regs y7))))] zqo fun j => ?_
   rcases z9 hF with ⟨x26, h27, hF⟩ | ⟨c22, h23, hF⟩
   ·refine zbQ (hs := []) (vs := [_, _, _]) hO (zdk (q0 := (⟨q0.code, q0.pc, q0.regs, q0.words, q0.input, q0.out, q0.how, q0.halting⟩ : zf)) r18 w19 r20 w21 h27) (fun _ _ _ h => False.elim h) rfl fun _ σ _ _ hO h28 h29 => ?_
    have hL := hL.trans h28
    have r18 := r18.le h28
    have w19 := w19.le h28
    have r20 := r20.le h28
    have w21 := w21.le h28
    obtain ⟨rfl, rfl⟩ := h29
    have hO : Obs _ _ [_, _, _] := hO
    injection hF with hF
    subst hF
    exact hP _ _ _ _ hO hL ⟨rfl, rfl⟩
   ·refine zbT (hs := []) (vs := [_, _, _]) hO (zdk (q0 := (⟨q0.code, q0.pc, q0.regs, q0.words, q0.input, q0.out, q0.how, q0.halting⟩ : zf)) r18 w19 r20 w21 h23) (fun _ _ _ h => False.elim h) rfl fun _ σ _ _ hO h24 h25 => ?_
    have hL := hL.trans h24
    have r18 := r18.le h24
    have w19 := w19.le h24
    have r20 := r20.le h24
    have w21 := w21.le h24
    obtain ⟨h30, rfl⟩ := h25
    have hO : Obs _ _ [_, _, _] := hO
    obtain ⟨y31, g32, hF⟩ := bind_some hF
    obtain ⟨a33, _, h35, k34, m36, i37⟩ := zd.at_ hO w19 (i := 1) rfl g32 (n := 1) rfl
    have h30 : _ = Value.pointer (some a33) := h30.trans (congrArg Value.pointer h35)
    subst h30
    have k38 := k34
    obtain rfl : _ = ([.int .i64 y31] : List Value) := k38
    refine za hO [] [(0, zqD bm0), (4, .pointer (some a33))] zqn fun j => ?_
    refine zp ?_
    injection hF with hF
    subst hF
    refine (hQ _ _ _ _ _ rfl hO hL ?_).1
    exact ⟨(congrArg Value.pointer (zd.ptr w19 i37 rfl)), rfl⟩
 ·refine zk (congrArg Value.bool hb6) ?_
  refine zv (zb hO 2 [] [(0, zqD bm0), (44, zqD bm0), (45, zqC (IntKind.i64.wrap ((q0.regs y4) + p1.N)))] zqo fun j => ?_)
  have hO := hO.sel [3, 0, 1, 2] (by decide)
  rcases z9 hF with ⟨x52, h53, hF⟩ | ⟨c48, h49, hF⟩
  ·refine zbQ (hs := [_]) (vs := [_, _, _]) hO (zdk (q0 := (⟨q0.code, q0.pc, q0.regs, q0.words, q0.input, q0.out, q0.how, q0.halting⟩ : zf)) rm0_0 wm0_18 rm0_19 wm0_20 h53) (fun _ _ _ h => False.elim h) rfl fun _ σ _ _ hO h54 h55 => ?_
   have hL := hL.trans h54
   have rm0_0 := rm0_0.le h54
   have wm0_18 := wm0_18.le h54
   have rm0_19 := rm0_19.le h54
   have wm0_20 := wm0_20.le h54
   obtain ⟨rfl, rfl⟩ := h55
   have hO : Obs _ _ [_, _, _, _] := hO
   injection hF with hF
   subst hF
   have hO := hO.sel [1, 2, 3] (by decide)
   exact hP _ _ _ _ hO hL ⟨rfl, rfl⟩
  ·refine zbT (hs := [_]) (vs := [_, _, _]) hO (zdk (q0 := (⟨q0.code, q0.pc, q0.regs, q0.words, q0.input, q0.out, q0.how, q0.halting⟩ : zf)) rm0_0 wm0_18 rm0_19 wm0_20 h49) (fun _ _ _ h => False.elim h) rfl fun _ σ _ _ hO h50 h51 => ?_
   have hL := hL.trans h50
   have rm0_0 := rm0_0.le h50
   have wm0_18 := wm0_18.le h50
   have rm0_19 := rm0_19.le h50
   have wm0_20 := wm0_20.le h50
   obtain ⟨h56, rfl⟩ := h51
   have hO : Obs _ _ [_, _, _, _] := hO
   have hO := hO.sel [1, 2, 3, 0] (by decide)
   have hO : Obs _ _ [_, _, _, _] := hO
   obtain ⟨y57, g58, hF⟩ := bind_some hF
   obtain ⟨a59, _, h61, k60, m62, i63⟩ := zd.at_ hO wm0_18 (i := 1) rfl g58 (n := 1) rfl
   have h56 : _ = Value.pointer (some a59) := h56.trans (congrArg Value.pointer h61)
   subst h56
   have k64 := k60
   obtain rfl : _ = ([.int .i64 y57] : List Value) := k64
   refine za hO [] [(0, zqD bm0), (4, .pointer (some a59))] zqn fun j => ?_
   refine zp ?_
   injection hF with hF
   subst hF
   have hO := hO.sel [0, 1, 2] (by decide)
   refine (hQ _ _ _ _ _ rfl hO hL ?_).1
   exact ⟨(congrArg Value.pointer (zd.ptr wm0_18 i63 rfl)), rfl⟩
theorem zkq {τ : Hp} {q0 : zf} {bm0 : Nat} {vm0_0 : Value} {vm0_18 : Value} {om0_18 : Ob} {vm0_19 : Value} {vm0_20 : Value} {om0_20 : Ob} {p1 : Int} (rm0_0 : RdT Ty.u8 τ vm0_0 q0.code) (wm0_18 : zd (Ty.int .i64) 2 τ vm0_18 q0.words om0_18) (rm0_19 : RdT (Ty.int .i64) τ vm0_19 q0.input) (wm0_20 : zd (Ty.int .i64) 2 τ vm0_20 q0.out om0_20) {rr : Except (Value × zf) (zf)} (hF : zg7 q0 p1 = some rr) :
  zbA Tryz.prog 67 #[.pointer (some ⟨bm0, 0, none⟩), .int .i64 p1] τ [some (bm0, ⟨[vm0_0, .int .i64 q0.pc, .int .i64 (q0.regs 0), .int .i64 (q0.regs 1), .int .i64 (q0.regs 2), .int .i64 (q0.regs 3), .int .i64 (q0.regs 4), .int .i64 (q0.regs 5), .int .i64 (q0.regs 6), .int .i64 (q0.regs 7), .int .i64 (q0.regs 8), .int .i64 (q0.regs 9), .int .i64 (q0.regs 10), .int .i64 (q0.regs 11), .int .i64 (q0.regs 12), .int .i64 (q0.regs 13), .int .i64 (q0.regs 14), .int .i64 (q0.regs 15), vm0_18, vm0_19, vm0_20, .int .u8 q0.how.toNat, .int .i64 q0.halting], 58, 23, true⟩), om0_18, om0_20] (fun v τ' vs' => match rr with | .ok rr => ∃ (u0_0 : Value) (u0_18 : Value) (y0_18 : Ob) (u0_19 : Value) (u0_20 : Value) (y0_20 : Ob), v = .tuple #[] ∧ vs' = [some (bm0, ⟨[u0_0, .int .i64 rr.pc, .int .i64 (rr.regs 0), .int .i64 (rr.regs 1), .int .i64 (rr.regs 2), .int .i64 (rr.regs 3), .int .i64 (rr.regs 4), .int .i64 (rr.regs 5), .int .i64 (rr.regs 6), .int .i64 (rr.regs 7), .int .i64 (rr.regs 8), .int .i64 (rr.regs 9), .int .i64 (rr.regs 10), .int .i64 (rr.regs 11), .int .i64 (rr.regs 12), .int .i64 (rr.regs 13), .int .i64 (rr.regs 14), .int .i64 (rr.regs 15), u0_18, u0_19, u0_20, .int .u8 rr.how.toNat, .int .i64 rr.halting], 58, 23, true⟩), y0_18, y0_20] ∧ RdT Ty.u8 τ' u0_0 rr.code ∧ zd (Ty.int .i64) 2 τ' u0_18 rr.words y0_18 ∧ RdT (Ty.int .i64) τ' u0_19 rr.input ∧ zd (Ty.int .i64) 2 τ' u0_20 rr.out y0_20 | .error _ => False) (fun ch τ' vs' => match rr with | .ok _ => False | .error ee => ∃ (u0_0 : Value) (u0_18 : Value) (y0_18 : Ob) (u0_19 : Value) (u0_20 : Value) (y0_20 : Ob), ch = [{ v := ee.1, recovered := false }] ∧ vs' = [some (bm0, ⟨[u0_0, .int .i64 ee.2.pc, .int .i64 (ee.2.regs 0), .int .i64 (ee.2.regs 1), .int .i64 (ee.2.regs 2), .int .i64 (ee.2.regs 3), .int .i64 (ee.2.regs 4), .int .i64 (ee.2.regs 5), .int .i64 (ee.2.regs 6), .int .i64 (ee.2.regs 7), .int .i64 (ee.2.regs 8), .int .i64 (ee.2.regs 9), .int .i64 (ee.2.regs 10), .int .i64 (ee.2.regs 11), .int .i64 (ee.2.regs 12), .int .i64 (ee.2.regs 13), .int .i64 (ee.2.regs 14), .int .i64 (ee.2.regs 15), u0_18, u0_19, u0_20, .int .u8 ee.2.how.toNat, .int .i64 ee.2.halting], 58, 23, true⟩), y0_18, y0_20] ∧ RdT Ty.u8 τ' u0_0 ee.2.code ∧ zd (Ty.int .i64) 2 τ' u0_18 ee.2.words y0_18 ∧ RdT (Ty.int .i64) τ' u0_19 ee.2.input ∧ zd (Ty.int .i64) 2 τ' u0_20 ee.2.out y0_20) := by
 obtain ⟨Am0_0, cm0_0, rfl, -⟩ := rm0_0.form
 obtain ⟨Am0_18, cm0_18, rfl, -⟩ := wm0_18.form
 obtain ⟨Am0_19, cm0_19, rfl, -⟩ := rm0_19.form
 obtain ⟨Am0_20, cm0_20, rfl, -⟩ := wm0_20.form
 refine zcn (args := [.pointer (some ⟨bm0, 0, none⟩), .int .i64 p1]) hm Tryz.func67 s67 rfl fun w0 σ hP hO Q hQ => ?_
 unfold zg7 at hF
 have hL := Hp.le.refl τ
 show wpn _ _ a67.body _ _ _
 unfold a67
 dsimp only
 refine zb hO 2 [] [(0, zqD bm0), (5, zqD bm0), (6, zqC p1)] zqo fun j => ?_
 rcases z9 hF with ⟨x7, h8, hF⟩ | ⟨c3, h4, hF⟩
 ·refine zbQ (hs := []) (vs := [_, _, _]) hO (zg3 (q0 := (⟨q0.code, q0.pc, q0.regs, q0.words, q0.input, q0.out, q0.how, q0.halting⟩ : zf)) rm0_0 wm0_18 rm0_19 wm0_20 h8) (fun _ _ _ h => False.elim h) rfl fun _ σ _ _ hO h9 h10 => ?_
  have hL := hL.trans h9
  have rm0_0 := rm0_0.le h9
  have wm0_18 := wm0_18.le h9
  have rm0_19 := rm0_19.le h9
  have wm0_20 := wm0_20.le h9
  obtain ⟨rfl, rfl⟩ := h10
  have hO : Obs _ _ [_, _, _] := hO
  injection hF with hF
  subst hF
  exact hP _ _ _ _ hO hL ⟨_, _, _, _, _, _, rfl, rfl, rm0_0, wm0_18, rm0_19, wm0_20⟩
 ·refine zbT (hs := []) (vs := [_, _, _]) hO (zg3 (q0 := (⟨q0.code, q0.pc, q0.regs, q0.words, q0.input, q0.out, q0.how, q0.halting⟩ : zf)) rm0_0 wm0_18 rm0_19 wm0_20 h4) (fun _ _ _ h => False.elim h) rfl fun _ σ _ _ hO h5 h6 => ?_
  have hL := hL.trans h5
  have rm0_0 := rm0_0.le h5
  have wm0_18 := wm0_18.le h5
  have rm0_19 := rm0_19.le h5
  have wm0_20 := wm0_20.le h5
  obtain ⟨rfl, rfl⟩ := h6
  have hO : Obs _ _ [_, _, _] := hO
  refine za hO [] [(0, zqD bm0), (4, zqC c3)] zqn fun j => ?_
  refine ze (za hO [0] [(0, zqD bm0), (4, zqC c3), (14, .bool (decide (c3 > (q0.words.length : Int))))] (And.intro (And.intro rfl rfl) zqo) fun j => ?_)
  rcases zi hF with ⟨hb11, hF⟩ | ⟨hb11, hF⟩
  ·refine zl (congrArg Value.bool hb11) ?_
   rcases z9 hF with ⟨x16, h17, hF⟩ | ⟨c12, h13, hF⟩
   ·refine zco hO (zby h17) (fun _ _ _ h => False.elim h) rfl fun _ σ _ _ hO h18 h19 => ?_
    have hL := hL.trans h18
    have rm0_0 := rm0_0.le h18
    have wm0_18 := wm0_18.le h18
    have rm0_19 := rm0_19.le h18
    have wm0_20 := wm0_20.le h18
    obtain ⟨rfl, rfl⟩ := h19
    have hO : Obs _ _ [_, _, _] := hO
    injection hF with hF
    subst hF
    exact hP _ _ _ _ hO hL ⟨_, _, _, _, _, _, rfl, rfl, rm0_0, wm0_18, rm0_19, wm0_20⟩
   ·refine zcg hO (zby h13) (fun _ _ _ h => False.elim h) rfl fun _ σ _ _ hO h14 h15 => ?_
    have hL := hL.trans h14
    have rm0_0 := rm0_0.le h14
    have wm0_18 := wm0_18.le h14
    have rm0_19 := rm0_19.le h14
    have wm0_20 := wm0_20.le h14
    obtain ⟨rfl, rfl⟩ := h15
    have hO : Obs _ _ [_, _, _] := hO
    refine zh (zU (zb hO 5 [] [(0, zqD bm0), (17, zqC c3), (20, .pointer (some ⟨bm0, 17, none⟩))] zqo fun j => ?_))
    refine zH hO (i := 0) rfl (off := 17) rfl rfl rfl rfl (Nat.le_of_ble_eq_true rfl) rfl fun σ hO => ?_
    have hO : Obs _ _ [_, _, _] := hO
    refine zh (zg ?_)
    injection hF with hF
    subst hF
    exact (hQ _ _ _ _ _ rfl hO hL ⟨_, _, _, _, _, _, rfl, rfl, rm0_0, wm0_18, rm0_19, wm0_20⟩).2
  ·refine zk (congrArg Value.bool hb11) ?_
   refine zv (zU (zb hO 5 [] [(0, zqD bm0), (17, zqC c3), (20, .pointer (some ⟨bm0, 17, none⟩))] zqo fun j => ?_))
   refine zH hO (i := 0) rfl (off := 17) rfl rfl rfl rfl (Nat.le_of_ble_eq_true rfl) rfl fun σ hO => ?_
   have hO : Obs _ _ [_, _, _] := hO
   refine zh (zg ?_)
   injection hF with hF
   subst hF
   exact (hQ _ _ _ _ _ rfl hO hL ⟨_, _, _, _, _, _, rfl, rfl, rm0_0, wm0_18, rm0_19, wm0_20⟩).2
theorem zj6 {τ : Hp} {q0 : zf} {bm0 : Nat} {vm0_0 : Value} {vm0_18 : Value} {om0_18 : Ob} {vm0_19 : Value} {vm0_20 : Value} {om0_20 : Ob} (rm0_0 : RdT Ty.u8 τ vm0_0 q0.code) (wm0_18 : zd (Ty.int .i64) 2 τ vm0_18 q0.words om0_18) (rm0_19 : RdT (Ty.int .i64) τ vm0_19 q0.input) (wm0_20 : zd (Ty.int .i64) 2 τ vm0_20 q0.out om0_20) {rr : Except (Value × zf) (Int × zf)} (hF : zgS q0 = some rr) :
  zbA Tryz.prog 68 #[.pointer (some ⟨bm0, 0, none⟩)] τ [some (bm0, ⟨[vm0_0, .int .i64 q0.pc, .int .i64 (q0.regs 0), .int .i64 (q0.regs 1), .int .i64 (q0.regs 2), .int .i64 (q0.regs 3), .int .i64 (q0.regs 4), .int .i64 (q0.regs 5), .int .i64 (q0.regs 6), .int .i64 (q0.regs 7), .int .i64 (q0.regs 8), .int .i64 (q0.regs 9), .int .i64 (q0.regs 10), .int .i64 (q0.regs 11), .int .i64 (q0.regs 12), .int .i64 (q0.regs 13), .int .i64 (q0.regs 14), .int .i64 (q0.regs 15), vm0_18, vm0_19, vm0_20, .int .u8 q0.how.toNat, .int .i64 q0.halting], 58, 23, true⟩), om0_18, om0_20] (fun v τ' vs' => match rr with | .ok rr => ∃ (u0_0 : Value) (u0_18 : Value) (y0_18 : Ob) (u0_19 : Value) (u0_20 : Value) (y0_20 : Ob), v = .int .i64 rr.1 ∧ vs' = [some (bm0, ⟨[u0_0, .int .i64 rr.2.pc, .int .i64 (rr.2.regs 0), .int .i64 (rr.2.regs 1), .int .i64 (rr.2.regs 2), .int .i64 (rr.2.regs 3), .int .i64 (rr.2.regs 4), .int .i64 (rr.2.regs 5), .int .i64 (rr.2.regs 6), .int .i64 (rr.2.regs 7), .int .i64 (rr.2.regs 8), .int .i64 (rr.2.regs 9), .int .i64 (rr.2.regs 10), .int .i64 (rr.2.regs 11), .int .i64 (rr.2.regs 12), .int .i64 (rr.2.regs 13), .int .i64 (rr.2.regs 14), .int .i64 (rr.2.regs 15), u0_18, u0_19, u0_20, .int .u8 rr.2.how.toNat, .int .i64 rr.2.halting], 58, 23, true⟩), y0_18, y0_20] ∧ RdT Ty.u8 τ' u0_0 rr.2.code ∧ zd (Ty.int .i64) 2 τ' u0_18 rr.2.words y0_18 ∧ RdT (Ty.int .i64) τ' u0_19 rr.2.input ∧ zd (Ty.int .i64) 2 τ' u0_20 rr.2.out y0_20 | .error _ => False) (fun ch τ' vs' => match rr with | .ok _ => False | .error ee => ∃ (u0_0 : Value) (u0_18 : Value) (y0_18 : Ob) (u0_19 : Value) (u0_20 : Value) (y0_20 : Ob), ch = [{ v := ee.1, recovered := false }] ∧ vs' = [some (bm0, ⟨[u0_0, .int .i64 ee.2.pc, .int .i64 (ee.2.regs 0), .int .i64 (ee.2.regs 1), .int .i64 (ee.2.regs 2), .int .i64 (ee.2.regs 3), .int .i64 (ee.2.regs 4), .int .i64 (ee.2.regs 5), .int .i64 (ee.2.regs 6), .int .i64 (ee.2.regs 7), .int .i64 (ee.2.regs 8), .int .i64 (ee.2.regs 9), .int .i64 (ee.2.regs 10), .int .i64 (ee.2.regs 11), .int .i64 (ee.2.regs 12), .int .i64 (ee.2.regs 13), .int .i64 (ee.2.regs 14), .int .i64 (ee.2.regs 15), u0_18, u0_19, u0_20, .int .u8 ee.2.how.toNat, .int .i64 ee.2.halting], 58, 23, true⟩), y0_18, y0_20] ∧ RdT Ty.u8 τ' u0_0 ee.2.code ∧ zd (Ty.int .i64) 2 τ' u0_18 ee.2.words y0_18 ∧ RdT (Ty.int .i64) τ' u0_19 ee.2.input ∧ zd (Ty.int .i64) 2 τ' u0_20 ee.2.out y0_20) := by
 obtain ⟨Am0_0, cm0_0, rfl, -⟩ := rm0_0.form
 obtain ⟨Am0_18, cm0_18, rfl, -⟩ := wm0_18.form
 obtain ⟨Am0_19, cm0_19, rfl, -⟩ := rm0_19.form
 obtain ⟨Am0_20, cm0_20, rfl, -⟩ := wm0_20.form
 refine zcn (args := [.pointer (some ⟨bm0, 0, none⟩)]) hm Tryz.func68 s68 rfl fun w0 σ hP hO Q hQ => ?_
 unfold zgS at hF
 have hL := Hp.le.refl τ
 show wpn _ _ a68.body _ _ _
 unfold a68
 dsimp only
 refine za hO [] [(0, zqD bm0)] zqm fun j => ?_
 refine ze (za hO [0] [(0, zqD bm0), (9, .bool ((q0.input.length : Int) == 0))] (And.intro (And.intro rfl rfl) zqn) fun j => ?_)
 refine zbK (fun e' σ' => ∃ (τ' : Hp), agr [(0, zqD bm0)] e' ∧ Obs τ' σ' [some (bm0, ⟨[.slice Am0_0 q0.code.length cm0_0, .int .i64 q0.pc, .int .i64 (q0.regs 0), .int .i64 (q0.regs 1), .int .i64 (q0.regs 2), .int .i64 (q0.regs 3), .int .i64 (q0.regs 4), .int .i64 (q0.regs 5), .int .i64 (q0.regs 6), .int .i64 (q0.regs 7), .int .i64 (q0.regs 8), .int .i64 (q0.regs 9), .int .i64 (q0.regs 10), .int .i64 (q0.regs 11), .int .i64 (q0.regs 12), .int .i64 (q0.regs 13), .int .i64 (q0.regs 14), .int .i64 (q0.regs 15), .slice Am0_18 q0.words.length cm0_18, .slice Am0_19 q0.input.length cm0_19, .slice Am0_20 q0.out.length cm0_20, .int .u8 (q0.how.toNat : Int), .int .i64 q0.halting], 58, 23, true⟩), om0_18, om0_20] ∧ Hp.le τ τ' ∧ RdT Ty.u8 τ' (.slice Am0_0 q0.code.length cm0_0) q0.code ∧ zd (Ty.int .i64) 2 τ' (.slice Am0_18 q0.words.length cm0_18) q0.words om0_18 ∧ RdT (Ty.int .i64) τ' (.slice Am0_19 q0.input.length cm0_19) q0.input ∧ zd (Ty.int .i64) 2 τ' (.slice Am0_20 q0.out.length cm0_20) q0.out om0_20 ∧ zfc q0 = some rr) ?_ ?_
 ·refine z2 ?_
  rcases zi hF with ⟨hb25, hF⟩ | ⟨hb25, hF⟩
  ·refine zl (congrArg Value.bool hb25) ?_
   rcases z9 hF with ⟨x30, h31, hF⟩ | ⟨c26, h27, hF⟩
   ·refine zco hO (zby h31) (fun _ _ _ h => False.elim h) rfl fun _ σ _ _ hO h32 h33 => ?_
    have hL := hL.trans h32
    have rm0_0 := rm0_0.le h32
    have wm0_18 := wm0_18.le h32
    have rm0_19 := rm0_19.le h32
    have wm0_20 := wm0_20.le h32
    obtain ⟨rfl, rfl⟩ := h33
    have hO : Obs _ _ [_, _, _] := hO
    injection hF with hF
    subst hF
    exact hP _ _ _ _ hO hL ⟨_, _, _, _, _, _, rfl, rfl, rm0_0, wm0_18, rm0_19, wm0_20⟩
   ·refine zcg hO (zby h27) (fun _ _ _ h => False.elim h) rfl fun _ σ _ _ hO h28 h29 => ?_
    have hL := hL.trans h28
    have rm0_0 := rm0_0.le h28
    have wm0_18 := wm0_18.le h28
    have rm0_19 := rm0_19.le h28
    have wm0_20 := wm0_20.le h28
    obtain ⟨rfl, rfl⟩ := h29
    have hO : Obs _ _ [_, _, _] := hO
    refine zh (zg (zn ?_))
    exact ⟨_, zqB trivial, hO, hL, rm0_0, wm0_18, rm0_19, wm0_20, hF⟩
  ·refine zk (congrArg Value.bool hb25) ?_
   refine zv (zg (zn ?_))
   exact ⟨_, zqB trivial, hO, hL, rm0_0, wm0_18, rm0_19, wm0_20, hF⟩
 ·rintro e σ ⟨_, hA, hO, hL, r11, w12, r13, w14, hF⟩
  rw [← zC _ _ hA]
  unfold zfc at hF
  refine zb hO 4 [0] [(0, zqD bm0), (14, .slice Am0_19 q0.input.length cm0_19)] (And.intro (And.intro rfl rfl) zqn) fun j => ?_
  obtain ⟨y15, g16, hF⟩ := bind_some hF
  refine zb6 (T := (Ty.int .i64)) r13 hO.base rfl rfl g16 (by decide) fun a17 _ k18 m19 => ?_
  obtain rfl : _ = ([.int .i64 y15] : List Value) := k18
  refine zZ rfl (m19.le hO.base).fst ?_
  refine za hO [] [(0, zqD bm0), (3, zqC y15)] zqn fun j => ?_
  refine zb hO 5 [0] [(0, zqD bm0), (3, zqC y15), (17, zqD bm0), (21, .slice Am0_19 q0.input.length cm0_19)] (And.intro (And.intro rfl rfl) zqp) fun j => ?_
  obtain ⟨y20, g21, hF⟩ := bind_some hF
  refine zc9 (T := (Ty.int .i64)) r13 rfl rfl rfl g21 fun _ r22 => ?_
  obtain ⟨A23, c24, rfl, -⟩ := r22.form
  refine zb hO 2 [] [(0, zqD bm0), (3, zqC y15), (22, .slice A23 y20.length c24), (24, .pointer (some ⟨bm0, 19, none⟩))] zqp fun j => ?_
  refine zH hO (i := 0) rfl (off := 19) rfl rfl rfl rfl (Nat.le_of_ble_eq_true rfl) rfl fun σ hO => ?_
  have hO : Obs _ _ [_, _, _] := hO
  refine zh (za hO [] [(0, zqD bm0), (2, zqC y15)] zqn fun j => ?_)
  refine zp ?_
  injection hF with hF
  subst hF
  exact (hQ _ _ _ _ _ rfl hO hL ⟨_, _, _, _, _, _, rfl, rfl, r11, w12, r22, w14⟩).1
theorem zd4 {τ : Hp} {q0 : zf} {bm0 : Nat} {vm0_0 : Value} {vm0_18 : Value} {om0_18 : Ob} {vm0_19 : Value} {vm0_20 : Value} {om0_20 : Ob} {p1 : zc} (rm0_0 : RdT Ty.u8 τ vm0_0 q0.code) (wm0_18 : zd (Ty.int .i64) 2 τ vm0_18 q0.words om0_18) (rm0_19 : RdT (Ty.int .i64) τ vm0_19 q0.input) (wm0_20 : zd (Ty.int .i64) 2 τ vm0_20 q0.out om0_20) {rr : Except (Value × zf) (zf)} (hF : zdF q0 p1 = some rr) :
  zbA Tryz.prog 47 #[.pointer (some ⟨bm0, 0, none⟩), .agg #[.int .u8 p1.Kind.toNat, .int .u8 p1.Op.toNat, .int .i64 p1.R, .int .i64 p1.S, .int .i64 p1.T, .int .i64 p1.N, .int .i64 p1.M]] τ [some (bm0, ⟨[vm0_0, .int .i64 q0.pc, .int .i64 (q0.regs 0), .int .i64 (q0.regs 1), .int .i64 (q0.regs 2), .int .i64 (q0.regs 3), .int .i64 (q0.regs 4), .int .i64 (q0.regs 5), .int .i64 (q0.regs 6), .int .i64 (q0.regs 7), .int .i64 (q0.regs 8), .int .i64 (q0.regs 9), .int .i64 (q0.regs 10), .int .i64 (q0.regs 11), .int .i64 (q0.regs 12), .int .i64 (q0.regs 13), .int .i64 (q0.regs 14), .int .i64 (q0.regs 15), vm0_18, vm0_19, vm0_20, .int .u8 q0.how.toNat, .int .i64 q0.halting], 58, 23, true⟩), om0_18, om0_20] (fun v τ' vs' => match rr with | .ok rr => ∃ (u0_0 : Value) (u0_18 : Value) (y0_18 : Ob) (u0_19 : Value) (u0_20 : Value) (y0_20 : Ob), v = .tuple #[] ∧ vs' = [some (bm0, ⟨[u0_0, .int .i64 rr.pc, .int .i64 (rr.regs 0), .int .i64 (rr.regs 1), .int .i64 (rr.regs 2), .int .i64 (rr.regs 3), .int .i64 (rr.regs 4), .int .i64 (rr.regs 5), .int .i64 (rr.regs 6), .int .i64 (rr.regs 7), .int .i64 (rr.regs 8), .int .i64 (rr.regs 9), .int .i64 (rr.regs 10), .int .i64 (rr.regs 11), .int .i64 (rr.regs 12), .int .i64 (rr.regs 13), .int .i64 (rr.regs 14), .int .i64 (rr.regs 15), u0_18, u0_19, u0_20, .int .u8 rr.how.toNat, .int .i64 rr.halting], 58, 23, true⟩), y0_18, y0_20] ∧ RdT Ty.u8 τ' u0_0 rr.code ∧ zd (Ty.int .i64) 2 τ' u0_18 rr.words y0_18 ∧ RdT (Ty.int .i64) τ' u0_19 rr.input ∧ zd (Ty.int .i64) 2 τ' u0_20 rr.out y0_20 | .error _ => False) (fun ch τ' vs' => match rr with | .ok _ => False | .error ee => ∃ (u0_0 : Value) (u0_18 : Value) (y0_18 : Ob) (u0_19 : Value) (u0_20 : Value) (y0_20 : Ob), ch = [{ v := ee.1, recovered := false }] ∧ vs' = [some (bm0, ⟨[u0_0, .int .i64 ee.2.pc, .int .i64 (ee.2.regs 0), .int .i64 (ee.2.regs 1), .int .i64 (ee.2.regs 2), .int .i64 (ee.2.regs 3), .int .i64 (ee.2.regs 4), .int .i64 (ee.2.regs 5), .int .i64 (ee.2.regs 6), .int .i64 (ee.2.regs 7), .int .i64 (ee.2.regs 8), .int .i64 (ee.2.regs 9), .int .i64 (ee.2.regs 10), .int .i64 (ee.2.regs 11), .int .i64 (ee.2.regs 12), .int .i64 (ee.2.regs 13), .int .i64 (ee.2.regs 14), .int .i64 (ee.2.regs 15), u0_18, u0_19, u0_20, .int .u8 ee.2.how.toNat, .int .i64 ee.2.halting], 58, 23, true⟩), y0_18, y0_20] ∧ RdT Ty.u8 τ' u0_0 ee.2.code ∧ zd (Ty.int .i64) 2 τ' u0_18 ee.2.words y0_18 ∧ RdT (Ty.int .i64) τ' u0_19 ee.2.input ∧ zd (Ty.int .i64) 2 τ' u0_20 ee.2.out y0_20) := by
 obtain ⟨Am0_0, cm0_0, rfl, -⟩ := rm0_0.form
 obtain ⟨Am0_18, cm0_18, rfl, -⟩ := wm0_18.form
 obtain ⟨Am0_19, cm0_19, rfl, -⟩ := rm0_19.form
 obtain ⟨Am0_20, cm0_20, rfl, -⟩ := wm0_20.form
 refine zcn (args := [.pointer (some ⟨bm0, 0, none⟩), .agg #[.int .u8 p1.Kind.toNat, .int .u8 p1.Op.toNat, .int .i64 p1.R, .int .i64 p1.S, .int .i64 p1.T, .int .i64 p1.N, .int .i64 p1.M]]) hm Tryz.func47 s47 rfl fun w0 σ hP hO Q hQ => ?_
 unfold zdF at hF
 have hL := Hp.le.refl τ
 show wpn _ _ a47.body _ _ _
 unfold a47
 dsimp only
 refine zba (n := 7) hO rfl rfl fun b3 σ hO => ?_
 have hO : Obs _ _ [_, _, _, _] := hO
 refine zh (zbD (zb hO 5 [3] [(0, zqD bm0), (3, zqD b3), (8, zqC p1.R), (10, .pointer (some ⟨bm0, 2, none⟩))] (And.intro (And.intro rfl rfl) zqp) fun j => ?_))
 obtain ⟨y4, g5, hF⟩ := bind_some hF
 refine zdY rfl rfl g5 ?_
 refine zb hO 5 [3] [(0, zqD bm0), (3, zqD b3), (11, .pointer (some ⟨bm0, 2 + y4, none⟩)), (14, zqC p1.S), (16, .pointer (some ⟨bm0, 2, none⟩))] (And.intro (And.intro rfl rfl) zqq) fun j => ?_
 obtain ⟨y6, g7, hF⟩ := bind_some hF
 refine zdY rfl rfl g7 ?_
 refine zdv hO (i := 0) rfl rfl (zcX (f := q0.regs) (n := 16) (zbs g7).2.2.2 [_, _] [_, _, _, _, _]) ?_
 refine za hO [] [(0, zqD bm0), (3, zqD b3), (4, .pointer (some ⟨bm0, 2 + y4, none⟩)), (5, zqC (q0.regs y6))] zqp fun j => ?_
 refine za hO [3] [(0, zqD bm0), (3, zqD b3), (4, .pointer (some ⟨bm0, 2 + y4, none⟩)), (5, zqC (q0.regs y6)), (20, .int .u8 (p1.Kind.toNat : Int))] (And.intro (And.intro rfl rfl) zqq) fun j => ?_
 refine zeg (zhQ (fun e' σ' => ∃ (A178 : Option Addr) (c179 : Nat) (x180 : List UInt8) (x182 : Int) (x183 : (Nat → Int)) (k184 : Nat) (A185 : Option Addr) (c186 : Nat) (o187 : Ob) (x188 : List Int) (A191 : Option Addr) (c192 : Nat) (x193 : List Int) (A195 : Option Addr) (c196 : Nat) (o197 : Ob) (x198 : List Int) (x200 : UInt8) (x201 : Int) (τ' : Hp), agr [(0, zqD bm0)] e' ∧ Obs τ' σ' [some (bm0, ⟨[.slice A178 x180.length c179, .int .i64 x182, .int .i64 (x183 0), .int .i64 (x183 1), .int .i64 (x183 2), .int .i64 (x183 3), .int .i64 (x183 4), .int .i64 (x183 5), .int .i64 (x183 6), .int .i64 (x183 7), .int .i64 (x183 8), .int .i64 (x183 9), .int .i64 (x183 10), .int .i64 (x183 11), .int .i64 (x183 12), .int .i64 (x183 13), .int .i64 (x183 14), .int .i64 (x183 15), .slice A185 k184 c186, .slice A191 x193.length c192, .slice A195 x198.length c196, .int .u8 (x200.toNat : Int), .int .i64 x201], 58, 23, true⟩), o187, o197] ∧ Hp.le τ τ' ∧ RdT Ty.u8 τ' (.slice A178 x180.length c179) x180 ∧ k184 = x188.length ∧ zd (Ty.int .i64) 2 τ' (.slice A185 k184 c186) x188 o187 ∧ RdT (Ty.int .i64) τ' (.slice A191 x193.length c192) x193 ∧ zd (Ty.int .i64) 2 τ' (.slice A195 x198.length c196) x198 o197 ∧ zbi x180 x182 x183 x188 x193 x198 x200 x201 = some rr) ?_ ?_)
 ·refine za hO [] [(0, zqD bm0), (3, zqD b3), (4, .pointer (some ⟨bm0, 2 + y4, none⟩)), (5, zqC (q0.regs y6)), (20, .int .u8 (p1.Kind.toNat : Int)), (21, .bool ((p1.Kind.toNat : Int) == 2))] zqr fun j => ?_
  refine z2 ?_
  rcases zi hF with ⟨hb202, hF⟩ | ⟨hb202, hF⟩
  ·refine zl (congrArg Value.bool hb202) ?_
   refine zb hO 4 [3] [(0, zqD bm0), (25, zqC p1.N), (26, .pointer (some ⟨bm0, 2 + y4, none⟩))] (And.intro (And.intro rfl rfl) zqo) fun j => ?_
   refine zH hO (i := 0) rfl (off := 2 + y4) rfl rfl rfl rfl (by have := (zbs g5).2.2.2; simp only [List.length_cons, List.length_nil]; omega) (cells' := [.slice Am0_0 q0.code.length cm0_0, .int .i64 q0.pc, .int .i64 ((zq q0.regs y4 p1.N) 0), .int .i64 ((zq q0.regs y4 p1.N) 1), .int .i64 ((zq q0.regs y4 p1.N) 2), .int .i64 ((zq q0.regs y4 p1.N) 3), .int .i64 ((zq q0.regs y4 p1.N) 4), .int .i64 ((zq q0.regs y4 p1.N) 5), .int .i64 ((zq q0.regs y4 p1.N) 6), .int .i64 ((zq q0.regs y4 p1.N) 7), .int .i64 ((zq q0.regs y4 p1.N) 8), .int .i64 ((zq q0.regs y4 p1.N) 9), .int .i64 ((zq q0.regs y4 p1.N) 10), .int .i64 ((zq q0.regs y4 p1.N) 11), .int .i64 ((zq q0.regs y4 p1.N) 12), .int .i64 ((zq q0.regs y4 p1.N) 13), .int .i64 ((zq q0.regs y4 p1.N) 14), .int .i64 ((zq q0.regs y4 p1.N) 15), .slice Am0_18 q0.words.length cm0_18, .slice Am0_19 q0.input.length cm0_19, .slice Am0_20 q0.out.length cm0_20, .int .u8 (q0.how.toNat : Int), .int .i64 q0.halting]) (zeB (f := q0.regs) (n := 16) (zbs g5).2.2.2 p1.N [_, _] [_, _, _, _, _]) fun σ hO => ?_
   have hO : Obs _ _ [_, _, _, _] := hO
   refine zh (zg (zK (zn ?_)))
   have hO := hO.sel [0, 1, 2] (by decide)
   exact ⟨Am0_0, cm0_0, q0.code, q0.pc, (zq q0.regs y4 p1.N), q0.words.length, Am0_18, cm0_18, om0_18, q0.words, Am0_19, cm0_19, q0.input, Am0_20, cm0_20, om0_20, q0.out, q0.how, q0.halting, _, zqB trivial, hO, hL, rm0_0, wm0_18.len, wm0_18, rm0_19, wm0_20, hF⟩
  ·refine zk (congrArg Value.bool hb202) ?_
   refine ze (za hO [] [(0, zqD bm0), (3, zqD b3), (4, .pointer (some ⟨bm0, 2 + y4, none⟩)), (5, zqC (q0.regs y6)), (20, .int .u8 (p1.Kind.toNat : Int)), (27, .bool ((p1.Kind.toNat : Int) == 3))] zqr fun j => ?_)
   rcases zi hF with ⟨hb203, hF⟩ | ⟨hb203, hF⟩
   ·refine zl (congrArg Value.bool hb203) ?_
    refine zb hO 3 [] [(0, zqD bm0), (30, zqC (q0.regs y6)), (31, .pointer (some ⟨bm0, 2 + y4, none⟩))] zqo fun j => ?_
    refine zH hO (i := 0) rfl (off := 2 + y4) rfl rfl rfl rfl (by have := (zbs g5).2.2.2; simp only [List.length_cons, List.length_nil]; omega) (cells' := [.slice Am0_0 q0.code.length cm0_0, .int .i64 q0.pc, .int .i64 ((zq q0.regs y4 (q0.regs y6)) 0), .int .i64 ((zq q0.regs y4 (q0.regs y6)) 1), .int .i64 ((zq q0.regs y4 (q0.regs y6)) 2), .int .i64 ((zq q0.regs y4 (q0.regs y6)) 3), .int .i64 ((zq q0.regs y4 (q0.regs y6)) 4), .int .i64 ((zq q0.regs y4 (q0.regs y6)) 5), .int .i64 ((zq q0.regs y4 (q0.regs y6)) 6), .int .i64 ((zq q0.regs y4 (q0.regs y6)) 7), .int .i64 ((zq q0.regs y4 (q0.regs y6)) 8), .int .i64 ((zq q0.regs y4 (q0.regs y6)) 9), .int .i64 ((zq q0.regs y4 (q0.regs y6)) 10), .int .i64 ((zq q0.regs y4 (q0.regs y6)) 11), .int .i64 ((zq q0.regs y4 (q0.regs y6)) 12), .int .i64 ((zq q0.regs y4 (q0.regs y6)) 13), .int .i64 ((zq q0.regs y4 (q0.regs y6)) 14), .int .i64 ((zq q0.regs y4 (q0.regs y6)) 15), .slice Am0_18 q0.words.length cm0_18, .slice Am0_19 q0.input.length cm0_19, .slice Am0_20 q0.out.length cm0_20, .int .u8 (q0.how.toNat : Int), .int .i64 q0.halting]) (zeB (f := q0.regs) (n := 16) (zbs g5).2.2.2 (q0.regs y6) [_, _] [_, _, _, _, _]) fun σ hO => ?_
    have hO : Obs _ _ [_, _, _, _] := hO
    refine zh (zg (zK (zn ?_)))
    have hO := hO.sel [0, 1, 2] (by decide)
    exact ⟨Am0_0, cm0_0, q0.code, q0.pc, (zq q0.regs y4 (q0.regs y6)), q0.words.length, Am0_18, cm0_18, om0_18, q0.words, Am0_19, cm0_19, q0.input, Am0_20, cm0_20, om0_20, q0.out, q0.how, q0.halting, _, zqB trivial, hO, hL, rm0_0, wm0_18.len, wm0_18, rm0_19, wm0_20, hF⟩
   ·refine zk (congrArg Value.bool hb203) ?_
    refine ze (za hO [] [(0, zqD bm0), (3, zqD b3), (4, .pointer (some ⟨bm0, 2 + y4, none⟩)), (5, zqC (q0.regs y6)), (20, .int .u8 (p1.Kind.toNat : Int)), (32, .bool ((p1.Kind.toNat : Int) == 4))] zqr fun j => ?_)
    rcases zi hF with ⟨hb204, hF⟩ | ⟨hb204, hF⟩
    ·refine zl (congrArg Value.bool hb204) ?_
     refine zbD (zb hO 9 [3, 3] [(0, zqD bm0), (34, .pointer (some ⟨bm0, 2 + y4, none⟩)), (36, .int .u8 (p1.Op.toNat : Int)), (37, zqC (q0.regs y6)), (40, zqC p1.T), (42, .pointer (some ⟨bm0, 2, none⟩))] (And.intro (And.intro rfl rfl) (And.intro (And.intro rfl rfl) zqr)) fun j => ?_)
     obtain ⟨y205, g206, hF⟩ := bind_some hF
     refine zdY rfl rfl g206 ?_
     refine zdv hO (i := 0) rfl rfl (zcX (f := q0.regs) (n := 16) (zbs g206).2.2.2 [_, _] [_, _, _, _, _]) ?_
     rcases z9 hF with ⟨x211, h212, hF⟩ | ⟨c207, h208, hF⟩
     ·refine zco hO (zlz h212) (fun _ _ _ h => False.elim h) rfl fun _ σ _ _ hO h213 h214 => ?_
      have hL := hL.trans h213
      have rm0_0 := rm0_0.le h213
      have wm0_18 := wm0_18.le h213
      have rm0_19 := rm0_19.le h213
      have wm0_20 := wm0_20.le h213
      obtain ⟨rfl, rfl⟩ := h214
      have hO : Obs _ _ [_, _, _, _] := hO
      injection hF with hF
      subst hF
      have hO := hO.sel [0, 1, 2] (by decide)
      exact hP _ _ _ _ hO hL ⟨_, _, _, _, _, _, rfl, rfl, rm0_0, wm0_18, rm0_19, wm0_20⟩
     ·refine zcg hO (zlz h208) (fun _ _ _ h => False.elim h) rfl fun _ σ _ _ hO h209 h210 => ?_
      have hL := hL.trans h209
      have rm0_0 := rm0_0.le h209
      have wm0_18 := wm0_18.le h209
      have rm0_19 := rm0_19.le h209
      have wm0_20 := wm0_20.le h209
      obtain ⟨rfl, rfl⟩ := h210
      have hO : Obs _ _ [_, _, _, _] := hO
      refine zb hO 1 [] [(0, zqD bm0), (45, zqC c207), (46, .pointer (some ⟨bm0, 2 + y4, none⟩))] zqo fun j => ?_
      refine zH hO (i := 0) rfl (off := 2 + y4) rfl rfl rfl rfl (by have := (zbs g5).2.2.2; simp only [List.length_cons, List.length_nil]; omega) (cells' := [.slice Am0_0 q0.code.length cm0_0, .int .i64 q0.pc, .int .i64 ((zq q0.regs y4 c207) 0), .int .i64 ((zq q0.regs y4 c207) 1), .int .i64 ((zq q0.regs y4 c207) 2), .int .i64 ((zq q0.regs y4 c207) 3), .int .i64 ((zq q0.regs y4 c207) 4), .int .i64 ((zq q0.regs y4 c207) 5), .int .i64 ((zq q0.regs y4 c207) 6), .int .i64 ((zq q0.regs y4 c207) 7), .int .i64 ((zq q0.regs y4 c207) 8), .int .i64 ((zq q0.regs y4 c207) 9), .int .i64 ((zq q0.regs y4 c207) 10), .int .i64 ((zq q0.regs y4 c207) 11), .int .i64 ((zq q0.regs y4 c207) 12), .int .i64 ((zq q0.regs y4 c207) 13), .int .i64 ((zq q0.regs y4 c207) 14), .int .i64 ((zq q0.regs y4 c207) 15), .slice Am0_18 q0.words.length cm0_18, .slice Am0_19 q0.input.length cm0_19, .slice Am0_20 q0.out.length cm0_20, .int .u8 (q0.how.toNat : Int), .int .i64 q0.halting]) (zeB (f := q0.regs) (n := 16) (zbs g5).2.2.2 c207 [_, _] [_, _, _, _, _]) fun σ hO => ?_
      have hO : Obs _ _ [_, _, _, _] := hO
      refine zh (zg (zK (zn ?_)))
      have hO := hO.sel [0, 1, 2] (by decide)
      exact ⟨Am0_0, cm0_0, q0.code, q0.pc, (zq q0.regs y4 c207), q0.words.length, Am0_18, cm0_18, om0_18, q0.words, Am0_19, cm0_19, q0.input, Am0_20, cm0_20, om0_20, q0.out, q0.how, q0.halting, _, zqB trivial, hO, hL, rm0_0, wm0_18.len, wm0_18, rm0_19, wm0_20, hF⟩
    ·refine zk (congrArg Value.bool hb204) ?_
     refine ze (za hO [] [(0, zqD bm0), (3, zqD b3), (4, .pointer (some ⟨bm0, 2 + y4, none⟩)), (5, zqC (q0.regs y6)), (20, .int .u8 (p1.Kind.toNat : Int)), (47, .bool ((p1.Kind.toNat : Int) == 5))] zqr fun j => ?_)
     rcases zi hF with ⟨hb215, hF⟩ | ⟨hb215, hF⟩
     ·refine zl (congrArg Value.bool hb215) ?_
      refine zb hO 4 [3] [(0, zqD bm0), (5, zqC (q0.regs y6)), (49, .pointer (some ⟨bm0, 2 + y4, none⟩)), (52, .bool ((p1.Op.toNat : Int) == 14))] (And.intro (And.intro rfl rfl) zqp) fun j => ?_
      obtain ⟨c216, h217, hF⟩ := bind_some hF
      refine zr hO (zdQ h217) rfl fun _ σ _ _ hO h218 h219 => ?_
      have hL := hL.trans h218
      have rm0_0 := rm0_0.le h218
      have wm0_18 := wm0_18.le h218
      have rm0_19 := rm0_19.le h218
      have wm0_20 := wm0_20.le h218
      obtain ⟨rfl, rfl⟩ := h219
      have hO : Obs _ _ [_, _, _, _] := hO
      refine zb hO 3 [] [(0, zqD bm0), (55, zqC (IntKind.i64.wrap (c216 - (q0.regs y6)))), (56, .pointer (some ⟨bm0, 2 + y4, none⟩))] zqo fun j => ?_
      refine zH hO (i := 0) rfl (off := 2 + y4) rfl rfl rfl rfl (by have := (zbs g5).2.2.2; simp only [List.length_cons, List.length_nil]; omega) (cells' := [.slice Am0_0 q0.code.length cm0_0, .int .i64 q0.pc, .int .i64 ((zq q0.regs y4 (IntKind.i64.wrap (c216 - (q0.regs y6)))) 0), .int .i64 ((zq q0.regs y4 (IntKind.i64.wrap (c216 - (q0.regs y6)))) 1), .int .i64 ((zq q0.regs y4 (IntKind.i64.wrap (c216 - (q0.regs y6)))) 2), .int .i64 ((zq q0.regs y4 (IntKind.i64.wrap (c216 - (q0.regs y6)))) 3), .int .i64 ((zq q0.regs y4 (IntKind.i64.wrap (c216 - (q0.regs y6)))) 4), .int .i64 ((zq q0.regs y4 (IntKind.i64.wrap (c216 - (q0.regs y6)))) 5), .int .i64 ((zq q0.regs y4 (IntKind.i64.wrap (c216 - (q0.regs y6)))) 6), .int .i64 ((zq q0.regs y4 (IntKind.i64.wrap (c216 - (q0.regs y6)))) 7), .int .i64 ((zq q0.regs y4 (IntKind.i64.wrap (c216 - (q0.regs y6)))) 8), .int .i64 ((zq q0.regs y4 (IntKind.i64.wrap (c216 - (q0.regs y6)))) 9), .int .i64 ((zq q0.regs y4 (IntKind.i64.wrap (c216 - (q0.regs y6)))) 10), .int .i64 ((zq q0.regs y4 (IntKind.i64.wrap (c216 - (q0.regs y6)))) 11), .int .i64 ((zq q0.regs y4 (IntKind.i64.wrap (c216 - (q0.regs y6)))) 12), .int .i64 ((zq q0.regs y4 (IntKind.i64.wrap (c216 - (q0.regs y6)))) 13), .int .i64 ((zq q0.regs y4 (IntKind.i64.wrap (c216 - (q0.regs y6)))) 14), .int .i64 ((zq q0.regs y4 (IntKind.i64.wrap (c216 - (q0.regs y6)))) 15), .slice Am0_18 q0.words.length cm0_18, .slice Am0_19 q0.input.length cm0_19, .slice Am0_20 q0.out.length cm0_20, .int .u8 (q0.how.toNat : Int), .int .i64 q0.halting]) (zeB (f := q0.regs) (n := 16) (zbs g5).2.2.2 (IntKind.i64.wrap (c216 - (q0.regs y6))) [_, _] [_, _, _, _, _]) fun σ hO => ?_
      have hO : Obs _ _ [_, _, _, _] := hO
      refine zh (zg (zK (zn ?_)))
      have hO := hO.sel [0, 1, 2] (by decide)
      exact ⟨Am0_0, cm0_0, q0.code, q0.pc, (zq q0.regs y4 (IntKind.i64.wrap (c216 - (q0.regs y6)))), q0.words.length, Am0_18, cm0_18, om0_18, q0.words, Am0_19, cm0_19, q0.input, Am0_20, cm0_20, om0_20, q0.out, q0.how, q0.halting, _, zqB trivial, hO, hL, rm0_0, wm0_18.len, wm0_18, rm0_19, wm0_20, hF⟩
     ·refine zk (congrArg Value.bool hb215) ?_
      refine ze (ze (za hO [] [(0, zqD bm0), (3, zqD b3), (4, .pointer (some ⟨bm0, 2 + y4, none⟩)), (20, .int .u8 (p1.Kind.toNat : Int)), (57, .bool ((p1.Kind.toNat : Int) == 6))] zqq fun j => ?_))
      refine zbK (fun e' σ' => ∃ (x225 : Bool) (τ' : Hp), agr [(0, zqD bm0), (3, zqD b3), (4, .pointer (some ⟨bm0, 2 + y4, none⟩)), (20, .int .u8 (p1.Kind.toNat : Int)), (57, .bool x225)] e' ∧ Obs τ' σ' [some (bm0, ⟨[.slice Am0_0 q0.code.length cm0_0, .int .i64 q0.pc, .int .i64 (q0.regs 0), .int .i64 (q0.regs 1), .int .i64 (q0.regs 2), .int .i64 (q0.regs 3), .int .i64 (q0.regs 4), .int .i64 (q0.regs 5), .int .i64 (q0.regs 6), .int .i64 (q0.regs 7), .int .i64 (q0.regs 8), .int .i64 (q0.regs 9), .int .i64 (q0.regs 10), .int .i64 (q0.regs 11), .int .i64 (q0.regs 12), .int .i64 (q0.regs 13), .int .i64 (q0.regs 14), .int .i64 (q0.regs 15), .slice Am0_18 q0.words.length cm0_18, .slice Am0_19 q0.input.length cm0_19, .slice Am0_20 q0.out.length cm0_20, .int .u8 (q0.how.toNat : Int), .int .i64 q0.halting], 58, 23, true⟩), om0_18, om0_20, some (b3, ⟨[.int .u8 (p1.Kind.toNat : Int), .int .u8 (p1.Op.toNat : Int), .int .i64 p1.R, .int .i64 p1.S, .int .i64 p1.T, .int .i64 p1.N, .int .i64 p1.M], 54, 7, true⟩)] ∧ Hp.le τ τ' ∧ RdT Ty.u8 τ' (.slice Am0_0 q0.code.length cm0_0) q0.code ∧ zd (Ty.int .i64) 2 τ' (.slice Am0_18 q0.words.length cm0_18) q0.words om0_18 ∧ RdT (Ty.int .i64) τ' (.slice Am0_19 q0.input.length cm0_19) q0.input ∧ zd (Ty.int .i64) 2 τ' (.slice Am0_20 q0.out.length cm0_20) q0.out om0_20 ∧ zbP q0 p1 y4 x225 = some rr) ?_ ?_
      ·refine z2 ?_
       rcases zi hF with ⟨hb371, hF⟩ | ⟨hb371, hF⟩
       ·refine zl (congrArg Value.bool hb371) ?_
        refine zv (zg (zn ?_))
        exact ⟨((p1.Kind.toNat : Int) == 6), _, zqB zqp, hO, hL, rm0_0, wm0_18, rm0_19, wm0_20, hF⟩
       ·refine zk (congrArg Value.bool hb371) ?_
        refine za hO [] [(0, zqD bm0), (3, zqD b3), (4, .pointer (some ⟨bm0, 2 + y4, none⟩)), (20, .int .u8 (p1.Kind.toNat : Int)), (57, .bool ((p1.Kind.toNat : Int) == 8))] zqq fun j => ?_
        refine zg (zn ?_)
        exact ⟨((p1.Kind.toNat : Int) == 8), _, zqB zqp, hO, hL, rm0_0, wm0_18, rm0_19, wm0_20, hF⟩
      ·rintro e σ ⟨x225, _, hA, hO, hL, r221, w222, r223, w224, hF⟩
       rw [← zC _ _ hA]
       unfold zbP at hF
       rcases zi hF with ⟨hb226, hF⟩ | ⟨hb226, hF⟩
       ·refine zl (congrArg Value.bool hb226) ?_
        refine zb hO 3 [3] [(0, zqD bm0), (60, .pointer (some ⟨bm0, 2 + y4, none⟩)), (61, zqD bm0), (62, .agg #[(.int .u8 (p1.Kind.toNat : Int)), (.int .u8 (p1.Op.toNat : Int)), (.int .i64 p1.R), (.int .i64 p1.S), (.int .i64 p1.T), (.int .i64 p1.N), (.int .i64 p1.M)])] (And.intro (And.intro rfl rfl) zqp) fun j => ?_
        have hO := hO.sel [3, 0, 1, 2] (by decide)
        rcases z9 hF with ⟨x231, h232, hF⟩ | ⟨c227, h228, hF⟩
        ·refine zbQ (hs := [_]) (vs := [_, _, _]) hO (zh5 (q0 := (⟨q0.code, q0.pc, q0.regs, q0.words, q0.input, q0.out, q0.how, q0.halting⟩ : zf)) (p1 := (⟨p1.Kind, p1.Op, p1.R, p1.S, p1.T, p1.N, p1.M⟩ : zc)) r221 w222 r223 w224 h232) (fun _ _ _ h => False.elim h) rfl fun _ σ _ _ hO h233 h234 => ?_
         have hL := hL.trans h233
         have r221 := r221.le h233
         have w222 := w222.le h233
         have r223 := r223.le h233
         have w224 := w224.le h233
         obtain ⟨rfl, rfl⟩ := h234
         have hO : Obs _ _ [_, _, _, _] := hO
         injection hF with hF
         subst hF
         have hO := hO.sel [1, 2, 3] (by decide)
         exact hP _ _ _ _ hO hL ⟨_, _, _, _, _, _, rfl, rfl, r221, w222, r223, w224⟩
        ·refine zbT (hs := [_]) (vs := [_, _, _]) hO (zh5 (q0 := (⟨q0.code, q0.pc, q0.regs, q0.words, q0.input, q0.out, q0.how, q0.halting⟩ : zf)) (p1 := (⟨p1.Kind, p1.Op, p1.R, p1.S, p1.T, p1.N, p1.M⟩ : zc)) r221 w222 r223 w224 h228) (fun _ _ _ h => False.elim h) rfl fun _ σ _ _ hO h229 h230 => ?_
         have hL := hL.trans h229
         have r221 := r221.le h229
         have w222 := w222.le h229
         have r223 := r223.le h229
         have w224 := w224.le h229
         obtain ⟨h235, rfl⟩ := h230
         have hO : Obs _ _ [_, _, _, _] := hO
         have hO := hO.sel [1, 2, 3, 0] (by decide)
         have hO : Obs _ _ [_, _, _, _] := hO
         obtain ⟨y236, g237, hF⟩ := bind_some hF
         obtain ⟨a238, _, h240, k239, m241, i242⟩ := zd.at_ hO w222 (i := 1) rfl g237 (n := 1) rfl
         have h235 : _ = Value.pointer (some a238) := h235.trans (congrArg Value.pointer h240)
         subst h235
         have k243 := k239
         obtain rfl : _ = ([.int .i64 y236] : List Value) := k243
         refine zb hO 1 [] [(0, zqD bm0), (60, .pointer (some ⟨bm0, 2 + y4, none⟩)), (64, .pointer (some a238))] zqo fun j => ?_
         refine zZ rfl m241.fst ?_
         refine zb hO 1 [] [(0, zqD bm0), (65, zqC y236), (66, .pointer (some ⟨bm0, 2 + y4, none⟩))] zqo fun j => ?_
         refine zH hO (i := 0) rfl (off := 2 + y4) rfl rfl rfl rfl (by have := (zbs g5).2.2.2; simp only [List.length_cons, List.length_nil]; omega) (cells' := [.slice Am0_0 q0.code.length cm0_0, .int .i64 q0.pc, .int .i64 ((zq q0.regs y4 y236) 0), .int .i64 ((zq q0.regs y4 y236) 1), .int .i64 ((zq q0.regs y4 y236) 2), .int .i64 ((zq q0.regs y4 y236) 3), .int .i64 ((zq q0.regs y4 y236) 4), .int .i64 ((zq q0.regs y4 y236) 5), .int .i64 ((zq q0.regs y4 y236) 6), .int .i64 ((zq q0.regs y4 y236) 7), .int .i64 ((zq q0.regs y4 y236) 8), .int .i64 ((zq q0.regs y4 y236) 9), .int .i64 ((zq q0.regs y4 y236) 10), .int .i64 ((zq q0.regs y4 y236) 11), .int .i64 ((zq q0.regs y4 y236) 12), .int .i64 ((zq q0.regs y4 y236) 13), .int .i64 ((zq q0.regs y4 y236) 14), .int .i64 ((zq q0.regs y4 y236) 15), .slice Am0_18 q0.words.length cm0_18, .slice Am0_19 q0.input.length cm0_19, .slice Am0_20 q0.out.length cm0_20, .int .u8 (q0.how.toNat : Int), .int .i64 q0.halting]) (zeB (f := q0.regs) (n := 16) (zbs g5).2.2.2 y236 [_, _] [_, _, _, _, _]) fun σ hO => ?_
         have hO : Obs _ _ [_, _, _, _] := hO
         refine zh (zg (zK (zn ?_)))
         have hO := hO.sel [0, 1, 2] (by decide)
         exact ⟨Am0_0, cm0_0, q0.code, q0.pc, (zq q0.regs y4 y236), q0.words.length, Am0_18, cm0_18, om0_18, q0.words, Am0_19, cm0_19, q0.input, Am0_20, cm0_20, om0_20, q0.out, q0.how, q0.halting, _, zqB trivial, hO, hL, r221, w222.len, w222, r223, w224, hF⟩
       ·refine zk (congrArg Value.bool hb226) ?_
        refine ze (ze (za hO [] [(0, zqD bm0), (3, zqD b3), (4, .pointer (some ⟨bm0, 2 + y4, none⟩)), (20, .int .u8 (p1.Kind.toNat : Int)), (67, .bool ((p1.Kind.toNat : Int) == 7))] zqq fun j => ?_))
        refine zbK (fun e' σ' => ∃ (x249 : Bool) (τ' : Hp), agr [(0, zqD bm0), (3, zqD b3), (4, .pointer (some ⟨bm0, 2 + y4, none⟩)), (20, .int .u8 (p1.Kind.toNat : Int)), (67, .bool x249)] e' ∧ Obs τ' σ' [some (bm0, ⟨[.slice Am0_0 q0.code.length cm0_0, .int .i64 q0.pc, .int .i64 (q0.regs 0), .int .i64 (q0.regs 1), .int .i64 (q0.regs 2), .int .i64 (q0.regs 3), .int .i64 (q0.regs 4), .int .i64 (q0.regs 5), .int .i64 (q0.regs 6), .int .i64 (q0.regs 7), .int .i64 (q0.regs 8), .int .i64 (q0.regs 9), .int .i64 (q0.regs 10), .int .i64 (q0.regs 11), .int .i64 (q0.regs 12), .int .i64 (q0.regs 13), .int .i64 (q0.regs 14), .int .i64 (q0.regs 15), .slice Am0_18 q0.words.length cm0_18, .slice Am0_19 q0.input.length cm0_19, .slice Am0_20 q0.out.length cm0_20, .int .u8 (q0.how.toNat : Int), .int .i64 q0.halting], 58, 23, true⟩), om0_18, om0_20, some (b3, ⟨[.int .u8 (p1.Kind.toNat : Int), .int .u8 (p1.Op.toNat : Int), .int .i64 p1.R, .int .i64 p1.S, .int .i64 p1.T, .int .i64 p1.N, .int .i64 p1.M], 54, 7, true⟩)] ∧ Hp.le τ τ' ∧ RdT Ty.u8 τ' (.slice Am0_0 q0.code.length cm0_0) q0.code ∧ zd (Ty.int .i64) 2 τ' (.slice Am0_18 q0.words.length cm0_18) q0.words om0_18 ∧ RdT (Ty.int .i64) τ' (.slice Am0_19 q0.input.length cm0_19) q0.input ∧ zd (Ty.int .i64) 2 τ' (.slice Am0_20 q0.out.length cm0_20) q0.out om0_20 ∧ zbS q0 p1 y4 x249 = some rr) ?_ ?_
        ·refine z2 ?_
         rcases zi hF with ⟨hb370, hF⟩ | ⟨hb370, hF⟩
         ·refine zl (congrArg Value.bool hb370) ?_
          refine zv (zg (zn ?_))
          exact ⟨((p1.Kind.toNat : Int) == 7), _, zqB zqp, hO, hL, r221, w222, r223, w224, hF⟩
         ·refine zk (congrArg Value.bool hb370) ?_
          refine za hO [] [(0, zqD bm0), (3, zqD b3), (4, .pointer (some ⟨bm0, 2 + y4, none⟩)), (20, .int .u8 (p1.Kind.toNat : Int)), (67, .bool ((p1.Kind.toNat : Int) == 9))] zqq fun j => ?_
          refine zg (zn ?_)
          exact ⟨((p1.Kind.toNat : Int) == 9), _, zqB zqp, hO, hL, r221, w222, r223, w224, hF⟩
        ·rintro e σ ⟨x249, _, hA, hO, hL, r245, w246, r247, w248, hF⟩
         rw [← zC _ _ hA]
         unfold zbS at hF
         rcases zi hF with ⟨hb250, hF⟩ | ⟨hb250, hF⟩
         ·refine zl (congrArg Value.bool hb250) ?_
          refine zbD (zb hO 4 [3] [(0, zqD bm0), (70, zqD bm0), (71, .agg #[(.int .u8 (p1.Kind.toNat : Int)), (.int .u8 (p1.Op.toNat : Int)), (.int .i64 p1.R), (.int .i64 p1.S), (.int .i64 p1.T), (.int .i64 p1.N), (.int .i64 p1.M)]), (74, .pointer (some ⟨bm0, 2 + y4, none⟩))] (And.intro (And.intro rfl rfl) zqp) fun j => ?_)
          refine zdv hO (i := 0) rfl rfl (zcX (f := q0.regs) (n := 16) (zbs g5).2.2.2 [_, _] [_, _, _, _, _]) ?_
          refine zcC ?_
          have hO := hO.sel [3, 0, 1, 2] (by decide)
          rcases z9 hF with ⟨x255, h256, hF⟩ | ⟨c251, h252, hF⟩
          ·refine zbQ (hs := [_]) (vs := [_, _, _]) hO (zh5 (q0 := (⟨q0.code, q0.pc, q0.regs, q0.words, q0.input, q0.out, q0.how, q0.halting⟩ : zf)) (p1 := (⟨p1.Kind, p1.Op, p1.R, p1.S, p1.T, p1.N, p1.M⟩ : zc)) r245 w246 r247 w248 h256) (fun _ _ _ h => False.elim h) rfl fun _ σ _ _ hO h257 h258 => ?_
           have hL := hL.trans h257
           have r245 := r245.le h257
           have w246 := w246.le h257
           have r247 := r247.le h257
           have w248 := w248.le h257
           obtain ⟨rfl, rfl⟩ := h258
           have hO : Obs _ _ [_, _, _, _] := hO
           injection hF with hF
           subst hF
           have hO := hO.sel [1, 2, 3] (by decide)
           exact hP _ _ _ _ hO hL ⟨_, _, _, _, _, _, rfl, rfl, r245, w246, r247, w248⟩
          ·refine zbT (hs := [_]) (vs := [_, _, _]) hO (zh5 (q0 := (⟨q0.code, q0.pc, q0.regs, q0.words, q0.input, q0.out, q0.how, q0.halting⟩ : zf)) (p1 := (⟨p1.Kind, p1.Op, p1.R, p1.S, p1.T, p1.N, p1.M⟩ : zc)) r245 w246 r247 w248 h252) (fun _ _ _ h => False.elim h) rfl fun _ σ _ _ hO h253 h254 => ?_
           have hL := hL.trans h253
           have r245 := r245.le h253
           have w246 := w246.le h253
           have r247 := r247.le h253
           have w248 := w248.le h253
           obtain ⟨h259, rfl⟩ := h254
           have hO : Obs _ _ [_, _, _, _] := hO
           have hO := hO.sel [1, 2, 3, 0] (by decide)
           have hO : Obs _ _ [_, _, _, _] := hO
           obtain ⟨y260, g261, hF⟩ := bind_some hF
           obtain ⟨a262, _, h264, k263, m265, i266⟩ := zd.at_ hO w246 (i := 1) rfl g261 (n := 1) rfl
           have h259 : _ = Value.pointer (some a262) := h259.trans (congrArg Value.pointer h264)
           subst h259
           have k267 := k263
           obtain rfl : _ = ([.int .i64 y260] : List Value) := k267
           refine zh (zcI ⟨(zb5 rfl (hO.dat (i := 0) rfl (zcX (f := q0.regs) (n := 16) (zbs g5).2.2.2 [_, _] [_, _, _, _, _])) rfl), trivial⟩ ?_)
           refine zb hO 1 [] [(0, zqD bm0), (75, zqC (q0.regs y4)), (76, .pointer (some a262))] zqo fun j => ?_
           refine zju (T := (Ty.int .i64)) (z' := (q0.regs y4)) (off := 0) (vs := [.int .i64 (q0.regs y4)]) hO w246 (i := 1) rfl (by rw [add_zero]; rfl) i266 g261 k263 m265 rfl rfl rfl rfl (by decide) (show _ = _ from rfl) fun σ o268 w269 hO => ?_
           have hO : Obs _ _ [_, _, _, _] := hO
           refine zh (zg (zK (zn ?_)))
           have hO := hO.sel [0, 1, 2] (by decide)
           exact ⟨Am0_0, cm0_0, q0.code, q0.pc, q0.regs, q0.words.length, Am0_18, cm0_18, o268, (q0.words.set (Int.toNat c251) (q0.regs y4)), Am0_19, cm0_19, q0.input, Am0_20, cm0_20, om0_20, q0.out, q0.how, q0.halting, _, zqB trivial, hO, hL, r245, w269.len, w269, r247, w248, hF⟩
         ·refine zk (congrArg Value.bool hb250) ?_
          refine ze (za hO [] [(0, zqD bm0), (3, zqD b3), (4, .pointer (some ⟨bm0, 2 + y4, none⟩)), (20, .int .u8 (p1.Kind.toNat : Int)), (77, .bool ((p1.Kind.toNat : Int) == 14))] zqq fun j => ?_)
          rcases zi hF with ⟨hb270, hF⟩ | ⟨hb270, hF⟩
          ·refine zl (congrArg Value.bool hb270) ?_
           refine zb hO 3 [3] [(0, zqD bm0), (79, zqD bm0), (81, zqC p1.N)] (And.intro (And.intro rfl rfl) zqo) fun j => ?_
           have hO := hO.sel [3, 0, 1, 2] (by decide)
           rcases z9 hF with ⟨x275, h276, hF⟩ | ⟨c271, h272, hF⟩
           ·refine zbQ (hs := [_]) (vs := [_, _, _]) hO (zkq (q0 := (⟨q0.code, q0.pc, q0.regs, q0.words, q0.input, q0.out, q0.how, q0.halting⟩ : zf)) r245 w246 r247 w248 h276) (fun _ _ _ h => False.elim h) rfl fun _ σ _ _ hO h277 h278 => ?_
            have hL := hL.trans h277
            obtain ⟨v279, v283, o286, v288, v292, o295, rfl, rfl, r282, w287, r291, w296⟩ := h278
            obtain ⟨A280, c281, rfl, -⟩ := r282.form
            obtain ⟨A284, c285, rfl, -⟩ := w287.form
            obtain ⟨A289, c290, rfl, -⟩ := r291.form
            obtain ⟨A293, c294, rfl, -⟩ := w296.form
            have hO : Obs _ _ [_, _, _, _] := hO
            injection hF with hF
            subst hF
            have hO := hO.sel [1, 2, 3] (by decide)
            exact hP _ _ _ _ hO hL ⟨_, _, _, _, _, _, rfl, rfl, r282, w287, r291, w296⟩
           ·refine zbT (hs := [_]) (vs := [_, _, _]) hO (zkq (q0 := (⟨q0.code, q0.pc, q0.regs, q0.words, q0.input, q0.out, q0.how, q0.halting⟩ : zf)) r245 w246 r247 w248 h272) (fun _ _ _ h => False.elim h) rfl fun _ σ _ _ hO h273 h274 => ?_
            have hL := hL.trans h273
            obtain ⟨v297, v301, o304, v306, v310, o313, rfl, rfl, r300, w305, r309, w314⟩ := h274
            obtain ⟨A298, c299, rfl, -⟩ := r300.form
            obtain ⟨A302, c303, rfl, -⟩ := w305.form
            obtain ⟨A307, c308, rfl, -⟩ := r309.form
            obtain ⟨A311, c312, rfl, -⟩ := w314.form
            have hO : Obs _ _ [_, _, _, _] := hO
            refine zh (zg (zK (zn ?_)))
            have hO := hO.sel [1, 2, 3] (by decide)
            exact ⟨A298, c299, c271.code, c271.pc, c271.regs, c271.words.length, A302, c303, o304, c271.words, A307, c308, c271.input, A311, c312, o313, c271.out, c271.how, c271.halting, _, zqB trivial, hO, hL, r300, w305.len, w305, r309, w314, hF⟩
          ·refine zk (congrArg Value.bool hb270) ?_
           refine ze (za hO [] [(0, zqD bm0), (4, .pointer (some ⟨bm0, 2 + y4, none⟩)), (20, .int .u8 (p1.Kind.toNat : Int)), (83, .bool ((p1.Kind.toNat : Int) == 15))] zqp fun j => ?_)
           rcases zi hF with ⟨hb315, hF⟩ | ⟨hb315, hF⟩
           ·refine zl (congrArg Value.bool hb315) ?_
            refine zb hO 2 [] [(0, zqD bm0), (85, .pointer (some ⟨bm0, 2 + y4, none⟩)), (86, zqD bm0)] zqo fun j => ?_
            have hO := hO.sel [3, 0, 1, 2] (by decide)
            rcases z9 hF with ⟨x320, h321, hF⟩ | ⟨c316, h317, hF⟩
            ·refine zbQ (hs := [_]) (vs := [_, _, _]) hO (zj6 (q0 := (⟨q0.code, q0.pc, q0.regs, q0.words, q0.input, q0.out, q0.how, q0.halting⟩ : zf)) r245 w246 r247 w248 h321) (fun _ _ _ h => False.elim h) rfl fun _ σ _ _ hO h322 h323 => ?_
             have hL := hL.trans h322
             obtain ⟨v324, v328, o331, v333, v337, o340, rfl, rfl, r327, w332, r336, w341⟩ := h323
             obtain ⟨A325, c326, rfl, -⟩ := r327.form
             obtain ⟨A329, c330, rfl, -⟩ := w332.form
             obtain ⟨A334, c335, rfl, -⟩ := r336.form
             obtain ⟨A338, c339, rfl, -⟩ := w341.form
             have hO : Obs _ _ [_, _, _, _] := hO
             injection hF with hF
             subst hF
             have hO := hO.sel [1, 2, 3] (by decide)
             exact hP _ _ _ _ hO hL ⟨_, _, _, _, _, _, rfl, rfl, r327, w332, r336, w341⟩
            ·refine zbT (hs := [_]) (vs := [_, _, _]) hO (zj6 (q0 := (⟨q0.code, q0.pc, q0.regs, q0.words, q0.input, q0.out, q0.how, q0.halting⟩ : zf)) r245 w246 r247 w248 h317) (fun _ _ _ h => False.elim h) rfl fun _ σ _ _ hO h318 h319 => ?_
             have hL := hL.trans h318
             obtain ⟨v342, v346, o349, v351, v355, o358, rfl, rfl, r345, w350, r354, w359⟩ := h319
             obtain ⟨A343, c344, rfl, -⟩ := r345.form
             obtain ⟨A347, c348, rfl, -⟩ := w350.form
             obtain ⟨A352, c353, rfl, -⟩ := r354.form
             obtain ⟨A356, c357, rfl, -⟩ := w359.form
             have hO : Obs _ _ [_, _, _, _] := hO
             refine zb hO 1 [] [(0, zqD bm0), (87, zqC c316.1), (88, .pointer (some ⟨bm0, 2 + y4, none⟩))] zqo fun j => ?_
             refine zH hO (i := 1) rfl (off := 2 + y4) rfl rfl rfl rfl (by have := (zbs g5).2.2.2; simp only [List.length_cons, List.length_nil]; omega) (cells' := [.slice A343 c316.2.code.length c344, .int .i64 c316.2.pc, .int .i64 ((zq c316.2.regs y4 c316.1) 0), .int .i64 ((zq c316.2.regs y4 c316.1) 1), .int .i64 ((zq c316.2.regs y4 c316.1) 2), .int .i64 ((zq c316.2.regs y4 c316.1) 3), .int .i64 ((zq c316.2.regs y4 c316.1) 4), .int .i64 ((zq c316.2.regs y4 c316.1) 5), .int .i64 ((zq c316.2.regs y4 c316.1) 6), .int .i64 ((zq c316.2.regs y4 c316.1) 7), .int .i64 ((zq c316.2.regs y4 c316.1) 8), .int .i64 ((zq c316.2.regs y4 c316.1) 9), .int .i64 ((zq c316.2.regs y4 c316.1) 10), .int .i64 ((zq c316.2.regs y4 c316.1) 11), .int .i64 ((zq c316.2.regs y4 c316.1) 12), .int .i64 ((zq c316.2.regs y4 c316.1) 13), .int .i64 ((zq c316.2.regs y4 c316.1) 14), .int .i64 ((zq c316.2.regs y4 c316.1) 15), .slice A347 c316.2.words.length c348, .slice A352 c316.2.input.length c353, .slice A356 c316.2.out.length c357, .int .u8 (c316.2.how.toNat : Int), .int .i64 c316.2.halting]) (zeB (f := c316.2.regs) (n := 16) (zbs g5).2.2.2 c316.1 [_, _] [_, _, _, _, _]) fun σ hO => ?_
             have hO : Obs _ _ [_, _, _, _] := hO
             refine zh (zg (zK (zn ?_)))
             have hO := hO.sel [1, 2, 3] (by decide)
             exact ⟨A343, c344, c316.2.code, c316.2.pc, (zq c316.2.regs y4 c316.1), c316.2.words.length, A347, c348, o349, c316.2.words, A352, c353, c316.2.input, A356, c357, o358, c316.2.out, c316.2.how, c316.2.halting, _, zqB trivial, hO, hL, r345, w350.len, w350, r354, w359, hF⟩
           ·refine zk (congrArg Value.bool hb315) ?_
            refine ze (za hO [] [(0, zqD bm0), (4, .pointer (some ⟨bm0, 2 + y4, none⟩)), (89, .bool ((p1.Kind.toNat : Int) == 16))] zqo fun j => ?_)
            rcases zi hF with ⟨hb360, hF⟩ | ⟨hb360, hF⟩
            ·refine zl (congrArg Value.bool hb360) ?_
             refine zbD (zb hO 7 [0] [(0, zqD bm0), (91, zqD bm0), (94, .pointer (some ⟨bm0, 20, none⟩)), (95, .slice Am0_20 q0.out.length cm0_20), (97, .pointer (some ⟨bm0, 2 + y4, none⟩))] (And.intro (And.intro rfl rfl) zqq) fun j => ?_)
             refine zdv hO (i := 0) rfl rfl (zcX (f := q0.regs) (n := 16) (zbs g5).2.2.2 [_, _] [_, _, _, _, _]) ?_
             refine zcC (zbu (T := (Ty.int .i64)) (l := ([(q0.regs y4)] : List Int)) (cs := [.int .i64 (q0.regs y4)]) hO rfl ⟨[.int .i64 (q0.regs y4)], _, rfl, rfl, rfl⟩ rfl (by decide) fun _ σ o363 w364 hO => ?_)
             obtain ⟨A361, c362, rfl, -⟩ := w364.form
             have hO : Obs _ _ [_, _, _, _, _] := hO
             refine zh (zcI ⟨(zb5 rfl (hO.val (i := 0) (off := 20) (agg := false) (n := 1) rfl rfl) rfl), trivial⟩ ?_)
             obtain ⟨_, hr369, hF⟩ := bind_some hF
             refine ziN (T := (Ty.int .i64)) (Ty.sc_flat _ _) hO w248 (i := 2) rfl rfl rfl (w364.rd hO (i := 4) rfl) hr369 (by decide) fun _ σ o367 w368 hO => ?_
             obtain ⟨A365, c366, rfl, -⟩ := w368.form
             have hO : Obs _ _ [_, _, _, _, _] := hO
             refine zb hO 2 [] [(0, zqD bm0), (100, .slice A365 (q0.out ++ ([(q0.regs y4)] : List Int)).length c366), (102, .pointer (some ⟨bm0, 20, none⟩))] zqo fun j => ?_
             refine zH hO (i := 0) rfl (off := 20) rfl rfl rfl rfl (Nat.le_of_ble_eq_true rfl) rfl fun σ hO => ?_
             have hO : Obs _ _ [_, _, _, _, _] := hO
             refine zh (zg (zK (zn ?_)))
             have hO := hO.sel [0, 1, 2] (by decide)
             exact ⟨Am0_0, cm0_0, q0.code, q0.pc, q0.regs, q0.words.length, Am0_18, cm0_18, om0_18, q0.words, Am0_19, cm0_19, q0.input, A365, c366, o367, (q0.out ++ ([(q0.regs y4)] : List Int)), q0.how, q0.halting, _, zqB trivial, hO, hL, r245, w246.len, w246, r247, w368, hF⟩
            ·refine zk (congrArg Value.bool hb360) ?_
             refine zv (zg (zK (zn ?_)))
             have hO := hO.sel [0, 1, 2] (by decide)
             exact ⟨Am0_0, cm0_0, q0.code, q0.pc, q0.regs, q0.words.length, Am0_18, cm0_18, om0_18, q0.words, Am0_19, cm0_19, q0.input, Am0_20, cm0_20, om0_20, q0.out, q0.how, q0.halting, _, zqB trivial, hO, hL, r245, w246.len, w246, r247, w248, hF⟩
 ·rintro e σ ⟨A178, c179, x180, x182, x183, k184, A185, c186, o187, x188, A191, c192, x193, A195, c196, o197, x198, x200, x201, _, hA, hO, hL, r181, hk189, w190, r194, w199, hF⟩
  rw [← zC _ _ hA]
  unfold zbi at hF
  subst hk189
  refine zg ?_
  injection hF with hF
  subst hF
  exact (hQ _ _ _ _ _ rfl hO hL ⟨_, _, _, _, _, _, rfl, rfl, r181, w190, r194, w199⟩).2
theorem zkR {τ : Hp} {q0 : zf} {bm0 : Nat} {vm0_0 : Value} {vm0_18 : Value} {om0_18 : Ob} {vm0_19 : Value} {vm0_20 : Value} {om0_20 : Ob} {p1 : zc} {p2 : Int} (rm0_0 : RdT Ty.u8 τ vm0_0 q0.code) (wm0_18 : zd (Ty.int .i64) 2 τ vm0_18 q0.words om0_18) (rm0_19 : RdT (Ty.int .i64) τ vm0_19 q0.input) (wm0_20 : zd (Ty.int .i64) 2 τ vm0_20 q0.out om0_20) {rr : Except (Value × zf) (Int × zf)} (hF : zfN q0 p1 p2 = some rr) :
  zbA Tryz.prog 32 #[.pointer (some ⟨bm0, 0, none⟩), .agg #[.int .u8 p1.Kind.toNat, .int .u8 p1.Op.toNat, .int .i64 p1.R, .int .i64 p1.S, .int .i64 p1.T, .int .i64 p1.N, .int .i64 p1.M], .int .i64 p2] τ [some (bm0, ⟨[vm0_0, .int .i64 q0.pc, .int .i64 (q0.regs 0), .int .i64 (q0.regs 1), .int .i64 (q0.regs 2), .int .i64 (q0.regs 3), .int .i64 (q0.regs 4), .int .i64 (q0.regs 5), .int .i64 (q0.regs 6), .int .i64 (q0.regs 7), .int .i64 (q0.regs 8), .int .i64 (q0.regs 9), .int .i64 (q0.regs 10), .int .i64 (q0.regs 11), .int .i64 (q0.regs 12), .int .i64 (q0.regs 13), .int .i64 (q0.regs 14), .int .i64 (q0.regs 15), vm0_18, vm0_19, vm0_20, .int .u8 q0.how.toNat, .int .i64 q0.halting], 58, 23, true⟩), om0_18, om0_20] (fun v τ' vs' => match rr with | .ok rr => ∃ (u0_0 : Value) (u0_18 : Value) (y0_18 : Ob) (u0_19 : Value) (u0_20 : Value) (y0_20 : Ob), v = .int .i64 rr.1 ∧ vs' = [some (bm0, ⟨[u0_0, .int .i64 rr.2.pc, .int .i64 (rr.2.regs 0), .int .i64 (rr.2.regs 1), .int .i64 (rr.2.regs 2), .int .i64 (rr.2.regs 3), .int .i64 (rr.2.regs 4), .int .i64 (rr.2.regs 5), .int .i64 (rr.2.regs 6), .int .i64 (rr.2.regs 7), .int .i64 (rr.2.regs 8), .int .i64 (rr.2.regs 9), .int .i64 (rr.2.regs 10), .int .i64 (rr.2.regs 11), .int .i64 (rr.2.regs 12), .int .i64 (rr.2.regs 13), .int .i64 (rr.2.regs 14), .int .i64 (rr.2.regs 15), u0_18, u0_19, u0_20, .int .u8 rr.2.how.toNat, .int .i64 rr.2.halting], 58, 23, true⟩), y0_18, y0_20] ∧ RdT Ty.u8 τ' u0_0 rr.2.code ∧ zd (Ty.int .i64) 2 τ' u0_18 rr.2.words y0_18 ∧ RdT (Ty.int .i64) τ' u0_19 rr.2.input ∧ zd (Ty.int .i64) 2 τ' u0_20 rr.2.out y0_20 | .error _ => False) (fun ch τ' vs' => match rr with | .ok _ => False | .error ee => ∃ (u0_0 : Value) (u0_18 : Value) (y0_18 : Ob) (u0_19 : Value) (u0_20 : Value) (y0_20 : Ob), ch = [{ v := ee.1, recovered := false }] ∧ vs' = [some (bm0, ⟨[u0_0, .int .i64 ee.2.pc, .int .i64 (ee.2.regs 0), .int .i64 (ee.2.regs 1), .int .i64 (ee.2.regs 2), .int .i64 (ee.2.regs 3), .int .i64 (ee.2.regs 4), .int .i64 (ee.2.regs 5), .int .i64 (ee.2.regs 6), .int .i64 (ee.2.regs 7), .int .i64 (ee.2.regs 8), .int .i64 (ee.2.regs 9), .int .i64 (ee.2.regs 10), .int .i64 (ee.2.regs 11), .int .i64 (ee.2.regs 12), .int .i64 (ee.2.regs 13), .int .i64 (ee.2.regs 14), .int .i64 (ee.2.regs 15), u0_18, u0_19, u0_20, .int .u8 ee.2.how.toNat, .int .i64 ee.2.halting], 58, 23, true⟩), y0_18, y0_20] ∧ RdT Ty.u8 τ' u0_0 ee.2.code ∧ zd (Ty.int .i64) 2 τ' u0_18 ee.2.words y0_18 ∧ RdT (Ty.int .i64) τ' u0_19 ee.2.input ∧ zd (Ty.int .i64) 2 τ' u0_20 ee.2.out y0_20) := by
 obtain ⟨Am0_0, cm0_0, rfl, -⟩ := rm0_0.form
 obtain ⟨Am0_18, cm0_18, rfl, -⟩ := wm0_18.form
 obtain ⟨Am0_19, cm0_19, rfl, -⟩ := rm0_19.form
 obtain ⟨Am0_20, cm0_20, rfl, -⟩ := wm0_20.form
 refine zcn (args := [.pointer (some ⟨bm0, 0, none⟩), .agg #[.int .u8 p1.Kind.toNat, .int .u8 p1.Op.toNat, .int .i64 p1.R, .int .i64 p1.S, .int .i64 p1.T, .int .i64 p1.N, .int .i64 p1.M], .int .i64 p2]) hm Tryz.func32 s32 rfl fun w0 σ hP hO Q hQ => ?_
 unfold zfN at hF
 have hL := Hp.le.refl τ
 show wpn _ _ a32.body _ _ _
 unfold a32
 dsimp only
 refine zba (n := 7) hO rfl rfl fun b4 σ hO => ?_
 have hO : Obs _ _ [_, _, _, _] := hO
 refine za hO [] [(0, zqD bm0), (2, zqC p2), (4, zqD b4)] zqo fun j => ?_
 refine ze (za hO [3] [(0, zqD bm0), (2, zqC p2), (4, zqD b4), (8, .int .u8 (p1.Kind.toNat : Int))] (And.intro (And.intro rfl rfl) zqp) fun j => ?_)
 refine zO (za hO [] [(0, zqD bm0), (2, zqC p2), (4, zqD b4), (8, .int .u8 (p1.Kind.toNat : Int)), (9, .bool ((p1.Kind.toNat : Int) == 10))] zqq fun j => ?_)
 refine z2 ?_
 rcases zi hF with ⟨hb5, hF⟩ | ⟨hb5, hF⟩
 ·refine zl (congrArg Value.bool hb5) ?_
  refine ze (za hO [3] [(0, zqD bm0), (6, zqC p1.N)] (And.intro (And.intro rfl rfl) zqn) fun j => ?_)
  refine zz (zJ (zE ?_))
  injection hF with hF
  subst hF
  have hO := hO.sel [0, 1, 2] (by decide)
  exact (hQ _ _ _ _ _ rfl hO hL ⟨_, _, _, _, _, _, rfl, rfl, rm0_0, wm0_18, rm0_19, wm0_20⟩).1
 ·refine zk (congrArg Value.bool hb5) ?_
  refine ze (za hO [] [(0, zqD bm0), (2, zqC p2), (4, zqD b4), (8, .int .u8 (p1.Kind.toNat : Int)), (13, .bool ((p1.Kind.toNat : Int) == 11))] zqq fun j => ?_)
  rcases zi hF with ⟨hb6, hF⟩ | ⟨hb6, hF⟩
  ·refine zl (congrArg Value.bool hb6) ?_
   refine ze (ze (zbD (zb hO 5 [3] [(0, zqD bm0), (2, zqC p2), (4, zqD b4), (17, zqC p1.R), (19, .pointer (some ⟨bm0, 2, none⟩))] (And.intro (And.intro rfl rfl) zqq) fun j => ?_)))
   obtain ⟨y7, g8, hF⟩ := bind_some hF
   refine zdY rfl rfl g8 ?_
   refine zdv hO (i := 0) rfl rfl (zcX (f := q0.regs) (n := 16) (zbs g8).2.2.2 [_, _] [_, _, _, _, _]) ?_
   refine za hO [] [(0, zqD bm0), (2, zqC p2), (4, zqD b4), (22, .bool ((q0.regs y7) == 0))] zqp fun j => ?_
   rcases zi hF with ⟨hb9, hF⟩ | ⟨hb9, hF⟩
   ·refine zl (congrArg Value.bool hb9) ?_
    refine ze (za hO [3] [(0, zqD bm0), (6, zqC p1.N)] (And.intro (And.intro rfl rfl) zqn) fun j => ?_)
    refine zz (zJ (zE ?_))
    injection hF with hF
    subst hF
    have hO := hO.sel [0, 1, 2] (by decide)
    exact (hQ _ _ _ _ _ rfl hO hL ⟨_, _, _, _, _, _, rfl, rfl, rm0_0, wm0_18, rm0_19, wm0_20⟩).1
   ·refine zk (congrArg Value.bool hb9) ?_
    refine zv (ze (za hO [] [(0, zqD bm0), (6, zqC p2)] zqn fun j => ?_))
    refine zz (zJ (zE ?_))
    injection hF with hF
    subst hF
    have hO := hO.sel [0, 1, 2] (by decide)
    exact (hQ _ _ _ _ _ rfl hO hL ⟨_, _, _, _, _, _, rfl, rfl, rm0_0, wm0_18, rm0_19, wm0_20⟩).1
  ·refine zk (congrArg Value.bool hb6) ?_
   refine ze (za hO [] [(0, zqD bm0), (2, zqC p2), (4, zqD b4), (8, .int .u8 (p1.Kind.toNat : Int)), (26, .bool ((p1.Kind.toNat : Int) == 12))] zqq fun j => ?_)
   rcases zi hF with ⟨hb10, hF⟩ | ⟨hb10, hF⟩
   ·refine zl (congrArg Value.bool hb10) ?_
    refine ze (zb hO 4 [3] [(0, zqD bm0), (28, zqD bm0), (30, zqC p1.N), (31, zqC p2)] (And.intro (And.intro rfl rfl) zqp) fun j => ?_)
    have hO := hO.sel [3, 0, 1, 2] (by decide)
    rcases z9 hF with ⟨x15, h16, hF⟩ | ⟨c11, h12, hF⟩
    ·refine zbQ (hs := [_]) (vs := [_, _, _]) hO (zj2 (q0 := (⟨q0.code, q0.pc, q0.regs, q0.words, q0.input, q0.out, q0.how, q0.halting⟩ : zf)) rm0_0 wm0_18 rm0_19 wm0_20 h16) (fun _ _ _ h => False.elim h) rfl fun _ σ _ _ hO h17 h18 => ?_
     have hL := hL.trans h17
     obtain ⟨v19, v23, o26, v28, v32, o35, rfl, rfl, r22, w27, r31, w36⟩ := h18
     obtain ⟨A20, c21, rfl, -⟩ := r22.form
     obtain ⟨A24, c25, rfl, -⟩ := w27.form
     obtain ⟨A29, c30, rfl, -⟩ := r31.form
     obtain ⟨A33, c34, rfl, -⟩ := w36.form
     have hO : Obs _ _ [_, _, _, _] := hO
     injection hF with hF
     subst hF
     have hO := hO.sel [1, 2, 3] (by decide)
     exact hP _ _ _ _ hO hL ⟨_, _, _, _, _, _, rfl, rfl, r22, w27, r31, w36⟩
    ·refine zbT (hs := [_]) (vs := [_, _, _]) hO (zj2 (q0 := (⟨q0.code, q0.pc, q0.regs, q0.words, q0.input, q0.out, q0.how, q0.halting⟩ : zf)) rm0_0 wm0_18 rm0_19 wm0_20 h12) (fun _ _ _ h => False.elim h) rfl fun _ σ _ _ hO h13 h14 => ?_
     have hL := hL.trans h13
     obtain ⟨v37, v41, o44, v46, v50, o53, rfl, rfl, r40, w45, r49, w54⟩ := h14
     obtain ⟨A38, c39, rfl, -⟩ := r40.form
     obtain ⟨A42, c43, rfl, -⟩ := w45.form
     obtain ⟨A47, c48, rfl, -⟩ := r49.form
     obtain ⟨A51, c52, rfl, -⟩ := w54.form
     have hO : Obs _ _ [_, _, _, _] := hO
     refine za hO [] [(0, zqD bm0), (6, zqC c11.1)] zqn fun j => ?_
     refine zz (zJ (zE ?_))
     injection hF with hF
     subst hF
     have hO := hO.sel [1, 2, 3] (by decide)
     exact (hQ _ _ _ _ _ rfl hO hL ⟨_, _, _, _, _, _, rfl, rfl, r40, w45, r49, w54⟩).1
   ·refine zk (congrArg Value.bool hb10) ?_
    refine ze (za hO [] [(0, zqD bm0), (2, zqC p2), (4, zqD b4), (8, .int .u8 (p1.Kind.toNat : Int)), (33, .bool ((p1.Kind.toNat : Int) == 13))] zqq fun j => ?_)
    rcases zi hF with ⟨hb55, hF⟩ | ⟨hb55, hF⟩
    ·refine zl (congrArg Value.bool hb55) ?_
     refine ze (zb hO 1 [] [(0, zqD bm0), (35, zqD bm0)] zqn fun j => ?_)
     have hO := hO.sel [3, 0, 1, 2] (by decide)
     rcases z9 hF with ⟨x60, h61, hF⟩ | ⟨c56, h57, hF⟩
     ·refine zbQ (hs := [_]) (vs := [_, _, _]) hO (zlk (q0 := (⟨q0.code, q0.pc, q0.regs, q0.words, q0.input, q0.out, q0.how, q0.halting⟩ : zf)) rm0_0 wm0_18 rm0_19 wm0_20 h61) (fun _ _ _ h => False.elim h) rfl fun _ σ _ _ hO h62 h63 => ?_
      have hL := hL.trans h62
      obtain ⟨v64, v68, o71, v73, v77, o80, rfl, rfl, r67, w72, r76, w81⟩ := h63
      obtain ⟨A65, c66, rfl, -⟩ := r67.form
      obtain ⟨A69, c70, rfl, -⟩ := w72.form
      obtain ⟨A74, c75, rfl, -⟩ := r76.form
      obtain ⟨A78, c79, rfl, -⟩ := w81.form
      have hO : Obs _ _ [_, _, _, _] := hO
      injection hF with hF
      subst hF
      have hO := hO.sel [1, 2, 3] (by decide)
      exact hP _ _ _ _ hO hL ⟨_, _, _, _, _, _, rfl, rfl, r67, w72, r76, w81⟩
     ·refine zbT (hs := [_]) (vs := [_, _, _]) hO (zlk (q0 := (⟨q0.code, q0.pc, q0.regs, q0.words, q0.input, q0.out, q0.how, q0.halting⟩ : zf)) rm0_0 wm0_18 rm0_19 wm0_20 h57) (fun _ _ _ h => False.elim h) rfl fun _ σ _ _ hO h58 h59 => ?_
      have hL := hL.trans h58
      obtain ⟨v82, v86, o89, v91, v95, o98, rfl, rfl, r85, w90, r94, w99⟩ := h59
      obtain ⟨A83, c84, rfl, -⟩ := r85.form
      obtain ⟨A87, c88, rfl, -⟩ := w90.form
      obtain ⟨A92, c93, rfl, -⟩ := r94.form
      obtain ⟨A96, c97, rfl, -⟩ := w99.form
      have hO : Obs _ _ [_, _, _, _] := hO
      refine za hO [] [(0, zqD bm0), (6, zqC c56.1)] zqn fun j => ?_
      refine zz (zJ (zE ?_))
      injection hF with hF
      subst hF
      have hO := hO.sel [1, 2, 3] (by decide)
      exact (hQ _ _ _ _ _ rfl hO hL ⟨_, _, _, _, _, _, rfl, rfl, r85, w90, r94, w99⟩).1
    ·refine zk (congrArg Value.bool hb55) ?_
     refine ze (za hO [] [(0, zqD bm0), (2, zqC p2), (4, zqD b4), (8, .int .u8 (p1.Kind.toNat : Int)), (37, .bool ((p1.Kind.toNat : Int) == 17))] zqq fun j => ?_)
     rcases zi hF with ⟨hb100, hF⟩ | ⟨hb100, hF⟩
     ·refine zl (congrArg Value.bool hb100) ?_
      refine ze (zbD (zb hO 6 [3] [(0, zqD bm0), (2, zqC p2), (4, zqD b4), (39, zqD bm0), (42, zqC p1.R), (44, .pointer (some ⟨bm0, 2, none⟩))] (And.intro (And.intro rfl rfl) zqr) fun j => ?_))
      obtain ⟨y101, g102, hF⟩ := bind_some hF
      refine zdY rfl rfl g102 ?_
      refine zdv hO (i := 0) rfl rfl (zcX (f := q0.regs) (n := 16) (zbs g102).2.2.2 [_, _] [_, _, _, _, _]) ?_
      refine zb hO 2 [] [(0, zqD bm0), (2, zqC p2), (4, zqD b4), (46, zqC (q0.regs y101)), (48, .pointer (some ⟨bm0, 22, none⟩))] zqq fun j => ?_
      refine zH hO (i := 0) rfl (off := 22) rfl rfl rfl rfl (Nat.le_of_ble_eq_true rfl) rfl fun σ hO => ?_
      have hO : Obs _ _ [_, _, _, _] := hO
      refine zh ?_
      rcases z9 hF with ⟨x107, h108, hF⟩ | ⟨c103, h104, hF⟩
      ·refine zco hO (zby h108) (fun _ _ _ h => False.elim h) rfl fun _ σ _ _ hO h109 h110 => ?_
       have hL := hL.trans h109
       have rm0_0 := rm0_0.le h109
       have wm0_18 := wm0_18.le h109
       have rm0_19 := rm0_19.le h109
       have wm0_20 := wm0_20.le h109
       obtain ⟨rfl, rfl⟩ := h110
       have hO : Obs _ _ [_, _, _, _] := hO
       injection hF with hF
       subst hF
       have hO := hO.sel [0, 1, 2] (by decide)
       exact hP _ _ _ _ hO hL ⟨_, _, _, _, _, _, rfl, rfl, rm0_0, wm0_18, rm0_19, wm0_20⟩
      ·refine zcg hO (zby h104) (fun _ _ _ h => False.elim h) rfl fun _ σ _ _ hO h105 h106 => ?_
       have hL := hL.trans h105
       have rm0_0 := rm0_0.le h105
       have wm0_18 := wm0_18.le h105
       have rm0_19 := rm0_19.le h105
       have wm0_20 := wm0_20.le h105
       obtain ⟨rfl, rfl⟩ := h106
       have hO : Obs _ _ [_, _, _, _] := hO
       refine zh (zg (zK (zn (zb hO 2 [3] [(0, zqD bm0), (2, zqC p2), (56, zqD bm0), (57, .agg #[(.int .u8 (p1.Kind.toNat : Int)), (.int .u8 (p1.Op.toNat : Int)), (.int .i64 p1.R), (.int .i64 p1.S), (.int .i64 p1.T), (.int .i64 p1.N), (.int .i64 p1.M)])] (And.intro (And.intro rfl rfl) zqp) fun j => ?_))))
       have hO := hO.sel [3, 0, 1, 2] (by decide)
       rcases z9 hF with ⟨x115, h116, hF⟩ | ⟨c111, h112, hF⟩
       ·refine zbQ (hs := [_]) (vs := [_, _, _]) hO (zd4 (q0 := (⟨q0.code, q0.pc, q0.regs, q0.words, q0.input, q0.out, q0.how, (q0.regs y101)⟩ : zf)) (p1 := (⟨p1.Kind, p1.Op, p1.R, p1.S, p1.T, p1.N, p1.M⟩ : zc)) rm0_0 wm0_18 rm0_19 wm0_20 h116) (fun _ _ _ h => False.elim h) rfl fun _ σ _ _ hO h117 h118 => ?_
        have hL := hL.trans h117
        obtain ⟨v119, v123, o126, v128, v132, o135, rfl, rfl, r122, w127, r131, w136⟩ := h118
        obtain ⟨A120, c121, rfl, -⟩ := r122.form
        obtain ⟨A124, c125, rfl, -⟩ := w127.form
        obtain ⟨A129, c130, rfl, -⟩ := r131.form
        obtain ⟨A133, c134, rfl, -⟩ := w136.form
        have hO : Obs _ _ [_, _, _, _] := hO
        injection hF with hF
        subst hF
        have hO := hO.sel [1, 2, 3] (by decide)
        exact hP _ _ _ _ hO hL ⟨_, _, _, _, _, _, rfl, rfl, r122, w127, r131, w136⟩
       ·refine zbT (hs := [_]) (vs := [_, _, _]) hO (zd4 (q0 := (⟨q0.code, q0.pc, q0.regs, q0.words, q0.input, q0.out, q0.how, (q0.regs y101)⟩ : zf)) (p1 := (⟨p1.Kind, p1.Op, p1.R, p1.S, p1.T, p1.N, p1.M⟩ : zc)) rm0_0 wm0_18 rm0_19 wm0_20 h112) (fun _ _ _ h => False.elim h) rfl fun _ σ _ _ hO h113 h114 => ?_
        have hL := hL.trans h113
        obtain ⟨v137, v141, o144, v146, v150, o153, rfl, rfl, r140, w145, r149, w154⟩ := h114
        obtain ⟨A138, c139, rfl, -⟩ := r140.form
        obtain ⟨A142, c143, rfl, -⟩ := w145.form
        obtain ⟨A147, c148, rfl, -⟩ := r149.form
        obtain ⟨A151, c152, rfl, -⟩ := w154.form
        have hO : Obs _ _ [_, _, _, _] := hO
        refine zh (za hO [] [(0, zqD bm0), (6, zqC p2)] zqn fun j => ?_)
        refine zp ?_
        injection hF with hF
        subst hF
        have hO := hO.sel [1, 2, 3] (by decide)
        exact (hQ _ _ _ _ _ rfl hO hL ⟨_, _, _, _, _, _, rfl, rfl, r140, w145, r149, w154⟩).1
     ·refine zk (congrArg Value.bool hb100) ?_
      refine ze (za hO [] [(0, zqD bm0), (2, zqC p2), (4, zqD b4), (50, .bool ((p1.Kind.toNat : Int) == 18))] zqp fun j => ?_)
      rcases zi hF with ⟨hb155, hF⟩ | ⟨hb155, hF⟩
      ·refine zl (congrArg Value.bool hb155) ?_
       refine zb hO 3 [3] [(0, zqD bm0), (2, zqC p2), (4, zqD b4), (54, .int .u8 (IntKind.u8.wrap p1.N))] (And.intro (And.intro rfl rfl) zqp) fun j => ?_
       rcases z9 hF with ⟨x160, h161, hF⟩ | ⟨c156, h157, hF⟩
       ·refine zco hO (zby h161) (fun _ _ _ h => False.elim h) rfl fun _ σ _ _ hO h162 h163 => ?_
        have hL := hL.trans h162
        have rm0_0 := rm0_0.le h162
        have wm0_18 := wm0_18.le h162
        have rm0_19 := rm0_19.le h162
        have wm0_20 := wm0_20.le h162
        obtain ⟨rfl, rfl⟩ := h163
        have hO : Obs _ _ [_, _, _, _] := hO
        injection hF with hF
        subst hF
        have hO := hO.sel [0, 1, 2] (by decide)
        exact hP _ _ _ _ hO hL ⟨_, _, _, _, _, _, rfl, rfl, rm0_0, wm0_18, rm0_19, wm0_20⟩
       ·refine zcg hO (zby h157) (fun _ _ _ h => False.elim h) rfl fun _ σ _ _ hO h158 h159 => ?_
        have hL := hL.trans h158
        have rm0_0 := rm0_0.le h158
        have wm0_18 := wm0_18.le h158
        have rm0_19 := rm0_19.le h158
        have wm0_20 := wm0_20.le h158
        obtain ⟨rfl, rfl⟩ := h159
        have hO : Obs _ _ [_, _, _, _] := hO
        refine zh (zg (zK (zn (zb hO 2 [3] [(0, zqD bm0), (2, zqC p2), (56, zqD bm0), (57, .agg #[(.int .u8 (p1.Kind.toNat : Int)), (.int .u8 (p1.Op.toNat : Int)), (.int .i64 p1.R), (.int .i64 p1.S), (.int .i64 p1.T), (.int .i64 p1.N), (.int .i64 p1.M)])] (And.intro (And.intro rfl rfl) zqp) fun j => ?_))))
        have hO := hO.sel [3, 0, 1, 2] (by decide)
        rcases z9 hF with ⟨x168, h169, hF⟩ | ⟨c164, h165, hF⟩
        ·refine zbQ (hs := [_]) (vs := [_, _, _]) hO (zd4 (q0 := (⟨q0.code, q0.pc, q0.regs, q0.words, q0.input, q0.out, q0.how, q0.halting⟩ : zf)) (p1 := (⟨p1.Kind, p1.Op, p1.R, p1.S, p1.T, p1.N, p1.M⟩ : zc)) rm0_0 wm0_18 rm0_19 wm0_20 h169) (fun _ _ _ h => False.elim h) rfl fun _ σ _ _ hO h170 h171 => ?_
         have hL := hL.trans h170
         obtain ⟨v172, v176, o179, v181, v185, o188, rfl, rfl, r175, w180, r184, w189⟩ := h171
         obtain ⟨A173, c174, rfl, -⟩ := r175.form
         obtain ⟨A177, c178, rfl, -⟩ := w180.form
         obtain ⟨A182, c183, rfl, -⟩ := r184.form
         obtain ⟨A186, c187, rfl, -⟩ := w189.form
         have hO : Obs _ _ [_, _, _, _] := hO
         injection hF with hF
         subst hF
         have hO := hO.sel [1, 2, 3] (by decide)
         exact hP _ _ _ _ hO hL ⟨_, _, _, _, _, _, rfl, rfl, r175, w180, r184, w189⟩
        ·refine zbT (hs := [_]) (vs := [_, _, _]) hO (zd4 (q0 := (⟨q0.code, q0.pc, q0.regs, q0.words, q0.input, q0.out, q0.how, q0.halting⟩ : zf)) (p1 := (⟨p1.Kind, p1.Op, p1.R, p1.S, p1.T, p1.N, p1.M⟩ : zc)) rm0_0 wm0_18 rm0_19 wm0_20 h165) (fun _ _ _ h => False.elim h) rfl fun _ σ _ _ hO h166 h167 => ?_
         have hL := hL.trans h166
         obtain ⟨v190, v194, o197, v199, v203, o206, rfl, rfl, r193, w198, r202, w207⟩ := h167
         obtain ⟨A191, c192, rfl, -⟩ := r193.form
         obtain ⟨A195, c196, rfl, -⟩ := w198.form
         obtain ⟨A200, c201, rfl, -⟩ := r202.form
         obtain ⟨A204, c205, rfl, -⟩ := w207.form
         have hO : Obs _ _ [_, _, _, _] := hO
         refine zh (za hO [] [(0, zqD bm0), (6, zqC p2)] zqn fun j => ?_)
         refine zp ?_
         injection hF with hF
         subst hF
         have hO := hO.sel [1, 2, 3] (by decide)
         exact (hQ _ _ _ _ _ rfl hO hL ⟨_, _, _, _, _, _, rfl, rfl, r193, w198, r202, w207⟩).1
      ·refine zk (congrArg Value.bool hb155) ?_
       refine zv (zg (zK (zn (zb hO 2 [3] [(0, zqD bm0), (2, zqC p2), (56, zqD bm0), (57, .agg #[(.int .u8 (p1.Kind.toNat : Int)), (.int .u8 (p1.Op.toNat : Int)), (.int .i64 p1.R), (.int .i64 p1.S), (.int .i64 p1.T), (.int .i64 p1.N), (.int .i64 p1.M)])] (And.intro (And.intro rfl rfl) zqp) fun j => ?_))))
       have hO := hO.sel [3, 0, 1, 2] (by decide)
       rcases z9 hF with ⟨x212, h213, hF⟩ | ⟨c208, h209, hF⟩
       ·refine zbQ (hs := [_]) (vs := [_, _, _]) hO (zd4 (q0 := (⟨q0.code, q0.pc, q0.regs, q0.words, q0.input, q0.out, q0.how, q0.halting⟩ : zf)) (p1 := (⟨p1.Kind, p1.Op, p1.R, p1.S, p1.T, p1.N, p1.M⟩ : zc)) rm0_0 wm0_18 rm0_19 wm0_20 h213) (fun _ _ _ h => False.elim h) rfl fun _ σ _ _ hO h214 h215 => ?_
        have hL := hL.trans h214
        obtain ⟨v216, v220, o223, v225, v229, o232, rfl, rfl, r219, w224, r228, w233⟩ := h215
        obtain ⟨A217, c218, rfl, -⟩ := r219.form
        obtain ⟨A221, c222, rfl, -⟩ := w224.form
        obtain ⟨A226, c227, rfl, -⟩ := r228.form
        obtain ⟨A230, c231, rfl, -⟩ := w233.form
        have hO : Obs _ _ [_, _, _, _] := hO
        injection hF with hF
        subst hF
        have hO := hO.sel [1, 2, 3] (by decide)
        exact hP _ _ _ _ hO hL ⟨_, _, _, _, _, _, rfl, rfl, r219, w224, r228, w233⟩
       ·refine zbT (hs := [_]) (vs := [_, _, _]) hO (zd4 (q0 := (⟨q0.code, q0.pc, q0.regs, q0.words, q0.input, q0.out, q0.how, q0.halting⟩ : zf)) (p1 := (⟨p1.Kind, p1.Op, p1.R, p1.S, p1.T, p1.N, p1.M⟩ : zc)) rm0_0 wm0_18 rm0_19 wm0_20 h209) (fun _ _ _ h => False.elim h) rfl fun _ σ _ _ hO h210 h211 => ?_
        have hL := hL.trans h210
        obtain ⟨v234, v238, o241, v243, v247, o250, rfl, rfl, r237, w242, r246, w251⟩ := h211
        obtain ⟨A235, c236, rfl, -⟩ := r237.form
        obtain ⟨A239, c240, rfl, -⟩ := w242.form
        obtain ⟨A244, c245, rfl, -⟩ := r246.form
        obtain ⟨A248, c249, rfl, -⟩ := w251.form
        have hO : Obs _ _ [_, _, _, _] := hO
        refine zh (za hO [] [(0, zqD bm0), (6, zqC p2)] zqn fun j => ?_)
        refine zp ?_
        injection hF with hF
        subst hF
        have hO := hO.sel [1, 2, 3] (by decide)
        exact (hQ _ _ _ _ _ rfl hO hL ⟨_, _, _, _, _, _, rfl, rfl, r237, w242, r246, w251⟩).1
abbrev zkw (bm0 bmf1 : Nat) (rr : Except (Value × zf × UInt8) (zf × UInt8)) : List PanicEntry → Hp → List Ob → Prop := fun ch τ' vs' => match rr with | .ok _ => False | .error ee => ∃ (u0_0 : Value) (u0_18 : Value) (y0_18 : Ob) (u0_19 : Value) (u0_20 : Value) (y0_20 : Ob), ch = [{ v := ee.1, recovered := false }] ∧ vs' = [some (bm0, ⟨[u0_0, .int .i64 ee.2.1.pc, .int .i64 (ee.2.1.regs 0), .int .i64 (ee.2.1.regs 1), .int .i64 (ee.2.1.regs 2), .int .i64 (ee.2.1.regs 3), .int .i64 (ee.2.1.regs 4), .int .i64 (ee.2.1.regs 5), .int .i64 (ee.2.1.regs 6), .int .i64 (ee.2.1.regs 7), .int .i64 (ee.2.1.regs 8), .int .i64 (ee.2.1.regs 9), .int .i64 (ee.2.1.regs 10), .int .i64 (ee.2.1.regs 11), .int .i64 (ee.2.1.regs 12), .int .i64 (ee.2.1.regs 13), .int .i64 (ee.2.1.regs 14), .int .i64 (ee.2.1.regs 15), u0_18, u0_19, u0_20, .int .u8 ee.2.1.how.toNat, .int .i64 ee.2.1.halting], 58, 23, true⟩), y0_18, y0_20, some (bmf1, ⟨[.int .u8 ee.2.2.toNat], 5, 1, true⟩)] ∧ RdT Ty.u8 τ' u0_0 ee.2.1.code ∧ zd (Ty.int .i64) 2 τ' u0_18 ee.2.1.words y0_18 ∧ RdT (Ty.int .i64) τ' u0_19 ee.2.1.input ∧ zd (Ty.int .i64) 2 τ' u0_20 ee.2.1.out y0_20
def zig : zS := (.seq (.parT (.quiet ⟨none, (some 19), .load false 1 (.t 1)⟩
 (.quiet ⟨none, (some 20), .nilchk (.t 19)⟩
 (.quiet ⟨none, (some 21), .faddr 0 (.t 20)⟩
 (.quiet ⟨none, (some 22), .load false 1 (.t 21)⟩
 (.quiet ⟨none, (some 23), .load false 1 (.t 1)⟩
 (.quiet ⟨none, (some 24), .nilchk (.t 23)⟩
 (.quiet ⟨none, (some 25), .faddr 1 (.t 24)⟩
 (.quiet ⟨none, (some 26), .load false 1 (.t 25)⟩
 (.both (.eff ⟨none, (some 27), .call 30 [(.t 22), (.t 26)]⟩ []
 (.quiet ⟨none, (some 18), .mv (.t 27)⟩
 (.quiet ⟨none, (some 28), .ext 0 (.t 18)⟩
 (.quiet ⟨none, (some 29), .ext 1 (.t 18)⟩
 (.quiet ⟨none, (some 30), .ext 2 (.t 18)⟩
 (.eff ⟨none, (some 3), .alloc 54 [(.int .u8 0), (.int .u8 0), (.int .i64 0), (.int .i64 0), (.int .i64 0), (.int .i64 0), (.int .i64 0)]⟩ [⟨none, (some 26), .load false 1 (.t 25)⟩, ⟨none, (some 23), .load false 1 (.t 1)⟩, ⟨none, (some 22), .load false 1 (.t 21)⟩, ⟨none, (some 19), .load false 1 (.t 1)⟩]
 (.eff ⟨none, none, .store 7 (.t 3) (.t 28)⟩ []
 (.quiet ⟨none, (some 4), .mv (.t 29)⟩
 (.quiet ⟨none, (some 5), .mv (.t 30)⟩
 .done)))))))))
 (.eff ⟨none, (some 3), .alloc 54 [(.int .u8 0), (.int .u8 0), (.int .i64 0), (.int .i64 0), (.int .i64 0), (.int .i64 0), (.int .i64 0)]⟩ [⟨none, (some 26), .load false 1 (.t 25)⟩, ⟨none, (some 23), .load false 1 (.t 1)⟩, ⟨none, (some 22), .load false 1 (.t 21)⟩, ⟨none, (some 19), .load false 1 (.t 1)⟩]
 (.eff ⟨none, (some 27), .call 30 [(.t 22), (.t 26)]⟩ []
 (.quiet ⟨none, (some 18), .mv (.t 27)⟩
 (.quiet ⟨none, (some 28), .ext 0 (.t 18)⟩
 (.quiet ⟨none, (some 29), .ext 1 (.t 18)⟩
 (.quiet ⟨none, (some 30), .ext 2 (.t 18)⟩
 (.eff ⟨none, none, .store 7 (.t 3) (.t 28)⟩ []
 (.quiet ⟨none, (some 4), .mv (.t 29)⟩
 (.quiet ⟨none, (some 5), .mv (.t 30)⟩
 .done)))))))))))))))))))
(.seq (.seq (.reg [.s ⟨(some 31), .mv (.t 5), []⟩,
 .s ⟨(some 32), .bin .neq (.t 31) (.c (.int .i64 0)), []⟩])
(.cond (.t 32) (.reg [.s ⟨(some 33), .call 31 [(.c (.int .u8 5))], []⟩])
.skip))
(.seq (.par [.s ⟨(some 34), .load false 1 (.t 1), []⟩,
 .s ⟨(some 35), .load false 1 (.t 1), []⟩,
 .s ⟨(some 36), .load true 7 (.t 3), []⟩,
 .s ⟨(some 37), .mv (.t 4), []⟩,
 .s ⟨(some 38), .call 32 [(.t 35), (.t 36), (.t 37)], [⟨none, (some 34), .load false 1 (.t 1)⟩]⟩,
 .s ⟨(some 39), .nilchk (.t 34), []⟩,
 .s ⟨(some 40), .faddr 1 (.t 39), []⟩,
 .s ⟨none, .store 1 (.t 40) (.t 38), []⟩])
(.seq (.reg [.s ⟨(some 41), .load false 1 (.t 1), []⟩,
 .s ⟨(some 42), .nilchk (.t 41), []⟩,
 .s ⟨(some 43), .faddr 21 (.t 42), []⟩,
 .s ⟨(some 44), .load false 1 (.t 43), []⟩,
 .s ⟨none, .store 1 (.t 2) (.t 44), []⟩])
.ret))))
theorem zlP {τ : Hp} {q0 : zf} {bm0 : Nat} {vm0_0 : Value} {vm0_18 : Value} {om0_18 : Ob} {vm0_19 : Value} {vm0_20 : Value} {om0_20 : Ob} {af0 : Addr} {qf1 : UInt8} {bmf1 : Nat} (rm0_0 : RdT Ty.u8 τ vm0_0 q0.code) (wm0_18 : zd (Ty.int .i64) 2 τ vm0_18 q0.words om0_18) (rm0_19 : RdT (Ty.int .i64) τ vm0_19 q0.input) (wm0_20 : zd (Ty.int .i64) 2 τ vm0_20 q0.out om0_20) (mf0 : At τ af0 [.pointer (some ⟨bm0, 0, none⟩)]) {w0 : Base} {σ : Hp} {Q : Exit → Env → Hp → Prop} {e0 : Env} {rr : Except (Value × zf × UInt8) (zf × UInt8)} (hF : zgd q0 qf1 = some rr) (hP : ∀ ch σ' τ' vs', Obs τ' σ' vs' → Hp.le τ τ' → (zkw bm0 bmf1 rr) ch τ' vs' → w0.pan ch σ') (hO : Obs τ σ [some (bm0, ⟨[vm0_0, .int .i64 q0.pc, .int .i64 (q0.regs 0), .int .i64 (q0.regs 1), .int .i64 (q0.regs 2), .int .i64 (q0.regs 3), .int .i64 (q0.regs 4), .int .i64 (q0.regs 5), .int .i64 (q0.regs 6), .int .i64 (q0.regs 7), .int .i64 (q0.regs 8), .int .i64 (q0.regs 9), .int .i64 (q0.regs 10), .int .i64 (q0.regs 11), .int .i64 (q0.regs 12), .int .i64 (q0.regs 13), .int .i64 (q0.regs 14), .int .i64 (q0.regs 15), vm0_18, vm0_19, vm0_20, .int .u8 q0.how.toNat, .int .i64 q0.halting], 58, 23, true⟩), om0_18, om0_20, some (bmf1, ⟨[.int .u8 qf1.toNat], 5, 1, true⟩)]) (hQ : ∀ e σ' rs τ' vs', resvs e σ' [] = some rs → Obs τ' σ' vs' → Hp.le τ τ' → (fun v τ' vs' => match rr with | .ok rr => ∃ (u0_0 : Value) (u0_18 : Value) (y0_18 : Ob) (u0_19 : Value) (u0_20 : Value) (y0_20 : Ob), v = .tuple #[] ∧ vs' = [some (bm0, ⟨[u0_0, .int .i64 rr.1.pc, .int .i64 (rr.1.regs 0), .int .i64 (rr.1.regs 1), .int .i64 (rr.1.regs 2), .int .i64 (rr.1.regs 3), .int .i64 (rr.1.regs 4), .int .i64 (rr.1.regs 5), .int .i64 (rr.1.regs 6), .int .i64 (rr.1.regs 7), .int .i64 (rr.1.regs 8), .int .i64 (rr.1.regs 9), .int .i64 (rr.1.regs 10), .int .i64 (rr.1.regs 11), .int .i64 (rr.1.regs 12), .int .i64 (rr.1.regs 13), .int .i64 (rr.1.regs 14), .int .i64 (rr.1.regs 15), u0_18, u0_19, u0_20, .int .u8 rr.1.how.toNat, .int .i64 rr.1.halting], 58, 23, true⟩), y0_18, y0_20, some (bmf1, ⟨[.int .u8 rr.2.toNat], 5, 1, true⟩)] ∧ RdT Ty.u8 τ' u0_0 rr.1.code ∧ zd (Ty.int .i64) 2 τ' u0_18 rr.1.words y0_18 ∧ RdT (Ty.int .i64) τ' u0_19 rr.1.input ∧ zd (Ty.int .i64) 2 τ' u0_20 rr.1.out y0_20 | .error _ => False) (zbH rs) τ' vs' → Q .ret e σ' ∧ Q .normal e σ') : wpn Tryz.prog w0 zig Q (sets [(0, .pointer (some ⟨bm0, 0, none⟩)), (1, .pointer (some af0)), (2, .pointer (some ⟨bmf1, 0, none⟩))] e0) σ := by
 obtain ⟨Am0_0, cm0_0, rfl, -⟩ := rm0_0.form
 obtain ⟨Am0_18, cm0_18, rfl, -⟩ := wm0_18.form
 obtain ⟨Am0_19, cm0_19, rfl, -⟩ := rm0_19.form
 obtain ⟨Am0_20, cm0_20, rfl, -⟩ := wm0_20.form
 unfold zig
 unfold zgd at hF
 have hL := Hp.le.refl τ
 refine z8 (zZ rfl (mf0.le hO.base).fst ?_)
 refine zh (z8 (za hO [] [(0, zqD bm0), (1, .pointer (some af0)), (2, zqD bmf1), (19, zqD bm0), (20, zqD bm0)] zqq fun j => ?_))
 refine z8 (za hO [] [(0, zqD bm0), (1, .pointer (some af0)), (2, zqD bmf1), (19, zqD bm0), (21, zqD bm0)] zqq fun j => ?_)
 refine z8 (za hO [0] [(0, zqD bm0), (1, .pointer (some af0)), (2, zqD bmf1), (19, zqD bm0), (21, zqD bm0), (22, .slice Am0_0 q0.code.length cm0_0)] (And.intro (And.intro rfl rfl) zqr) fun j => ?_)
 refine z8 (zZ rfl (mf0.le hO.base).fst ?_)
 refine zh (z8 (za hO [] [(0, zqD bm0), (1, .pointer (some af0)), (2, zqD bmf1), (19, zqD bm0), (21, zqD bm0), (22, .slice Am0_0 q0.code.length cm0_0), (23, zqD bm0), (24, zqD bm0)] zqt fun j => ?_))
 refine z8 (za hO [] [(0, zqD bm0), (1, .pointer (some af0)), (2, zqD bmf1), (19, zqD bm0), (21, zqD bm0), (22, .slice Am0_0 q0.code.length cm0_0), (23, zqD bm0), (25, .pointer (some ⟨bm0, 1, none⟩))] zqt fun j => ?_)
 refine z8 (za hO [0] [(0, zqD bm0), (1, .pointer (some af0)), (2, zqD bmf1), (19, zqD bm0), (21, zqD bm0), (22, .slice Am0_0 q0.code.length cm0_0), (23, zqD bm0), (25, .pointer (some ⟨bm0, 1, none⟩)), (26, zqC q0.pc)] (And.intro (And.intro rfl rfl) zqu) fun j => ?_)
 refine zbK (fun e' σ' => ∃ (b12 : Nat) (x13 : UInt8) (x14 : UInt8) (x15 : Int) (x16 : Int) (x17 : Int) (x18 : Int) (x19 : Int) (x20 : Int) (x21 : Int) (τ' : Hp), agr [(0, zqD bm0), (1, .pointer (some af0)), (2, zqD bmf1), (3, zqD b12), (4, zqC x20), (5, zqC x21)] e' ∧ Obs τ' σ' [some (bm0, ⟨[.slice Am0_0 q0.code.length cm0_0, .int .i64 q0.pc, .int .i64 (q0.regs 0), .int .i64 (q0.regs 1), .int .i64 (q0.regs 2), .int .i64 (q0.regs 3), .int .i64 (q0.regs 4), .int .i64 (q0.regs 5), .int .i64 (q0.regs 6), .int .i64 (q0.regs 7), .int .i64 (q0.regs 8), .int .i64 (q0.regs 9), .int .i64 (q0.regs 10), .int .i64 (q0.regs 11), .int .i64 (q0.regs 12), .int .i64 (q0.regs 13), .int .i64 (q0.regs 14), .int .i64 (q0.regs 15), .slice Am0_18 q0.words.length cm0_18, .slice Am0_19 q0.input.length cm0_19, .slice Am0_20 q0.out.length cm0_20, .int .u8 (q0.how.toNat : Int), .int .i64 q0.halting], 58, 23, true⟩), om0_18, om0_20, some (bmf1, ⟨[.int .u8 (qf1.toNat : Int)], 5, 1, true⟩), some (b12, ⟨[.int .u8 (x13.toNat : Int), .int .u8 (x14.toNat : Int), .int .i64 x15, .int .i64 x16, .int .i64 x17, .int .i64 x18, .int .i64 x19], 54, 7, true⟩)] ∧ Hp.le τ τ' ∧ RdT Ty.u8 τ' (.slice Am0_0 q0.code.length cm0_0) q0.code ∧ zd (Ty.int .i64) 2 τ' (.slice Am0_18 q0.words.length cm0_18) q0.words om0_18 ∧ RdT (Ty.int .i64) τ' (.slice Am0_19 q0.input.length cm0_19) q0.input ∧ zd (Ty.int .i64) 2 τ' (.slice Am0_20 q0.out.length cm0_20) q0.out om0_20 ∧ At τ' af0 [.pointer (some ⟨bm0, 0, none⟩)] ∧ zhv q0 qf1 x13 x14 x15 x16 x17 x18 x19 x20 x21 = some rr) ?_ ?_
 ·refine zkU ?_
  obtain ⟨c89, h90, hF⟩ := bind_some hF
  refine ziq ?_ ?_
  ·refine zbO (zr hO (zk6 rm0_0 h90) rfl fun _ σ _ _ hO h91 h92 => ?_)
   have hL := hL.trans h91
   have mf0 := mf0.le h91
   have rm0_0 := rm0_0.le h91
   have wm0_18 := wm0_18.le h91
   have rm0_19 := rm0_19.le h91
   have wm0_20 := wm0_20.le h91
   obtain ⟨rfl, rfl⟩ := h92
   have hO : Obs _ _ [_, _, _, _] := hO
   refine zh (z8 (za hO [] [(0, zqD bm0), (1, .pointer (some af0)), (2, zqD bmf1), (18, .tuple #[(.agg #[(.int .u8 (c89.1.Kind.toNat : Int)), (.int .u8 (c89.1.Op.toNat : Int)), (.int .i64 c89.1.R), (.int .i64 c89.1.S), (.int .i64 c89.1.T), (.int .i64 c89.1.N), (.int .i64 c89.1.M)]), (.int .i64 c89.2.1), (.int .i64 c89.2.2)]), (19, zqD bm0), (21, zqD bm0), (22, .slice Am0_0 q0.code.length cm0_0), (23, zqD bm0), (25, .pointer (some ⟨bm0, 1, none⟩)), (26, zqC q0.pc)] zqv fun j => ?_))
   refine z8 (za hO [] [(0, zqD bm0), (1, .pointer (some af0)), (2, zqD bmf1), (18, .tuple #[(.agg #[(.int .u8 (c89.1.Kind.toNat : Int)), (.int .u8 (c89.1.Op.toNat : Int)), (.int .i64 c89.1.R), (.int .i64 c89.1.S), (.int .i64 c89.1.T), (.int .i64 c89.1.N), (.int .i64 c89.1.M)]), (.int .i64 c89.2.1), (.int .i64 c89.2.2)]), (19, zqD bm0), (21, zqD bm0), (22, .slice Am0_0 q0.code.length cm0_0), (23, zqD bm0), (25, .pointer (some ⟨bm0, 1, none⟩)), (26, zqC q0.pc), (28, .agg #[(.int .u8 (c89.1.Kind.toNat : Int)), (.int .u8 (c89.1.Op.toNat : Int)), (.int .i64 c89.1.R), (.int .i64 c89.1.S), (.int .i64 c89.1.T), (.int .i64 c89.1.N), (.int .i64 c89.1.M)])] zqw fun j => ?_)
   refine z8 (za hO [] [(0, zqD bm0), (1, .pointer (some af0)), (2, zqD bmf1), (18, .tuple #[(.agg #[(.int .u8 (c89.1.Kind.toNat : Int)), (.int .u8 (c89.1.Op.toNat : Int)), (.int .i64 c89.1.R), (.int .i64 c89.1.S), (.int .i64 c89.1.T), (.int .i64 c89.1.N), (.int .i64 c89.1.M)]), (.int .i64 c89.2.1), (.int .i64 c89.2.2)]), (19, zqD bm0), (21, zqD bm0), (22, .slice Am0_0 q0.code.length cm0_0), (23, zqD bm0), (25, .pointer (some ⟨bm0, 1, none⟩)), (26, zqC q0.pc), (28, .agg #[(.int .u8 (c89.1.Kind.toNat : Int)), (.int .u8 (c89.1.Op.toNat : Int)), (.int .i64 c89.1.R), (.int .i64 c89.1.S), (.int .i64 c89.1.T), (.int .i64 c89.1.N), (.int .i64 c89.1.M)]), (29, zqC c89.2.1)] zqx fun j => ?_)
   refine z8 (za hO [] [(0, zqD bm0), (1, .pointer (some af0)), (2, zqD bmf1), (19, zqD bm0), (21, zqD bm0), (22, .slice Am0_0 q0.code.length cm0_0), (23, zqD bm0), (25, .pointer (some ⟨bm0, 1, none⟩)), (26, zqC q0.pc), (28, .agg #[(.int .u8 (c89.1.Kind.toNat : Int)), (.int .u8 (c89.1.Op.toNat : Int)), (.int .i64 c89.1.R), (.int .i64 c89.1.S), (.int .i64 c89.1.T), (.int .i64 c89.1.N), (.int .i64 c89.1.M)]), (29, zqC c89.2.1), (30, zqC c89.2.2)] zqx fun j => ?_)
   refine zbO (zcC (zbk hO fun b93 σ hO => ?_))
   have hO : Obs _ _ [_, _, _, _, _] := hO
   refine zh (zcI ⟨(zb5 rfl (hO.val (i := 0) (off := 1) (agg := false) (n := 1) rfl rfl) rfl), (zb5 rfl (mf0.le hO.base).fst rfl), (zb5 rfl (hO.val (i := 0) (off := 0) (agg := false) (n := 1) rfl rfl) rfl), (zb5 rfl (mf0.le hO.base).fst rfl), trivial⟩ ?_)
   refine zh (zbO (zH hO (i := 4) rfl (off := 0) rfl rfl rfl rfl (Nat.le_of_ble_eq_true rfl) rfl fun σ hO => ?_))
   have hO : Obs _ _ [_, _, _, _, _] := hO
   refine zh (z8 (za hO [] [(0, zqD bm0), (1, .pointer (some af0)), (2, zqD bmf1), (3, zqD b93), (4, zqC c89.2.1), (30, zqC c89.2.2)] zqr fun j => ?_))
   refine z8 (za hO [] [(0, zqD bm0), (1, .pointer (some af0)), (2, zqD bmf1), (3, zqD b93), (4, zqC c89.2.1), (5, zqC c89.2.2)] zqr fun j => ?_)
   refine zeS (zg (zn ?_))
   exact ⟨b93, c89.1.Kind, c89.1.Op, c89.1.R, c89.1.S, c89.1.T, c89.1.N, c89.1.M, c89.2.1, c89.2.2, _, zqB zqq, hO, hL, rm0_0, wm0_18, rm0_19, wm0_20, mf0, hF⟩
  ·refine zbO (zcC (zbk hO fun b93 σ hO => ?_))
   have hO : Obs _ _ [_, _, _, _, _] := hO
   refine zh (zcI ⟨(zb5 rfl (hO.val (i := 0) (off := 1) (agg := false) (n := 1) rfl rfl) rfl), (zb5 rfl (mf0.le hO.base).fst rfl), (zb5 rfl (hO.val (i := 0) (off := 0) (agg := false) (n := 1) rfl rfl) rfl), (zb5 rfl (mf0.le hO.base).fst rfl), trivial⟩ ?_)
   refine zh (zbO (zr hO (zk6 rm0_0 h90) rfl fun _ σ _ _ hO h91 h92 => ?_))
   have hL := hL.trans h91
   have mf0 := mf0.le h91
   have rm0_0 := rm0_0.le h91
   have wm0_18 := wm0_18.le h91
   have rm0_19 := rm0_19.le h91
   have wm0_20 := wm0_20.le h91
   obtain ⟨rfl, rfl⟩ := h92
   have hO : Obs _ _ [_, _, _, _, _] := hO
   refine zh (z8 (za hO [] [(0, zqD bm0), (1, .pointer (some af0)), (2, zqD bmf1), (3, zqD b93), (18, .tuple #[(.agg #[(.int .u8 (c89.1.Kind.toNat : Int)), (.int .u8 (c89.1.Op.toNat : Int)), (.int .i64 c89.1.R), (.int .i64 c89.1.S), (.int .i64 c89.1.T), (.int .i64 c89.1.N), (.int .i64 c89.1.M)]), (.int .i64 c89.2.1), (.int .i64 c89.2.2)])] zqq fun j => ?_))
   refine z8 (za hO [] [(0, zqD bm0), (1, .pointer (some af0)), (2, zqD bmf1), (3, zqD b93), (18, .tuple #[(.agg #[(.int .u8 (c89.1.Kind.toNat : Int)), (.int .u8 (c89.1.Op.toNat : Int)), (.int .i64 c89.1.R), (.int .i64 c89.1.S), (.int .i64 c89.1.T), (.int .i64 c89.1.N), (.int .i64 c89.1.M)]), (.int .i64 c89.2.1), (.int .i64 c89.2.2)]), (28, .agg #[(.int .u8 (c89.1.Kind.toNat : Int)), (.int .u8 (c89.1.Op.toNat : Int)), (.int .i64 c89.1.R), (.int .i64 c89.1.S), (.int .i64 c89.1.T), (.int .i64 c89.1.N), (.int .i64 c89.1.M)])] zqr fun j => ?_)
   refine z8 (za hO [] [(0, zqD bm0), (1, .pointer (some af0)), (2, zqD bmf1), (3, zqD b93), (18, .tuple #[(.agg #[(.int .u8 (c89.1.Kind.toNat : Int)), (.int .u8 (c89.1.Op.toNat : Int)), (.int .i64 c89.1.R), (.int .i64 c89.1.S), (.int .i64 c89.1.T), (.int .i64 c89.1.N), (.int .i64 c89.1.M)]), (.int .i64 c89.2.1), (.int .i64 c89.2.2)]), (28, .agg #[(.int .u8 (c89.1.Kind.toNat : Int)), (.int .u8 (c89.1.Op.toNat : Int)), (.int .i64 c89.1.R), (.int .i64 c89.1.S), (.int .i64 c89.1.T), (.int .i64 c89.1.N), (.int .i64 c89.1.M)]), (29, zqC c89.2.1)] zqs fun j => ?_)
   refine z8 (za hO [] [(0, zqD bm0), (1, .pointer (some af0)), (2, zqD bmf1), (3, zqD b93), (28, .agg #[(.int .u8 (c89.1.Kind.toNat : Int)), (.int .u8 (c89.1.Op.toNat : Int)), (.int .i64 c89.1.R), (.int .i64 c89.1.S), (.int .i64 c89.1.T), (.int .i64 c89.1.N), (.int .i64 c89.1.M)]), (29, zqC c89.2.1), (30, zqC c89.2.2)] zqs fun j => ?_)
   refine zbO (zH hO (i := 4) rfl (off := 0) rfl rfl rfl rfl (Nat.le_of_ble_eq_true rfl) rfl fun σ hO => ?_)
   have hO : Obs _ _ [_, _, _, _, _] := hO
   refine zh (z8 (za hO [] [(0, zqD bm0), (1, .pointer (some af0)), (2, zqD bmf1), (3, zqD b93), (4, zqC c89.2.1), (30, zqC c89.2.2)] zqr fun j => ?_))
   refine z8 (za hO [] [(0, zqD bm0), (1, .pointer (some af0)), (2, zqD bmf1), (3, zqD b93), (4, zqC c89.2.1), (5, zqC c89.2.2)] zqr fun j => ?_)
   refine zeS (zg (zn ?_))
   exact ⟨b93, c89.1.Kind, c89.1.Op, c89.1.R, c89.1.S, c89.1.T, c89.1.N, c89.1.M, c89.2.1, c89.2.2, _, zqB zqq, hO, hL, rm0_0, wm0_18, rm0_19, wm0_20, mf0, hF⟩
 ·rintro e σ ⟨b12, x13, x14, x15, x16, x17, x18, x19, x20, x21, _, hA, hO, hL, r7, w8, r9, w10, m11, hF⟩
  rw [← zC _ _ hA]
  unfold zhv at hF
  refine ze (za hO [] [(0, zqD bm0), (1, .pointer (some af0)), (2, zqD bmf1), (3, zqD b12), (4, zqC x20), (32, .bool (x21 != 0))] zqr fun j => ?_)
  refine zbK (fun e' σ' => ∃ (τ' : Hp), agr [(0, zqD bm0), (1, .pointer (some af0)), (2, zqD bmf1), (3, zqD b12), (4, zqC x20)] e' ∧ Obs τ' σ' [some (bm0, ⟨[.slice Am0_0 q0.code.length cm0_0, .int .i64 q0.pc, .int .i64 (q0.regs 0), .int .i64 (q0.regs 1), .int .i64 (q0.regs 2), .int .i64 (q0.regs 3), .int .i64 (q0.regs 4), .int .i64 (q0.regs 5), .int .i64 (q0.regs 6), .int .i64 (q0.regs 7), .int .i64 (q0.regs 8), .int .i64 (q0.regs 9), .int .i64 (q0.regs 10), .int .i64 (q0.regs 11), .int .i64 (q0.regs 12), .int .i64 (q0.regs 13), .int .i64 (q0.regs 14), .int .i64 (q0.regs 15), .slice Am0_18 q0.words.length cm0_18, .slice Am0_19 q0.input.length cm0_19, .slice Am0_20 q0.out.length cm0_20, .int .u8 (q0.how.toNat : Int), .int .i64 q0.halting], 58, 23, true⟩), om0_18, om0_20, some (bmf1, ⟨[.int .u8 (qf1.toNat : Int)], 5, 1, true⟩), some (b12, ⟨[.int .u8 (x13.toNat : Int), .int .u8 (x14.toNat : Int), .int .i64 x15, .int .i64 x16, .int .i64 x17, .int .i64 x18, .int .i64 x19], 54, 7, true⟩)] ∧ Hp.le τ τ' ∧ RdT Ty.u8 τ' (.slice Am0_0 q0.code.length cm0_0) q0.code ∧ zd (Ty.int .i64) 2 τ' (.slice Am0_18 q0.words.length cm0_18) q0.words om0_18 ∧ RdT (Ty.int .i64) τ' (.slice Am0_19 q0.input.length cm0_19) q0.input ∧ zd (Ty.int .i64) 2 τ' (.slice Am0_20 q0.out.length cm0_20) q0.out om0_20 ∧ At τ' af0 [.pointer (some ⟨bm0, 0, none⟩)] ∧ zf8 q0 qf1 x13 x14 x15 x16 x17 x18 x19 x20 = some rr) ?_ ?_
  ·refine z2 ?_
   rcases zi hF with ⟨hb80, hF⟩ | ⟨hb80, hF⟩
   ·refine zl (congrArg Value.bool hb80) ?_
    rcases z9 hF with ⟨x85, h86, hF⟩ | ⟨c81, h82, hF⟩
    ·refine zco hO (zby h86) (fun _ _ _ h => False.elim h) rfl fun _ σ _ _ hO h87 h88 => ?_
     have hL := hL.trans h87
     have m11 := m11.le h87
     have r7 := r7.le h87
     have w8 := w8.le h87
     have r9 := r9.le h87
     have w10 := w10.le h87
     obtain ⟨rfl, rfl⟩ := h88
     have hO : Obs _ _ [_, _, _, _, _] := hO
     injection hF with hF
     subst hF
     have hO := hO.sel [0, 1, 2, 3] (by decide)
     exact hP _ _ _ _ hO hL ⟨_, _, _, _, _, _, rfl, rfl, r7, w8, r9, w10⟩
    ·refine zcg hO (zby h82) (fun _ _ _ h => False.elim h) rfl fun _ σ _ _ hO h83 h84 => ?_
     have hL := hL.trans h83
     have m11 := m11.le h83
     have r7 := r7.le h83
     have w8 := w8.le h83
     have r9 := r9.le h83
     have w10 := w10.le h83
     obtain ⟨rfl, rfl⟩ := h84
     have hO : Obs _ _ [_, _, _, _, _] := hO
     refine zh (zg (zn ?_))
     exact ⟨_, zqB zqp, hO, hL, r7, w8, r9, w10, m11, hF⟩
   ·refine zk (congrArg Value.bool hb80) ?_
    refine zv (zg (zn ?_))
    exact ⟨_, zqB zqp, hO, hL, r7, w8, r9, w10, m11, hF⟩
  ·rintro e σ ⟨_, hA, hO, hL, r31, w32, r33, w34, m35, hF⟩
   rw [← zC _ _ hA]
   unfold zf8 at hF
   refine zbD (zZ rfl (m35.le hO.base).fst ?_)
   refine zZ rfl (m35.le hO.base).fst ?_
   refine zb hO 2 [4] [(0, zqD bm0), (1, .pointer (some af0)), (2, zqD bmf1), (34, zqD bm0), (35, zqD bm0), (36, .agg #[(.int .u8 (x13.toNat : Int)), (.int .u8 (x14.toNat : Int)), (.int .i64 x15), (.int .i64 x16), (.int .i64 x17), (.int .i64 x18), (.int .i64 x19)]), (37, zqC x20)] (And.intro (And.intro rfl rfl) zqs) fun j => ?_
   refine zcC ?_
   have hO := hO.sel [3, 4, 0, 1, 2] (by decide)
   rcases z9 hF with ⟨x40, h41, hF⟩ | ⟨c36, h37, hF⟩
   ·refine zbQ (hs := [_, _]) (vs := [_, _, _]) hO (zkR (q0 := (⟨q0.code, q0.pc, q0.regs, q0.words, q0.input, q0.out, q0.how, q0.halting⟩ : zf)) (p1 := (⟨x13, x14, x15, x16, x17, x18, x19⟩ : zc)) r31 w32 r33 w34 h41) (fun _ _ _ h => False.elim h) rfl fun _ σ _ _ hO h42 h43 => ?_
    have hL := hL.trans h42
    have m35 := m35.le h42
    obtain ⟨v44, v48, o51, v53, v57, o60, rfl, rfl, r47, w52, r56, w61⟩ := h43
    obtain ⟨A45, c46, rfl, -⟩ := r47.form
    obtain ⟨A49, c50, rfl, -⟩ := w52.form
    obtain ⟨A54, c55, rfl, -⟩ := r56.form
    obtain ⟨A58, c59, rfl, -⟩ := w61.form
    have hO : Obs _ _ [_, _, _, _, _] := hO
    injection hF with hF
    subst hF
    have hO := hO.sel [2, 3, 4, 0] (by decide)
    exact hP _ _ _ _ hO hL ⟨_, _, _, _, _, _, rfl, rfl, r47, w52, r56, w61⟩
   ·refine zbT (hs := [_, _]) (vs := [_, _, _]) hO (zkR (q0 := (⟨q0.code, q0.pc, q0.regs, q0.words, q0.input, q0.out, q0.how, q0.halting⟩ : zf)) (p1 := (⟨x13, x14, x15, x16, x17, x18, x19⟩ : zc)) r31 w32 r33 w34 h37) (fun _ _ _ h => False.elim h) rfl fun _ σ _ _ hO h38 h39 => ?_
    have hL := hL.trans h38
    have m35 := m35.le h38
    obtain ⟨v62, v66, o69, v71, v75, o78, rfl, rfl, r65, w70, r74, w79⟩ := h39
    obtain ⟨A63, c64, rfl, -⟩ := r65.form
    obtain ⟨A67, c68, rfl, -⟩ := w70.form
    obtain ⟨A72, c73, rfl, -⟩ := r74.form
    obtain ⟨A76, c77, rfl, -⟩ := w79.form
    have hO : Obs _ _ [_, _, _, _, _] := hO
    refine zh (zcI ⟨(zb5 rfl (m35.le hO.base).fst rfl), trivial⟩ ?_)
    refine zb hO 2 [] [(0, zqD bm0), (1, .pointer (some af0)), (2, zqD bmf1), (38, zqC c36.1), (40, .pointer (some ⟨bm0, 1, none⟩))] zqq fun j => ?_
    refine zH hO (i := 2) rfl (off := 1) rfl rfl rfl rfl (Nat.le_of_ble_eq_true rfl) rfl fun σ hO => ?_
    have hO : Obs _ _ [_, _, _, _, _] := hO
    refine zh (zZ rfl (m35.le hO.base).fst ?_)
    refine zb hO 3 [2] [(0, zqD bm0), (2, zqD bmf1), (44, .int .u8 (c36.2.how.toNat : Int))] (And.intro (And.intro rfl rfl) zqo) fun j => ?_
    refine zH hO (i := 0) rfl (off := 0) rfl rfl rfl rfl (Nat.le_of_ble_eq_true rfl) rfl fun σ hO => ?_
    have hO : Obs _ _ [_, _, _, _, _] := hO
    refine zh (zp ?_)
    injection hF with hF
    subst hF
    have hO := hO.sel [2, 3, 4, 0] (by decide)
    exact (hQ _ _ _ _ _ rfl hO hL ⟨_, _, _, _, _, _, rfl, rfl, r65, w70, r74, w79⟩).1
def zey : zS := (.seq (.seq (.reg [.s ⟨(some 6), .mv (.t 2), []⟩,
 .s ⟨(some 7), .inil false (.t 6), []⟩])
(.cond (.t 7) .ret
.skip))
(.seq (.reg [.s ⟨(some 9), .mv (.t 2), []⟩,
 .s ⟨(some 10), .tas 59 ((.int .u8 0)) (.t 9), []⟩,
 .s ⟨(some 8), .mv (.t 10), []⟩,
 .s ⟨(some 11), .ext 0 (.t 8), []⟩,
 .s ⟨(some 12), .ext 1 (.t 8), []⟩,
 .s ⟨(some 3), .mv (.t 11), []⟩,
 .s ⟨(some 4), .mv (.t 12), []⟩])
(.seq (.seq (.reg [.s ⟨(some 13), .mv (.t 4), []⟩,
 .s ⟨(some 14), .un .not (.t 13), []⟩])
(.cond (.t 14) (.reg [.s ⟨(some 15), .mv (.t 2), []⟩,
 .s ⟨none, .pan (.t 15), []⟩])
.skip))
(.reg [.s ⟨(some 16), .load false 1 (.t 0), []⟩,
 .s ⟨(some 17), .mv (.t 3), []⟩,
 .s ⟨(some 18), .mv (.t 3), []⟩,
 .s ⟨(some 19), .nilchk (.t 16), []⟩,
 .s ⟨(some 20), .faddr 21 (.t 19), []⟩,
 .s ⟨none, .store 1 (.t 20) (.t 17), []⟩,
 .s ⟨none, .store 1 (.t 1) (.t 18), []⟩]))))
theorem znM {τ : Hp} {qf0 : zf} {bmf0 : Nat} {vmf0_0 : Value} {vmf0_18 : Value} {omf0_18 : Ob} {vmf0_19 : Value} {vmf0_20 : Value} {omf0_20 : Ob} {af0 : Addr} {qf1 : UInt8} {bmf1 : Nat} {k5 : UInt8} (rmf0_0 : RdT Ty.u8 τ vmf0_0 qf0.code) (wmf0_18 : zd (Ty.int .i64) 2 τ vmf0_18 qf0.words omf0_18) (rmf0_19 : RdT (Ty.int .i64) τ vmf0_19 qf0.input) (wmf0_20 : zd (Ty.int .i64) 2 τ vmf0_20 qf0.out omf0_20) (mf0 : At τ af0 [.pointer (some ⟨bmf0, 0, none⟩)]) {w0 : Base} {σ : Hp} {Q : Exit → Env → Hp → Prop} {e0 : Env} {rr : zf × UInt8} (hF : zg8 qf0 qf1 k5 = some rr) (hO : Obs τ σ [some (bmf0, ⟨[vmf0_0, .int .i64 qf0.pc, .int .i64 (qf0.regs 0), .int .i64 (qf0.regs 1), .int .i64 (qf0.regs 2), .int .i64 (qf0.regs 3), .int .i64 (qf0.regs 4), .int .i64 (qf0.regs 5), .int .i64 (qf0.regs 6), .int .i64 (qf0.regs 7), .int .i64 (qf0.regs 8), .int .i64 (qf0.regs 9), .int .i64 (qf0.regs 10), .int .i64 (qf0.regs 11), .int .i64 (qf0.regs 12), .int .i64 (qf0.regs 13), .int .i64 (qf0.regs 14), .int .i64 (qf0.regs 15), vmf0_18, vmf0_19, vmf0_20, .int .u8 qf0.how.toNat, .int .i64 qf0.halting], 58, 23, true⟩), omf0_18, omf0_20, some (bmf1, ⟨[.int .u8 qf1.toNat], 5, 1, true⟩)]) (hQ : ∀ e σ' rs τ' vs', resvs e σ' [] = some rs → Obs τ' σ' vs' → Hp.le τ τ' → (fun v τ' vs' => ∃ (u0_0 : Value) (u0_18 : Value) (y0_18 : Ob) (u0_19 : Value) (u0_20 : Value) (y0_20 : Ob), v = .tuple #[] ∧ vs' = [some (bmf0, ⟨[u0_0, .int .i64 rr.1.pc, .int .i64 (rr.1.regs 0), .int .i64 (rr.1.regs 1), .int .i64 (rr.1.regs 2), .int .i64 (rr.1.regs 3), .int .i64 (rr.1.regs 4), .int .i64 (rr.1.regs 5), .int .i64 (rr.1.regs 6), .int .i64 (rr.1.regs 7), .int .i64 (rr.1.regs 8), .int .i64 (rr.1.regs 9), .int .i64 (rr.1.regs 10), .int .i64 (rr.1.regs 11), .int .i64 (rr.1.regs 12), .int .i64 (rr.1.regs 13), .int .i64 (rr.1.regs 14), .int .i64 (rr.1.regs 15), u0_18, u0_19, u0_20, .int .u8 rr.1.how.toNat, .int .i64 rr.1.halting], 58, 23, true⟩), y0_18, y0_20, some (bmf1, ⟨[.int .u8 rr.2.toNat], 5, 1, true⟩)] ∧ RdT Ty.u8 τ' u0_0 rr.1.code ∧ zd (Ty.int .i64) 2 τ' u0_18 rr.1.words y0_18 ∧ RdT (Ty.int .i64) τ' u0_19 rr.1.input ∧ zd (Ty.int .i64) 2 τ' u0_20 rr.1.out y0_20) (zbH rs) τ' vs' → Q .ret e σ' ∧ Q .normal e σ') : wpn Tryz.prog w0 zey Q (sets [(0, .pointer (some af0)), (1, .pointer (some ⟨bmf1, 0, none⟩)), (2, .iface 59 (.int .u8 (k5.toNat : Int)))] e0) σ := by
 obtain ⟨Amf0_0, cmf0_0, rfl, -⟩ := rmf0_0.form
 obtain ⟨Amf0_18, cmf0_18, rfl, -⟩ := wmf0_18.form
 obtain ⟨Amf0_19, cmf0_19, rfl, -⟩ := rmf0_19.form
 obtain ⟨Amf0_20, cmf0_20, rfl, -⟩ := wmf0_20.form
 unfold zey
 unfold zg8 at hF
 have hL := Hp.le.refl τ
 refine ze (za hO [] [(0, .pointer (some af0)), (1, zqD bmf1), (2, .iface 59 (.int .u8 (k5.toNat : Int))), (7, .bool false)] zqp fun j => ?_)
 refine zk rfl ?_
 refine zv (za hO [] [(0, .pointer (some af0)), (1, zqD bmf1), (2, .iface 59 (.int .u8 (k5.toNat : Int))), (3, .int .u8 (k5.toNat : Int)), (4, .bool true)] zqq fun j => ?_)
 refine ze (za hO [] [(0, .pointer (some af0)), (1, zqD bmf1), (2, .iface 59 (.int .u8 (k5.toNat : Int))), (3, .int .u8 (k5.toNat : Int)), (14, .bool false)] zqq fun j => ?_)
 refine zk rfl ?_
 refine zv (zU (zZ rfl (mf0.le hO.base).fst ?_))
 refine zb hO 4 [] [(0, .pointer (some af0)), (1, zqD bmf1), (17, .int .u8 (k5.toNat : Int)), (18, .int .u8 (k5.toNat : Int)), (20, .pointer (some ⟨bmf0, 21, none⟩))] zqq fun j => ?_
 refine zH hO (i := 0) rfl (off := 21) rfl rfl rfl rfl (Nat.le_of_ble_eq_true rfl) rfl fun σ hO => ?_
 have hO : Obs _ _ [_, _, _, _] := hO
 refine zH hO (i := 3) rfl (off := 0) rfl rfl rfl rfl (Nat.le_of_ble_eq_true rfl) rfl fun σ hO => ?_
 have hO : Obs _ _ [_, _, _, _] := hO
 refine zh (zg ?_)
 injection hF with hF
 subst hF
 exact (hQ _ _ _ _ _ rfl hO hL ⟨_, _, _, _, _, _, rfl, rfl, rmf0_0, wmf0_18, rmf0_19, wmf0_20⟩).2
def a29 : zhA := ⟨21, 5, 2, zey⟩
theorem s29 : ziA Tryz.prog Tryz.f29 = some a29.fn := by kernel_rfl
def a17 : zfa := ⟨45, [.c 2 false 1], (.pre (.reg [.s ⟨(some 1), .box 30 (.t 0), []⟩,
 .s ⟨(some 2), .alloc 5 [(.int .u8 0)], []⟩])
(.pre (.seq (.reg [.s ⟨(some 6), .load false 1 (.t 1), []⟩,
 .s ⟨(some 7), .pnil false (.t 6), []⟩])
(.cond (.t 7) (.seq (.reg [.s ⟨none, .store 1 (.t 2) (.c (.int .u8 5)), []⟩])
.ret)
.skip))
(.pre (.seq (.reg [.s ⟨(some 8), .load false 1 (.t 1), []⟩,
 .s ⟨(some 9), .nilchk (.t 8), []⟩,
 .s ⟨(some 10), .faddr 21 (.t 9), []⟩,
 .s ⟨(some 11), .load false 1 (.t 10), []⟩,
 .s ⟨(some 12), .bin .neq (.t 11) (.c (.int .u8 0)), []⟩])
(.cond (.t 12) (.seq (.reg [.s ⟨(some 13), .load false 1 (.t 1), []⟩,
 .s ⟨(some 14), .nilchk (.t 13), []⟩,
 .s ⟨(some 15), .faddr 21 (.t 14), []⟩,
 .s ⟨(some 16), .load false 1 (.t 15), []⟩,
 .s ⟨none, .store 1 (.t 2) (.t 16), []⟩])
.ret)
.skip))
(.dfr 17 29 [(.t 1), (.t 2)] zig))))⟩
theorem s17 : zhz Tryz.prog [0, 1, 2] Tryz.f17 = some a17.fn := by kernel_rfl
theorem zoT {v : Value} {k : UInt8} (h : zdg v = some k) : v = .iface 59 (.int .u8 (k.toNat : Int)) := by
 unfold zdg at h
 split at h
 ·rename_i n
  split at h
  ·rename_i hc
   injection h with h
   subst h
   have : ((UInt8.ofNat n.toNat).toNat : Int) = n := by
    rw [UInt8.toNat_ofNat']
    omega
   rw [this]
  ·cases h
 ·cases h
theorem zjc {τ : Hp} {q0 : zf} {bm0 : Nat} {vm0_0 : Value} {vm0_18 : Value} {om0_18 : Ob} {vm0_19 : Value} {vm0_20 : Value} {om0_20 : Ob} (rm0_0 : RdT Ty.u8 τ vm0_0 q0.code) (wm0_18 : zd (Ty.int .i64) 2 τ vm0_18 q0.words om0_18) (rm0_19 : RdT (Ty.int .i64) τ vm0_19 q0.input) (wm0_20 : zd (Ty.int .i64) 2 τ vm0_20 q0.out om0_20) {rr : Int × zf} (hF : zcl q0 = some rr) :
  Ctr Tryz.prog 17 #[.pointer (some ⟨bm0, 0, none⟩)] τ [some (bm0, ⟨[vm0_0, .int .i64 q0.pc, .int .i64 (q0.regs 0), .int .i64 (q0.regs 1), .int .i64 (q0.regs 2), .int .i64 (q0.regs 3), .int .i64 (q0.regs 4), .int .i64 (q0.regs 5), .int .i64 (q0.regs 6), .int .i64 (q0.regs 7), .int .i64 (q0.regs 8), .int .i64 (q0.regs 9), .int .i64 (q0.regs 10), .int .i64 (q0.regs 11), .int .i64 (q0.regs 12), .int .i64 (q0.regs 13), .int .i64 (q0.regs 14), .int .i64 (q0.regs 15), vm0_18, vm0_19, vm0_20, .int .u8 q0.how.toNat, .int .i64 q0.halting], 58, 23, true⟩), om0_18, om0_20] (fun v τ' vs' => ∃ (u0_0 : Value) (u0_18 : Value) (y0_18 : Ob) (u0_19 : Value) (u0_20 : Value) (y0_20 : Ob), v = .int .u8 rr.1 ∧ vs' = [some (bm0, ⟨[u0_0, .int .i64 rr.2.pc, .int .i64 (rr.2.regs 0), .int .i64 (rr.2.regs 1), .int .i64 (rr.2.regs 2), .int .i64 (rr.2.regs 3), .int .i64 (rr.2.regs 4), .int .i64 (rr.2.regs 5), .int .i64 (rr.2.regs 6), .int .i64 (rr.2.regs 7), .int .i64 (rr.2.regs 8), .int .i64 (rr.2.regs 9), .int .i64 (rr.2.regs 10), .int .i64 (rr.2.regs 11), .int .i64 (rr.2.regs 12), .int .i64 (rr.2.regs 13), .int .i64 (rr.2.regs 14), .int .i64 (rr.2.regs 15), u0_18, u0_19, u0_20, .int .u8 rr.2.how.toNat, .int .i64 rr.2.halting], 58, 23, true⟩), y0_18, y0_20] ∧ RdT Ty.u8 τ' u0_0 rr.2.code ∧ zd (Ty.int .i64) 2 τ' u0_18 rr.2.words y0_18 ∧ RdT (Ty.int .i64) τ' u0_19 rr.2.input ∧ zd (Ty.int .i64) 2 τ' u0_20 rr.2.out y0_20) := by
 obtain ⟨Am0_0, cm0_0, rfl, -⟩ := rm0_0.form
 obtain ⟨Am0_18, cm0_18, rfl, -⟩ := wm0_18.form
 obtain ⟨Am0_19, cm0_19, rfl, -⟩ := rm0_19.form
 obtain ⟨Am0_20, cm0_20, rfl, -⟩ := wm0_20.form
 refine zqe (J := [0, 1, 2]) (af := a17) (args := [.pointer (some ⟨bm0, 0, none⟩)]) hm Tryz.func17 s17 rfl fun w0 σ hO Q hQ => ?_
 unfold zcl at hF
 have hL := Hp.le.refl τ
 show zds _ _ _ a17.body _ _ _
 unfold a17
 dsimp only [zds]
 refine zU (zba (n := 1) hO rfl rfl fun b2 σ hO => ?_)
 have hO : Obs _ _ [_, _, _, _] := hO
 refine zbk hO fun b3 σ hO => ?_
 have hO : Obs _ _ [_, _, _, _, _] := hO
 refine zh (zg ?_)
 dsimp only [thn]
 refine za hO [3] [(0, zqD bm0), (1, zqD b2), (2, zqD b3), (7, .bool false)] (And.intro (And.intro rfl rfl) zqp) fun j => ?_
 refine z2 (zk rfl ?_)
 refine zv (zg ?_)
 dsimp only [thn]
 refine za hO [3, 0] [(0, zqD bm0), (1, zqD b2), (2, zqD b3), (12, .bool ((q0.how.toNat : Int) != 0))] (And.intro (And.intro rfl rfl) (And.intro (And.intro rfl rfl) zqp)) fun j => ?_
 refine z2 ?_
 rcases zi hF with ⟨hb4, hF⟩ | ⟨hb4, hF⟩
 ·refine zl (congrArg Value.bool hb4) ?_
  refine ze (zb hO 4 [3, 0] [(0, zqD bm0), (2, zqD b3), (16, .int .u8 (q0.how.toNat : Int))] (And.intro (And.intro rfl rfl) (And.intro (And.intro rfl rfl) zqo)) fun j => ?_)
  refine zH hO (i := 4) rfl (off := 0) rfl rfl rfl rfl (Nat.le_of_ble_eq_true rfl) rfl fun σ hO => ?_
  have hO : Obs _ _ [_, _, _, _, _] := hO
  refine zh (zz ?_)
  injection hF with hF
  subst hF
  have hV0 := hO.val (i := 4) rfl (off := 0) (agg := false) (n := 1) rfl
  have hO := hO.sel [0, 1, 2] (by decide)
  exact hQ _ _ _ _ _ (zbn rfl (hV0) rfl) hO hL ⟨_, _, _, _, _, _, rfl, rfl, rm0_0, wm0_18, rm0_19, wm0_20⟩
 ·refine zk (congrArg Value.bool hb4) ?_
  refine zv (zg ?_)
  dsimp only [thn]
  obtain ⟨τ6, h6, m6, hO⟩ := hO.shareV (i := 3) rfl
  have hO := hO.sel [0, 1, 2, 4] (by decide)
  have hL := hL.trans h6
  have rm0_0 := rm0_0.le h6
  have wm0_18 := wm0_18.le h6
  have rm0_19 := rm0_19.le h6
  have wm0_20 := wm0_20.le h6
  cases hB : zgd q0 0 with
  | none => rw [hB] at hF; cases hF
  | some r =>
   rw [hB] at hF
   cases r with
   | ok c =>
    replace hF : some ((c.2.toNat : Int), c.1) = some rr := hF
    injection hF with hF
    subst hF
    refine ⟨fun _ _ => False, fun _ _ _ h => h.elim, ?_⟩
    refine (congrArg (fun z => wpn _ _ _ _ z _) (zC [(0, zqD bm0), (1, zqD b2), (2, zqD b3)] _ ⟨rfl, rfl, rfl, trivial⟩)).mp ?_
    refine zlP rm0_0 wm0_18 rm0_19 wm0_20 m6 hB (fun _ _ _ _ _ _ h => h.elim) hO fun e σ' rs τ' vs' _ hO' hle hK => ?_
    obtain ⟨u0, u18, y18, u19, u20, y20, _, rfl, f0, f18, f19, f20⟩ := hK
    have hV0 := hO'.val (i := 3) rfl (off := 0) (agg := false) (n := 1) rfl
    have hO2 := hO'.sel [0, 1, 2] (by decide)
    have key : e 2 = .pointer (some ⟨b3, 0, none⟩) → zdn Tryz.prog w0 29 #[.pointer (some ⟨b2, 0, none⟩), .pointer (some ⟨b3, 0, none⟩)] .returning σ' fun u' σ'' => settle u' = .returning ∧ Q .ret e σ'' := fun hD => by
     refine zlf (args := [.pointer (some ⟨b2, 0, none⟩), .pointer (some ⟨b3, 0, none⟩)]) hm Tryz.func29 s29 rfl ?_
     show wpn _ _ zey _ _ _
     unfold zey
     refine ze (za hO' [] [(7, .bool true)] zqm fun j => ?_)
     refine zl rfl ?_
     refine zz ?_
     exact ⟨.inl rfl, rfl, hQ _ _ _ _ _ (zbn hD hV0 rfl) hO2 (hL.trans hle) ⟨_, _, _, _, _, _, rfl, rfl, f0, f18, f19, f20⟩⟩
    exact ⟨.inl ⟨.inl rfl, fun hD => key (hD 2 (by decide))⟩, .inl ⟨.inr rfl, fun hD => key (hD 2 (by decide))⟩⟩
   | error c =>
    replace hF : ((zdg c.1).bind fun k => (zg8 c.2.1 c.2.2 k).bind fun c => some ((c.2.toNat : Int), c.1)) = some rr := hF
    obtain ⟨k, hk, hF⟩ := bind_some hF
    obtain ⟨c', hR, hF⟩ := bind_some hF
    injection hF with hF
    subst hF
    have hk := zoT hk
    refine ⟨fun ch σ' => ∃ τ' vs', Obs τ' σ' vs' ∧ Hp.le τ6 τ' ∧ zkw bm0 b3 (.error c) ch τ' vs', fun ch e σ' hpn hD => ?_, ?_⟩
    rotate_left
    ·refine (congrArg (fun z => wpn _ _ _ _ z _) (zC [(0, zqD bm0), (1, zqD b2), (2, zqD b3)] _ ⟨rfl, rfl, rfl, trivial⟩)).mp ?_
     exact zlP rm0_0 wm0_18 rm0_19 wm0_20 m6 hB (fun ch σ' τ' vs' h1 h2 h3 => ⟨τ', vs', h1, h2, h3⟩) hO fun e σ' rs τ' vs' _ hO' hle hK => hK.elim
    ·obtain ⟨τ', vs', hO', hle, u0, u18, y18, u19, u20, y20, rfl, rfl, f0, f18, f19, f20⟩ := hpn
     refine zlf (args := [.pointer (some ⟨b2, 0, none⟩), .pointer (some ⟨b3, 0, none⟩)]) hm Tryz.func29 s29 rfl ?_
     show wpn _ _ zey _ _ _
     rw [hk]
     refine (congrArg (fun z => wpn _ _ _ _ z _) (zC [(0, zqD b2), (1, zqD b3), (2, .iface 59 (.int .u8 (k.toNat : Int)))] _ ⟨rfl, rfl, rfl, trivial⟩)).mp ?_
     refine znM f0 f18 f19 f20 (m6.le hle) hR hO' fun e2 σ2 rs2 τ2 vs2 _ hO2 hle2 hK2 => ?_
     obtain ⟨v0, v18, z18, v19, v20, z20, _, rfl, g0, g18, g19, g20⟩ := hK2
     have hV0 := hO2.val (i := 3) rfl (off := 0) (agg := false) (n := 1) rfl
     have hO3 := hO2.sel [0, 1, 2] (by decide)
     have hq := hQ _ _ _ _ _ (zbn (hD 2 (by decide)) hV0 rfl) hO3 ((hL.trans hle).trans hle2) ⟨_, _, _, _, _, _, rfl, rfl, g0, g18, g19, g20⟩
     exact ⟨⟨.inl rfl, rfl, hq⟩, .inr rfl, rfl, hq⟩
theorem zlx {τ : Hp} {q0 : zf} {bm0 : Nat} {vm0_0 : Value} {vm0_18 : Value} {om0_18 : Ob} {vm0_19 : Value} {vm0_20 : Value} {om0_20 : Ob} {p1 : Int} (rm0_0 : RdT Ty.u8 τ vm0_0 q0.code) (wm0_18 : zd (Ty.int .i64) 2 τ vm0_18 q0.words om0_18) (rm0_19 : RdT (Ty.int .i64) τ vm0_19 q0.input) (wm0_20 : zd (Ty.int .i64) 2 τ vm0_20 q0.out om0_20) {rr : Int × Int × zf} (hF : zg5 q0 p1 = some rr) :
  Ctr Tryz.prog 10 #[.pointer (some ⟨bm0, 0, none⟩), .int .i64 p1] τ [some (bm0, ⟨[vm0_0, .int .i64 q0.pc, .int .i64 (q0.regs 0), .int .i64 (q0.regs 1), .int .i64 (q0.regs 2), .int .i64 (q0.regs 3), .int .i64 (q0.regs 4), .int .i64 (q0.regs 5), .int .i64 (q0.regs 6), .int .i64 (q0.regs 7), .int .i64 (q0.regs 8), .int .i64 (q0.regs 9), .int .i64 (q0.regs 10), .int .i64 (q0.regs 11), .int .i64 (q0.regs 12), .int .i64 (q0.regs 13), .int .i64 (q0.regs 14), .int .i64 (q0.regs 15), vm0_18, vm0_19, vm0_20, .int .u8 q0.how.toNat, .int .i64 q0.halting], 58, 23, true⟩), om0_18, om0_20] (fun v τ' vs' => ∃ (u0_0 : Value) (u0_18 : Value) (y0_18 : Ob) (u0_19 : Value) (u0_20 : Value) (y0_20 : Ob), v = .tuple #[.int .u8 rr.1, .int .i64 rr.2.1] ∧ vs' = [some (bm0, ⟨[u0_0, .int .i64 rr.2.2.pc, .int .i64 (rr.2.2.regs 0), .int .i64 (rr.2.2.regs 1), .int .i64 (rr.2.2.regs 2), .int .i64 (rr.2.2.regs 3), .int .i64 (rr.2.2.regs 4), .int .i64 (rr.2.2.regs 5), .int .i64 (rr.2.2.regs 6), .int .i64 (rr.2.2.regs 7), .int .i64 (rr.2.2.regs 8), .int .i64 (rr.2.2.regs 9), .int .i64 (rr.2.2.regs 10), .int .i64 (rr.2.2.regs 11), .int .i64 (rr.2.2.regs 12), .int .i64 (rr.2.2.regs 13), .int .i64 (rr.2.2.regs 14), .int .i64 (rr.2.2.regs 15), u0_18, u0_19, u0_20, .int .u8 rr.2.2.how.toNat, .int .i64 rr.2.2.halting], 58, 23, true⟩), y0_18, y0_20] ∧ RdT Ty.u8 τ' u0_0 rr.2.2.code ∧ zd (Ty.int .i64) 2 τ' u0_18 rr.2.2.words y0_18 ∧ RdT (Ty.int .i64) τ' u0_19 rr.2.2.input ∧ zd (Ty.int .i64) 2 τ' u0_20 rr.2.2.out y0_20) := by
 obtain ⟨Am0_0, cm0_0, rfl, -⟩ := rm0_0.form
 obtain ⟨Am0_18, cm0_18, rfl, -⟩ := wm0_18.form
 obtain ⟨Am0_19, cm0_19, rfl, -⟩ := rm0_19.form
 obtain ⟨Am0_20, cm0_20, rfl, -⟩ := wm0_20.form
 refine zw (args := [.pointer (some ⟨bm0, 0, none⟩), .int .i64 p1]) hm Tryz.func10 s10 rfl fun w0 σ hO Q hQ => ?_
 unfold zg5 at hF
 have hL := Hp.le.refl τ
 show wpn _ _ a10.body _ _ _
 unfold a10
 dsimp only
 refine za hO [] [(0, zqD bm0), (1, zqC p1)] zqn fun j => ?_
 refine ze (za hO [] [(0, zqD bm0), (5, zqC (zcr 0 p1))] zqn fun j => ?_)
 refine zO (zbr (fun (n : Nat) e' σ' => ∃ (A41 : Option Addr) (c42 : Nat) (x43 : List UInt8) (x45 : Int) (x46 : (Nat → Int)) (A47 : Option Addr) (c48 : Nat) (o49 : Ob) (x50 : List Int) (A52 : Option Addr) (c53 : Nat) (x54 : List Int) (A56 : Option Addr) (c57 : Nat) (o58 : Ob) (x59 : List Int) (x61 : UInt8) (x62 : Int) (x63 : Int) (τ' : Hp), agr [(0, zqD bm0), (5, zqC x63)] e' ∧ Obs τ' σ' [some (bm0, ⟨[.slice A41 x43.length c42, .int .i64 x45, .int .i64 (x46 0), .int .i64 (x46 1), .int .i64 (x46 2), .int .i64 (x46 3), .int .i64 (x46 4), .int .i64 (x46 5), .int .i64 (x46 6), .int .i64 (x46 7), .int .i64 (x46 8), .int .i64 (x46 9), .int .i64 (x46 10), .int .i64 (x46 11), .int .i64 (x46 12), .int .i64 (x46 13), .int .i64 (x46 14), .int .i64 (x46 15), .slice A47 x50.length c48, .slice A52 x54.length c53, .slice A56 x59.length c57, .int .u8 (x61.toNat : Int), .int .i64 x62], 58, 23, true⟩), o49, o58] ∧ Hp.le τ τ' ∧ RdT Ty.u8 τ' (.slice A41 x43.length c42) x43 ∧ zd (Ty.int .i64) 2 τ' (.slice A47 x50.length c48) x50 o49 ∧ RdT (Ty.int .i64) τ' (.slice A52 x54.length c53) x54 ∧ zd (Ty.int .i64) 2 τ' (.slice A56 x59.length c57) x59 o58 ∧ zh1  n x43 x45 x46 x50 x54 x59 x61 x62 x63 = some rr) big ⟨Am0_0, cm0_0, q0.code, q0.pc, q0.regs, Am0_18, cm0_18, om0_18, q0.words, Am0_19, cm0_19, q0.input, Am0_20, cm0_20, om0_20, q0.out, q0.how, q0.halting, (zcr 0 p1), _, zqB zqm, hO, hL, rm0_0, wm0_18, rm0_19, wm0_20, hF⟩ ?_)
 clear hF hO hL
 rintro n98 e σ ⟨A41, c42, x43, x45, x46, A47, c48, o49, x50, A52, c53, x54, A56, c57, o58, x59, x61, x62, x63, _, hA, hO, hL, r44, w51, r55, w60, hF⟩
 rw [← zC _ _ hA]
 cases n98 with
 | zero => exact nomatch (show none = some rr from hF)
 | succ n98 =>
  replace hF : ziF (zh1  n98) x43 x45 x46 x50 x54 x59 x61 x62 x63 = some rr := hF
  unfold ziF at hF
  refine ze (zb hO 3 [] [(0, zqD bm0), (5, zqC x63), (10, .bool (decide (x63 > 0)))] zqo fun j => ?_)
  obtain ⟨c99, h100, hF⟩ := bind_some hF
  refine zbC 2 (fun e' σ' => ∃ (τ' : Hp), agr [(14, .bool c99), (0, zqD bm0), (5, zqC x63)] e' ∧ Obs τ' σ' [some (bm0, ⟨[.slice A41 x43.length c42, .int .i64 x45, .int .i64 (x46 0), .int .i64 (x46 1), .int .i64 (x46 2), .int .i64 (x46 3), .int .i64 (x46 4), .int .i64 (x46 5), .int .i64 (x46 6), .int .i64 (x46 7), .int .i64 (x46 8), .int .i64 (x46 9), .int .i64 (x46 10), .int .i64 (x46 11), .int .i64 (x46 12), .int .i64 (x46 13), .int .i64 (x46 14), .int .i64 (x46 15), .slice A47 x50.length c48, .slice A52 x54.length c53, .slice A56 x59.length c57, .int .u8 (x61.toNat : Int), .int .i64 x62], 58, 23, true⟩), o49, o58] ∧ Hp.le τ τ' ∧ RdT Ty.u8 τ' (.slice A41 x43.length c42) x43 ∧ zd (Ty.int .i64) 2 τ' (.slice A47 x50.length c48) x50 o49 ∧ RdT (Ty.int .i64) τ' (.slice A52 x54.length c53) x54 ∧ zd (Ty.int .i64) 2 τ' (.slice A56 x59.length c57) x59 o58) ?_ ?_
  ·have hF := h100
   rcases zi hF with ⟨hb101, hF⟩ | ⟨hb101, hF⟩
   ·refine zP (congrArg (fun x => isB (.bool x) true) hb101) ?_
    refine zb hO 1 [] [(0, zqD bm0), (5, zqC x63), (10, .bool (decide (x63 > 0))), (11, zqD bm0)] zqp fun j => ?_
    obtain ⟨c102, h103, hF⟩ := bind_some hF
    refine z6 (hs := []) (vs := [_, _, _]) hO (zhi (q0 := (⟨x43, x45, x46, x50, x54, x59, x61, x62⟩ : zf)) r44 w51 r55 w60 h103) rfl fun _ σ _ _ hO h104 h105 => ?_
    have hL := hL.trans h104
    have r44 := r44.le h104
    have w51 := w51.le h104
    have r55 := r55.le h104
    have w60 := w60.le h104
    obtain ⟨rfl, rfl⟩ := h105
    have hO : Obs _ _ [_, _, _] := hO
    refine zb hO 1 [] [(0, zqD bm0), (5, zqC x63), (10, .bool (decide (x63 > 0))), (13, .bool (c102 == 0))] zqp fun j => ?_
    refine zA (congrArg Value.bool hb101) ?_
    refine zh ?_
    injection hF with hF
    subst hF
    refine zg ?_
    exact ⟨rfl, _, zqB zqn, hO, hL, r44, w51, r55, w60⟩
   ·refine zX (congrArg (fun x => isB (.bool x) true) hb101) ?_
    refine zA (congrArg Value.bool hb101) ?_
    refine zh ?_
    injection hF with hF
    subst hF
    refine zg ?_
    exact ⟨rfl, _, zqB zqn, hO, hL, r44, w51, r55, w60⟩
  ·rintro e σ ⟨_, hA, hO, hL, r44, w51, r55, w60⟩
   rw [← zC _ _ hA]
   refine zh ?_
   rcases zi hF with ⟨hb106, hF⟩ | ⟨hb106, hF⟩
   ·refine zl (congrArg Value.bool hb106) ?_
    refine zv (zO (zU (zb hO 1 [] [(0, zqD bm0), (5, zqC x63), (17, zqD bm0)] zqo fun j => ?_)))
    obtain ⟨c107, h108, hF⟩ := bind_some hF
    refine z6 (hs := []) (vs := [_, _, _]) hO (zjc (q0 := (⟨x43, x45, x46, x50, x54, x59, x61, x62⟩ : zf)) r44 w51 r55 w60 h108) rfl fun _ σ _ _ hO h109 h110 => ?_
    have hL := hL.trans h109
    obtain ⟨v111, v115, o118, v120, v124, o127, rfl, rfl, r114, w119, r123, w128⟩ := h110
    obtain ⟨A112, c113, rfl, -⟩ := r114.form
    obtain ⟨A116, c117, rfl, -⟩ := w119.form
    obtain ⟨A121, c122, rfl, -⟩ := r123.form
    obtain ⟨A125, c126, rfl, -⟩ := w128.form
    have hO : Obs _ _ [_, _, _] := hO
    refine zh (zg (zK (zn (zU (za hO [] [(0, zqD bm0), (5, zqC (IntKind.i64.wrap (x63 - 1)))] zqn fun j => ?_)))))
    refine zg (zn ?_)
    exact ⟨n98, Nat.lt_succ_self _, A112, c113, c107.2.code, c107.2.pc, c107.2.regs, A116, c117, o118, c107.2.words, A121, c122, c107.2.input, A125, c126, o127, c107.2.out, c107.2.how, c107.2.halting, (IntKind.i64.wrap (x63 - 1)), _, zqB zqm, hO, hL, r114, w119, r123, w128, hF⟩
   ·refine zk (congrArg Value.bool hb106) ?_
    refine zbq (zbm (zbp (zn (zb hO 1 [] [(0, zqD bm0), (5, zqC x63), (19, zqD bm0)] zqo fun j => ?_))))
    obtain ⟨c129, h130, hF⟩ := bind_some hF
    refine z6 (hs := []) (vs := [_, _, _]) hO (zhi (q0 := (⟨x43, x45, x46, x50, x54, x59, x61, x62⟩ : zf)) r44 w51 r55 w60 h130) rfl fun _ σ _ _ hO h131 h132 => ?_
    have hL := hL.trans h131
    have r44 := r44.le h131
    have w51 := w51.le h131
    have r55 := r55.le h131
    have w60 := w60.le h131
    obtain ⟨rfl, rfl⟩ := h132
    have hO : Obs _ _ [_, _, _] := hO
    refine za hO [] [(0, zqD bm0), (4, .int .u8 c129), (5, zqC x63)] zqo fun j => ?_
    refine zp ?_
    injection hF with hF
    subst hF
    exact hQ _ _ _ _ _ rfl hO hL ⟨_, _, _, _, _, _, rfl, rfl, r44, w51, r55, w60⟩
theorem zi2 {τ : Hp} {q0 : zf} {bm0 : Nat} {vm0_0 : Value} {vm0_18 : Value} {om0_18 : Ob} {vm0_19 : Value} {vm0_20 : Value} {om0_20 : Ob} (rm0_0 : RdT Ty.u8 τ vm0_0 q0.code) (wm0_18 : zd (Ty.int .i64) 2 τ vm0_18 q0.words om0_18) (rm0_19 : RdT (Ty.int .i64) τ vm0_19 q0.input) (wm0_20 : zd (Ty.int .i64) 2 τ vm0_20 q0.out om0_20) {rr : (List Int)} (hF : zc3 q0 = some rr) :
  Ctr Tryz.prog 13 #[.pointer (some ⟨bm0, 0, none⟩)] τ [some (bm0, ⟨[vm0_0, .int .i64 q0.pc, .int .i64 (q0.regs 0), .int .i64 (q0.regs 1), .int .i64 (q0.regs 2), .int .i64 (q0.regs 3), .int .i64 (q0.regs 4), .int .i64 (q0.regs 5), .int .i64 (q0.regs 6), .int .i64 (q0.regs 7), .int .i64 (q0.regs 8), .int .i64 (q0.regs 9), .int .i64 (q0.regs 10), .int .i64 (q0.regs 11), .int .i64 (q0.regs 12), .int .i64 (q0.regs 13), .int .i64 (q0.regs 14), .int .i64 (q0.regs 15), vm0_18, vm0_19, vm0_20, .int .u8 q0.how.toNat, .int .i64 q0.halting], 58, 23, true⟩), om0_18, om0_20] (fun v τ' vs' => ∃ (v0 : Value) (o0 : Ob), v = v0 ∧ vs' = [o0, some (bm0, ⟨[vm0_0, .int .i64 q0.pc, .int .i64 (q0.regs 0), .int .i64 (q0.regs 1), .int .i64 (q0.regs 2), .int .i64 (q0.regs 3), .int .i64 (q0.regs 4), .int .i64 (q0.regs 5), .int .i64 (q0.regs 6), .int .i64 (q0.regs 7), .int .i64 (q0.regs 8), .int .i64 (q0.regs 9), .int .i64 (q0.regs 10), .int .i64 (q0.regs 11), .int .i64 (q0.regs 12), .int .i64 (q0.regs 13), .int .i64 (q0.regs 14), .int .i64 (q0.regs 15), vm0_18, vm0_19, vm0_20, .int .u8 q0.how.toNat, .int .i64 q0.halting], 58, 23, true⟩), om0_18, om0_20] ∧ zd (Ty.int .i64) 2 τ' v0 rr o0) := by
 obtain ⟨Am0_0, cm0_0, rfl, -⟩ := rm0_0.form
 obtain ⟨Am0_18, cm0_18, rfl, -⟩ := wm0_18.form
 obtain ⟨Am0_19, cm0_19, rfl, -⟩ := rm0_19.form
 obtain ⟨Am0_20, cm0_20, rfl, -⟩ := wm0_20.form
 refine zw (args := [.pointer (some ⟨bm0, 0, none⟩)]) hm Tryz.func13 s13 rfl fun w0 σ hO Q hQ => ?_
 unfold zc3 at hF
 have hL := Hp.le.refl τ
 show wpn _ _ a13.body _ _ _
 unfold a13
 dsimp only
 refine za hO [] [(0, zqD bm0)] zqm fun j => ?_
 refine ze (za hO [] [(0, zqD bm0), (4, .bool false)] zqn fun j => ?_)
 refine zk rfl ?_
 refine zv (zb hO 4 [0] [(0, zqD bm0), (8, .slice Am0_20 q0.out.length cm0_20)] (And.intro (And.intro rfl rfl) zqn) fun j => ?_)
 obtain ⟨c2, h3, hF⟩ := bind_some hF
 refine z6 (hs := [_, _]) (vs := [_]) hO (Ctr.lendO (zem .i64) wm0_20 fun _ r => zeu r h3) rfl fun _ σ _ _ hO h4 h5 => ?_
 have hL := hL.trans h4
 have wm0_20 := wm0_20.le h4
 have rm0_0 := rm0_0.le h4
 have wm0_18 := wm0_18.le h4
 have rm0_19 := rm0_19.le h4
 obtain ⟨v6, o7, rfl, rfl, w8⟩ := h5
 obtain ⟨A9, c10, rfl, -⟩ := w8.form
 have hO : Obs _ _ [_, _, _, _] := hO
 have hO := hO.sel [0, 1, 3, 2] (by decide)
 have hO : Obs _ _ [_, _, _, _] := hO
 refine za hO [] [(0, zqD bm0), (2, .slice A9 c2.length c10)] zqn fun j => ?_
 refine zp ?_
 injection hF with hF
 subst hF
 have hO := hO.sel [3, 0, 1, 2] (by decide)
 exact hQ _ _ _ _ _ rfl hO hL ⟨_, _, rfl, rfl, w8⟩
theorem zmt {τ : Hp} {q0 : zf} {bm0 : Nat} {vm0_0 : Value} {vm0_18 : Value} {om0_18 : Ob} {vm0_19 : Value} {vm0_20 : Value} {om0_20 : Ob} (rm0_0 : RdT Ty.u8 τ vm0_0 q0.code) (wm0_18 : zd (Ty.int .i64) 2 τ vm0_18 q0.words om0_18) (rm0_19 : RdT (Ty.int .i64) τ vm0_19 q0.input) (wm0_20 : zd (Ty.int .i64) 2 τ vm0_20 q0.out om0_20) {rr : Int × Bool} (hF : zio q0 = some rr) :
  Ctr Tryz.prog 25 #[.pointer (some ⟨bm0, 0, none⟩)] τ [some (bm0, ⟨[vm0_0, .int .i64 q0.pc, .int .i64 (q0.regs 0), .int .i64 (q0.regs 1), .int .i64 (q0.regs 2), .int .i64 (q0.regs 3), .int .i64 (q0.regs 4), .int .i64 (q0.regs 5), .int .i64 (q0.regs 6), .int .i64 (q0.regs 7), .int .i64 (q0.regs 8), .int .i64 (q0.regs 9), .int .i64 (q0.regs 10), .int .i64 (q0.regs 11), .int .i64 (q0.regs 12), .int .i64 (q0.regs 13), .int .i64 (q0.regs 14), .int .i64 (q0.regs 15), vm0_18, vm0_19, vm0_20, .int .u8 q0.how.toNat, .int .i64 q0.halting], 58, 23, true⟩), om0_18, om0_20] (fun v τ' vs' => v = .tuple #[.int .i64 rr.1, .bool rr.2] ∧ vs' = [some (bm0, ⟨[vm0_0, .int .i64 q0.pc, .int .i64 (q0.regs 0), .int .i64 (q0.regs 1), .int .i64 (q0.regs 2), .int .i64 (q0.regs 3), .int .i64 (q0.regs 4), .int .i64 (q0.regs 5), .int .i64 (q0.regs 6), .int .i64 (q0.regs 7), .int .i64 (q0.regs 8), .int .i64 (q0.regs 9), .int .i64 (q0.regs 10), .int .i64 (q0.regs 11), .int .i64 (q0.regs 12), .int .i64 (q0.regs 13), .int .i64 (q0.regs 14), .int .i64 (q0.regs 15), vm0_18, vm0_19, vm0_20, .int .u8 q0.how.toNat, .int .i64 q0.halting], 58, 23, true⟩), om0_18, om0_20]) := by
 obtain ⟨Am0_0, cm0_0, rfl, -⟩ := rm0_0.form
 obtain ⟨Am0_18, cm0_18, rfl, -⟩ := wm0_18.form
 obtain ⟨Am0_19, cm0_19, rfl, -⟩ := rm0_19.form
 obtain ⟨Am0_20, cm0_20, rfl, -⟩ := wm0_20.form
 refine zw (args := [.pointer (some ⟨bm0, 0, none⟩)]) hm Tryz.func25 s25 rfl fun w0 σ hO Q hQ => ?_
 unfold zio at hF
 have hL := Hp.le.refl τ
 show wpn _ _ a25.body _ _ _
 unfold a25
 dsimp only
 refine za hO [] [(0, zqD bm0)] zqm fun j => ?_
 refine ze (zb hO 1 [] [(0, zqD bm0), (4, zqD bm0)] zqn fun j => ?_)
 obtain ⟨c2, h3, hF⟩ := bind_some hF
 refine z6 (hs := []) (vs := [_, _, _]) hO (zhi (q0 := (⟨q0.code, q0.pc, q0.regs, q0.words, q0.input, q0.out, q0.how, q0.halting⟩ : zf)) rm0_0 wm0_18 rm0_19 wm0_20 h3) rfl fun _ σ _ _ hO h4 h5 => ?_
 have hL := hL.trans h4
 have rm0_0 := rm0_0.le h4
 have wm0_18 := wm0_18.le h4
 have rm0_19 := rm0_19.le h4
 have wm0_20 := wm0_20.le h4
 obtain ⟨rfl, rfl⟩ := h5
 have hO : Obs _ _ [_, _, _] := hO
 refine za hO [] [(0, zqD bm0), (6, .bool (c2 != 1))] zqn fun j => ?_
 rcases zi hF with ⟨hb6, hF⟩ | ⟨hb6, hF⟩
 ·refine zl (congrArg Value.bool hb6) ?_
  refine ze (za hO [] [(0, zqD bm0), (2, zqC 0), (3, .bool false)] zqo fun j => ?_)
  refine zz ?_
  injection hF with hF
  subst hF
  exact hQ _ _ _ _ _ rfl hO hL ⟨rfl, rfl⟩
 ·refine zk (congrArg Value.bool hb6) ?_
  refine zv (za hO [0] [(0, zqD bm0), (2, zqC q0.halting), (3, .bool true)] (And.intro (And.intro rfl rfl) zqo) fun j => ?_)
  refine zp ?_
  injection hF with hF
  subst hF
  exact hQ _ _ _ _ _ rfl hO hL ⟨rfl, rfl⟩
theorem zeG {τ : Hp}   {rr : Bool} (hF : zc1  = some rr) :
  Ctr Tryz.prog 7 #[] τ [] (fun v τ' vs' => v = .bool rr ∧ vs' = []) := by
 refine zw (args := []) hm Tryz.func7 s7 rfl fun w0 σ hO Q hQ => ?_
 unfold zc1 at hF
 have hL := Hp.le.refl τ
 show wpn _ _ a7.body _ _ _
 unfold a7
 dsimp only
 refine za hO [] [] (trivial) fun j => ?_
 refine zbu (T := Ty.u8) (l := ([(2 : UInt8), (1 : UInt8), (7 : UInt8), (16 : UInt8), (1 : UInt8), (17 : UInt8), (1 : UInt8)] : List UInt8)) (cs := [.int .u8 2, .int .u8 1, .int .u8 7, .int .u8 16, .int .u8 1, .int .u8 17, .int .u8 1]) hO (by kernel_rfl) ⟨[.int .u8 2], _, rfl, rfl, ⟨[.int .u8 1], _, rfl, rfl, ⟨[.int .u8 7], _, rfl, rfl, ⟨[.int .u8 16], _, rfl, rfl, ⟨[.int .u8 1], _, rfl, rfl, ⟨[.int .u8 17], _, rfl, rfl, ⟨[.int .u8 1], _, rfl, rfl, rfl⟩⟩⟩⟩⟩⟩⟩ rfl (by decide) fun _ σ o3 w4 hO => ?_
 obtain ⟨A1, c2, rfl, -⟩ := w4.form
 have hO : Obs _ _ [_] := hO
 refine za hO [] [(1, .slice A1 ([(2 : UInt8), (1 : UInt8), (7 : UInt8), (16 : UInt8), (1 : UInt8), (17 : UInt8), (1 : UInt8)] : List UInt8).length c2)] zqm fun j => ?_
 refine zb hO 1 [] [(13, .slice A1 ([(2 : UInt8), (1 : UInt8), (7 : UInt8), (16 : UInt8), (1 : UInt8), (17 : UInt8), (1 : UInt8)] : List UInt8).length c2)] zqm fun j => ?_
 obtain ⟨c5, h6, hF⟩ := bind_some hF
 refine z6 (hs := []) (vs := [_]) hO (Ctr.lendG w4 zk1 fun _ lL0 rL0 => zkC rL0 (RdT.nil (Ty.int .i64) _) h6) rfl fun _ σ _ _ hO h7 h8 => ?_
 have hL := hL.trans h7
 have w4 := w4.le h7
 rcases zlO hF with ⟨h10, hF⟩ | ⟨m9, h10, hF⟩
 ·rw [h10] at h8
  obtain ⟨_, rfl, rfl, rfl⟩ := h8
  have hO := hO.sel [0] (by decide)
  refine za hO [] [(2, .pointer none), (3, zqC c5.2)] zqn fun j => ?_
  refine ze (za hO [] [(2, .pointer none), (22, .bool ((c5.2 != 0) || true))] (And.intro (And.intro rfl rfl) (fun _ => zqB zqm)) fun j => ?_)
  rcases zi hF with ⟨hb11, hF⟩ | ⟨hb11, hF⟩
  ·refine zl (congrArg Value.bool hb11) ?_
   refine ze (za hO [] [(0, .bool false)] zqm fun j => ?_)
   refine zz ?_
   injection hF with hF
   subst hF
   have hO := hO.sel [] (by decide)
   exact hQ _ _ _ _ _ rfl hO hL ⟨rfl, rfl⟩
  ·refine zk (congrArg Value.bool hb11) ?_
   refine zv (zb hO 1 [] [(2, .pointer none), (24, .pointer none)] zqn fun j => ?_)
   exact nomatch (show none = some _ from hF)
 ·rw [h10] at h8
  obtain ⟨_, rfl, b12, v13, o16, v18, o21, v23, o26, v28, o31, rfl, rfl, w17, w22, w27, w32⟩ := h8
  obtain ⟨A14, c15, rfl, -⟩ := w17.form
  obtain ⟨A19, c20, rfl, -⟩ := w22.form
  obtain ⟨A24, c25, rfl, -⟩ := w27.form
  obtain ⟨A29, c30, rfl, -⟩ := w32.form
  have hO : Obs _ _ [_, _, _, _, _, _] := hO
  refine za hO [] [(2, zqD b12), (3, zqC c5.2)] zqn fun j => ?_
  refine ze (za hO [] [(2, zqD b12), (22, .bool ((c5.2 != 0) || false))] (And.intro (And.intro rfl rfl) (fun _ => zqB zqm)) fun j => ?_)
  rcases zi hF with ⟨hb33, hF⟩ | ⟨hb33, hF⟩
  ·refine zl (congrArg Value.bool hb33) ?_
   refine ze (za hO [] [(0, .bool false)] zqm fun j => ?_)
   refine zz ?_
   injection hF with hF
   subst hF
   have hO := hO.sel [] (by decide)
   exact hQ _ _ _ _ _ rfl hO hL ⟨rfl, rfl⟩
  ·refine zk (congrArg Value.bool hb33) ?_
   refine zv (zb hO 1 [] [(2, zqD b12), (24, zqD b12)] zqn fun j => ?_)
   obtain ⟨_, h35, r34, hO⟩ := w17.share hO (i := 2) rfl
   have hL := hL.trans h35
   have w22 := w22.le h35
   have w27 := w27.le h35
   have w32 := w32.le h35
   have hO : Obs _ _ [_, _, _, _, _, _] := hO
   obtain ⟨_, h37, r36, hO⟩ := w27.share hO (i := 4) rfl
   have hL := hL.trans h37
   have r34 := r34.le h37
   have w22 := w22.le h37
   have w32 := w32.le h37
   have hO : Obs _ _ [_, _, _, _, _, _] := hO
   obtain ⟨c38, h39, hF⟩ := bind_some hF
   have hO := hO.sel [0, 2, 4, 1, 3, 5] (by decide)
   refine z6 (hs := [_, _, _]) (vs := [_, _, _]) hO (zlx (q0 := (⟨m9.code, m9.pc, m9.regs, m9.words, m9.input, m9.out, m9.how, m9.halting⟩ : zf)) r34 w22 r36 w32 h39) rfl fun _ σ _ _ hO h40 h41 => ?_
   have hL := hL.trans h40
   obtain ⟨v42, v46, o49, v51, v55, o58, rfl, rfl, r45, w50, r54, w59⟩ := h41
   obtain ⟨A43, c44, rfl, -⟩ := r45.form
   obtain ⟨A47, c48, rfl, -⟩ := w50.form
   obtain ⟨A52, c53, rfl, -⟩ := r54.form
   obtain ⟨A56, c57, rfl, -⟩ := w59.form
   have hO : Obs _ _ [_, _, _, _, _, _] := hO
   refine za hO [] [(2, zqD b12), (4, .int .u8 c38.1), (5, zqC c38.2.1)] zqo fun j => ?_
   refine zb hO 1 [] [(2, zqD b12), (4, .int .u8 c38.1), (5, zqC c38.2.1), (29, zqD b12)] zqp fun j => ?_
   obtain ⟨c60, h61, hF⟩ := bind_some hF
   refine z6 (hs := [_, _, _]) (vs := [_, _, _]) hO (zlx (q0 := (⟨c38.2.2.code, c38.2.2.pc, c38.2.2.regs, c38.2.2.words, c38.2.2.input, c38.2.2.out, c38.2.2.how, c38.2.2.halting⟩ : zf)) r45 w50 r54 w59 h61) rfl fun _ σ _ _ hO h62 h63 => ?_
   have hL := hL.trans h62
   obtain ⟨v64, v68, o71, v73, v77, o80, rfl, rfl, r67, w72, r76, w81⟩ := h63
   obtain ⟨A65, c66, rfl, -⟩ := r67.form
   obtain ⟨A69, c70, rfl, -⟩ := w72.form
   obtain ⟨A74, c75, rfl, -⟩ := r76.form
   obtain ⟨A78, c79, rfl, -⟩ := w81.form
   have hO : Obs _ _ [_, _, _, _, _, _] := hO
   refine za hO [] [(2, zqD b12), (4, .int .u8 c38.1), (5, zqC c38.2.1), (6, .int .u8 c60.1), (7, zqC c60.2.1)] zqq fun j => ?_
   refine zb hO 1 [] [(2, zqD b12), (4, .int .u8 c38.1), (5, zqC c38.2.1), (6, .int .u8 c60.1), (7, zqC c60.2.1), (34, zqD b12)] zqr fun j => ?_
   obtain ⟨c82, h83, hF⟩ := bind_some hF
   refine z6 (hs := [_, _, _]) (vs := [_, _, _]) hO (zmt (q0 := (⟨c60.2.2.code, c60.2.2.pc, c60.2.2.regs, c60.2.2.words, c60.2.2.input, c60.2.2.out, c60.2.2.how, c60.2.2.halting⟩ : zf)) r67 w72 r76 w81 h83) rfl fun _ σ _ _ hO h84 h85 => ?_
   have hL := hL.trans h84
   have r67 := r67.le h84
   have w72 := w72.le h84
   have r76 := r76.le h84
   have w81 := w81.le h84
   obtain ⟨rfl, rfl⟩ := h85
   have hO : Obs _ _ [_, _, _, _, _, _] := hO
   refine za hO [] [(2, zqD b12), (4, .int .u8 c38.1), (5, zqC c38.2.1), (6, .int .u8 c60.1), (7, zqC c60.2.1), (8, zqC c82.1), (9, .bool c82.2)] zqs fun j => ?_
   refine zb hO 1 [] [(4, .int .u8 c38.1), (5, zqC c38.2.1), (6, .int .u8 c60.1), (7, zqC c60.2.1), (8, zqC c82.1), (9, .bool c82.2), (38, zqD b12)] zqs fun j => ?_
   obtain ⟨c86, h87, hF⟩ := bind_some hF
   refine z6 (hs := [_, _, _]) (vs := [_, _, _]) hO (zi2 (q0 := (⟨c60.2.2.code, c60.2.2.pc, c60.2.2.regs, c60.2.2.words, c60.2.2.input, c60.2.2.out, c60.2.2.how, c60.2.2.halting⟩ : zf)) r67 w72 r76 w81 h87) rfl fun _ σ _ _ hO h88 h89 => ?_
   have hL := hL.trans h88
   have r67 := r67.le h88
   have w72 := w72.le h88
   have r76 := r76.le h88
   have w81 := w81.le h88
   obtain ⟨v90, o93, rfl, rfl, w94⟩ := h89
   obtain ⟨A91, c92, rfl, -⟩ := w94.form
   have hO : Obs _ _ [_, _, _, _, _, _, _] := hO
   have hO := hO.sel [0, 1, 2, 4, 5, 6, 3] (by decide)
   have hO : Obs _ _ [_, _, _, _, _, _, _] := hO
   refine za hO [] [(4, .int .u8 c38.1), (5, zqC c38.2.1), (6, .int .u8 c60.1), (7, zqC c60.2.1), (8, zqC c82.1), (9, .bool c82.2), (10, .slice A91 c86.length c92)] zqs fun j => ?_
   refine zb hO 21 [] [(10, .slice A91 c86.length c92), (66, .bool (((((((c38.1 == 0) && (c38.2.1 == 0)) && (c60.1 == 1)) && (c60.2.1 == 4)) && c82.2) && (c82.1 == 7)) && ((c86.length : Int) == 1)))] (And.intro (And.intro rfl rfl) (fun _ => And.intro (And.intro rfl rfl) (fun _ => And.intro (And.intro rfl rfl) (fun _ => And.intro (And.intro rfl rfl) (fun _ => And.intro (And.intro rfl rfl) (fun _ => And.intro (And.intro rfl rfl) (fun _ => zqB zqm))))))) fun j => ?_
   obtain ⟨c95, h96, hF⟩ := bind_some hF
   refine zdR 2 [(71, .bool c95)] (fun Q hQ => ?_) fun j => ?_
   ·have hF := h96
    rcases zi hF with ⟨hb97, hF⟩ | ⟨hb97, hF⟩
    ·refine zP (congrArg (fun x => isB (.bool x) true) hb97) ?_
     refine zb hO 1 [] [(66, .bool (((((((c38.1 == 0) && (c38.2.1 == 0)) && (c60.1 == 1)) && (c60.2.1 == 4)) && c82.2) && (c82.1 == 7)) && ((c86.length : Int) == 1))), (67, .slice A91 c86.length c92)] zqn fun j => ?_
     obtain ⟨y98, g99, hF⟩ := bind_some hF
     refine zen (T := (Ty.int .i64)) hO w94 (i := 6) rfl rfl rfl g99 (by decide) fun zfb _ k101 m102 i103 => ?_
     have k104 := k101
     obtain rfl : _ = ([.int .i64 y98] : List Value) := k104
     refine zZ rfl m102.fst ?_
     refine zb hO 1 [] [(66, .bool (((((((c38.1 == 0) && (c38.2.1 == 0)) && (c60.1 == 1)) && (c60.2.1 == 4)) && c82.2) && (c82.1 == 7)) && ((c86.length : Int) == 1))), (70, .bool (y98 == 7))] zqn fun j => ?_
     refine zA (congrArg Value.bool hb97) ?_
     refine zh ?_
     injection hF with hF
     subst hF
     refine zg ?_
     exact hQ _ (zqB (trivial))
    ·refine zX (congrArg (fun x => isB (.bool x) true) hb97) ?_
     refine zA (congrArg Value.bool hb97) ?_
     refine zh ?_
     injection hF with hF
     subst hF
     refine zg ?_
     exact hQ _ (zqB (trivial))
   ·refine za hO [] [(0, .bool c95)] zqm fun j => ?_
    refine zp ?_
    injection hF with hF
    subst hF
    have hO := hO.sel [] (by decide)
    exact hQ _ _ _ _ _ rfl hO hL ⟨rfl, rfl⟩
theorem zkp {τ : Hp} {v0 : Value} {p0 : (List UInt8)} (r0 : RdT Ty.u8 τ v0 p0) {rr : (List UInt8)} (hF : zd9 p0 = some rr) :
  Ctr Tryz.prog 19 #[v0] τ [] (fun v τ' vs' => ∃ (v0 : Value) (o0 : Ob), v = v0 ∧ vs' = [o0] ∧ zd Ty.u8 5 τ' v0 rr o0) := by
 obtain ⟨A0, c0, rfl, -⟩ := r0.form
 refine zw (args := [.slice A0 p0.length c0]) hm Tryz.func19 s19 rfl fun w0 σ hO Q hQ => ?_
 unfold zd9 at hF
 have hL := Hp.le.refl τ
 show wpn _ _ a19.body _ _ _
 unfold a19
 dsimp only
 refine za hO [] [(0, .slice A0 p0.length c0)] zqm fun j => ?_
 refine za hO [] [(0, .slice A0 p0.length c0), (3, .slice none 0 0)] zqn fun j => ?_
 refine ze (za hO [] [(3, .slice none 0 0), (6, .slice A0 p0.length c0), (7, zqC (p0.length : Int)), (8, zqC 0)] zqp fun j => ?_)
 refine zO ?_
 have hO := hO.no
 have hO : Obs _ _ [_] := hO
 refine zbr (fun (n : Nat) e' σ' => ∃ (A15 : Option Addr) (c16 : Nat) (o17 : Ob) (x18 : List UInt8) (x21 : Int) (τ' : Hp), agr [(3, .slice A15 x18.length c16), (6, .slice A0 p0.length c0), (7, zqC (p0.length : Int)), (8, zqC x21)] e' ∧ Obs τ' σ' [o17] ∧ Hp.le τ τ' ∧ zd Ty.u8 5 τ' (.slice A15 x18.length c16) x18 o17 ∧ RdT Ty.u8 τ' (.slice A0 p0.length c0) p0 ∧ zeh p0 n x18 x21 = some rr) big ⟨none, 0, none, [], 0, _, zqB zqo, hO, hL, zd.nil _ _ _, r0, hF⟩ ?_
 clear hF hO hL
 rintro n33 e σ ⟨A15, c16, o17, x18, x21, _, hA, hO, hL, w19, r20, hF⟩
 rw [← zC _ _ hA]
 cases n33 with
 | zero => exact nomatch (show none = some rr from hF)
 | succ n33 =>
  replace hF : zdS (zeh p0 n33) p0 x18 x21 = some rr := hF
  unfold zdS at hF
  refine za hO [] [(3, .slice A15 x18.length c16), (6, .slice A0 p0.length c0), (7, zqC (p0.length : Int)), (8, zqC x21), (9, .bool (decide (x21 < (p0.length : Int))))] zqq fun j => ?_
  rcases zi hF with ⟨hb34, hF⟩ | ⟨hb34, hF⟩
  ·refine zl (congrArg Value.bool hb34) ?_
   refine zv (zO ?_)
   obtain ⟨y35, g36, hF⟩ := bind_some hF
   refine zb6 (T := Ty.u8) r20 hO.base rfl rfl g36 (by decide) fun a37 _ k38 m39 => ?_
   obtain rfl : _ = ([.int .u8 y35.toNat] : List Value) := k38
   refine zZ rfl (m39.le hO.base).fst ?_
   refine za hO [] [(3, .slice A15 x18.length c16), (5, .int .u8 (y35.toNat : Int)), (6, .slice A0 p0.length c0), (7, zqC (p0.length : Int)), (8, zqC x21)] zqq fun j => ?_
   refine zU (zb hO 2 [] [(6, .slice A0 p0.length c0), (7, zqC (p0.length : Int)), (8, zqC x21), (12, .slice A15 x18.length c16), (13, .int .u8 (y35.toNat : Int))] zqq fun j => ?_)
   obtain ⟨_, hr44, hF⟩ := bind_some hF
   refine zbI (T := Ty.u8) (y := y35) hO w19 (i := 0) rfl rfl (fun _ => rfl) rfl rfl rfl hr44 (by decide) fun u _ σ o42 w43 hO => ?_
   obtain ⟨A40, c41, rfl, -⟩ := w43.form
   have hO : Obs _ _ [_] := hO
   refine za hO [] [(3, .slice A40 (x18 ++ [y35]).length c41), (6, .slice A0 p0.length c0), (7, zqC (p0.length : Int)), (8, zqC x21)] zqp fun j => ?_
   refine zg (zK (zn (zU (za hO [] [(3, .slice A40 (x18 ++ [y35]).length c41), (6, .slice A0 p0.length c0), (7, zqC (p0.length : Int)), (8, zqC (IntKind.i64.wrap (x21 + 1)))] zqp fun j => ?_))))
   refine zg (zn ?_)
   exact ⟨n33, Nat.lt_succ_self _, A40, c41, o42, (x18 ++ [y35]), (IntKind.i64.wrap (x21 + 1)), _, zqB zqo, hO, hL, w43, r20, hF⟩
  ·refine zk (congrArg Value.bool hb34) ?_
   refine zbq (zbm (zbp (zn (za hO [] [(2, .slice A15 x18.length c16)] zqm fun j => ?_))))
   refine zp ?_
   injection hF with hF
   subst hF
   exact hQ _ _ _ _ _ rfl hO hL ⟨_, _, rfl, rfl, w19⟩
theorem zjK {τ : Hp} {p0 : Int}  {rr : ByteArray × Bool} (hF : zbg p0 = some rr) :
  Ctr Tryz.prog 36 #[.int .u8 p0] τ [] (fun v τ' vs' => v = .tuple #[.string rr.1, .bool rr.2] ∧ vs' = []) := by
 refine zw (args := [.int .u8 p0]) hm Tryz.func36 s36 rfl fun w0 σ hO Q hQ => ?_
 unfold zbg at hF
 have hL := Hp.le.refl τ
 show wpn _ _ a36.body _ _ _
 unfold a36
 dsimp only
 refine za hO [] [(0, .int .u8 p0)] zqm fun j => ?_
 refine zbu (T := Ty.str) (l := ([(⟨#[]⟩ : ByteArray), (⟨#[114, 110]⟩ : ByteArray), (⟨#[97]⟩ : ByteArray), (⟨#[111, 97, 116]⟩ : ByteArray), (⟨#[111, 97]⟩ : ByteArray), (⟨#[97, 110]⟩ : ByteArray), (⟨#[97, 110]⟩ : ByteArray), (⟨#[97, 116, 110, 109]⟩ : ByteArray), (⟨#[97, 116, 110, 109]⟩ : ByteArray), (⟨#[106]⟩ : ByteArray), (⟨#[114, 106]⟩ : ByteArray), (⟨#[106]⟩ : ByteArray), (⟨#[]⟩ : ByteArray), (⟨#[110]⟩ : ByteArray), (⟨#[114]⟩ : ByteArray), (⟨#[114]⟩ : ByteArray), (⟨#[114]⟩ : ByteArray), (⟨#[107]⟩ : ByteArray)] : List ByteArray)) (cs := [.string (⟨#[]⟩ : ByteArray), .string (⟨#[114, 110]⟩ : ByteArray), .string (⟨#[97]⟩ : ByteArray), .string (⟨#[111, 97, 116]⟩ : ByteArray), .string (⟨#[111, 97]⟩ : ByteArray), .string (⟨#[97, 110]⟩ : ByteArray), .string (⟨#[97, 110]⟩ : ByteArray), .string (⟨#[97, 116, 110, 109]⟩ : ByteArray), .string (⟨#[97, 116, 110, 109]⟩ : ByteArray), .string (⟨#[106]⟩ : ByteArray), .string (⟨#[114, 106]⟩ : ByteArray), .string (⟨#[106]⟩ : ByteArray), .string (⟨#[]⟩ : ByteArray), .string (⟨#[110]⟩ : ByteArray), .string (⟨#[114]⟩ : ByteArray), .string (⟨#[114]⟩ : ByteArray), .string (⟨#[114]⟩ : ByteArray), .string (⟨#[107]⟩ : ByteArray)]) hO (by kernel_rfl) ⟨[.string (⟨#[]⟩ : ByteArray)], _, rfl, rfl, ⟨[.string (⟨#[114, 110]⟩ : ByteArray)], _, rfl, rfl, ⟨[.string (⟨#[97]⟩ : ByteArray)], _, rfl, rfl, ⟨[.string (⟨#[111, 97, 116]⟩ : ByteArray)], _, rfl, rfl, ⟨[.string (⟨#[111, 97]⟩ : ByteArray)], _, rfl, rfl, ⟨[.string (⟨#[97, 110]⟩ : ByteArray)], _, rfl, rfl, ⟨[.string (⟨#[97, 110]⟩ : ByteArray)], _, rfl, rfl, ⟨[.string (⟨#[97, 116, 110, 109]⟩ : ByteArray)], _, rfl, rfl, ⟨[.string (⟨#[97, 116, 110, 109]⟩ : ByteArray)], _, rfl, rfl, ⟨[.string (⟨#[106]⟩ : ByteArray)], _, rfl, rfl, ⟨[.string (⟨#[114, 106]⟩ : ByteArray)], _, rfl, rfl, ⟨[.string (⟨#[106]⟩ : ByteArray)], _, rfl, rfl, ⟨[.string (⟨#[]⟩ : ByteArray)], _, rfl, rfl, ⟨[.string (⟨#[110]⟩ : ByteArray)], _, rfl, rfl, ⟨[.string (⟨#[114]⟩ : ByteArray)], _, rfl, rfl, ⟨[.string (⟨#[114]⟩ : ByteArray)], _, rfl, rfl, ⟨[.string (⟨#[114]⟩ : ByteArray)], _, rfl, rfl, ⟨[.string (⟨#[107]⟩ : ByteArray)], _, rfl, rfl, rfl⟩⟩⟩⟩⟩⟩⟩⟩⟩⟩⟩⟩⟩⟩⟩⟩⟩⟩ rfl (by decide) fun _ σ o4 w5 hO => ?_
 obtain ⟨A2, c3, rfl, -⟩ := w5.form
 have hO : Obs _ _ [_] := hO
 refine za hO [] [(0, .int .u8 p0), (4, .slice A2 ([(⟨#[]⟩ : ByteArray), (⟨#[114, 110]⟩ : ByteArray), (⟨#[97]⟩ : ByteArray), (⟨#[111, 97, 116]⟩ : ByteArray), (⟨#[111, 97]⟩ : ByteArray), (⟨#[97, 110]⟩ : ByteArray), (⟨#[97, 110]⟩ : ByteArray), (⟨#[97, 116, 110, 109]⟩ : ByteArray), (⟨#[97, 116, 110, 109]⟩ : ByteArray), (⟨#[106]⟩ : ByteArray), (⟨#[114, 106]⟩ : ByteArray), (⟨#[106]⟩ : ByteArray), (⟨#[]⟩ : ByteArray), (⟨#[110]⟩ : ByteArray), (⟨#[114]⟩ : ByteArray), (⟨#[114]⟩ : ByteArray), (⟨#[114]⟩ : ByteArray), (⟨#[107]⟩ : ByteArray)] : List ByteArray).length c3)] zqn fun j => ?_
 refine ze (za hO [] [(0, .int .u8 p0), (4, .slice A2 ([(⟨#[]⟩ : ByteArray), (⟨#[114, 110]⟩ : ByteArray), (⟨#[97]⟩ : ByteArray), (⟨#[111, 97, 116]⟩ : ByteArray), (⟨#[111, 97]⟩ : ByteArray), (⟨#[97, 110]⟩ : ByteArray), (⟨#[97, 110]⟩ : ByteArray), (⟨#[97, 116, 110, 109]⟩ : ByteArray), (⟨#[97, 116, 110, 109]⟩ : ByteArray), (⟨#[106]⟩ : ByteArray), (⟨#[114, 106]⟩ : ByteArray), (⟨#[106]⟩ : ByteArray), (⟨#[]⟩ : ByteArray), (⟨#[110]⟩ : ByteArray), (⟨#[114]⟩ : ByteArray), (⟨#[114]⟩ : ByteArray), (⟨#[114]⟩ : ByteArray), (⟨#[107]⟩ : ByteArray)] : List ByteArray).length c3), (14, .bool ((decide (p0 < 1)) || (decide ((IntKind.i64.wrap p0) > (([(⟨#[]⟩ : ByteArray), (⟨#[114, 110]⟩ : ByteArray), (⟨#[97]⟩ : ByteArray), (⟨#[111, 97, 116]⟩ : ByteArray), (⟨#[111, 97]⟩ : ByteArray), (⟨#[97, 110]⟩ : ByteArray), (⟨#[97, 110]⟩ : ByteArray), (⟨#[97, 116, 110, 109]⟩ : ByteArray), (⟨#[97, 116, 110, 109]⟩ : ByteArray), (⟨#[106]⟩ : ByteArray), (⟨#[114, 106]⟩ : ByteArray), (⟨#[106]⟩ : ByteArray), (⟨#[]⟩ : ByteArray), (⟨#[110]⟩ : ByteArray), (⟨#[114]⟩ : ByteArray), (⟨#[114]⟩ : ByteArray), (⟨#[114]⟩ : ByteArray), (⟨#[107]⟩ : ByteArray)] : List ByteArray).length : Int)))))] (And.intro (And.intro rfl rfl) (fun _ => zqB zqn)) fun j => ?_)
 rcases zi hF with ⟨hb6, hF⟩ | ⟨hb6, hF⟩
 ·refine zl (congrArg Value.bool hb6) ?_
  refine ze (za hO [] [(2, .string (⟨#[]⟩ : ByteArray)), (3, .bool false)] zqn fun j => ?_)
  refine zz ?_
  injection hF with hF
  subst hF
  have hO := hO.sel [] (by decide)
  exact hQ _ _ _ _ _ rfl hO hL ⟨rfl, rfl⟩
 ·refine zk (congrArg Value.bool hb6) ?_
  refine zv (zb hO 3 [] [(15, .slice A2 ([(⟨#[]⟩ : ByteArray), (⟨#[114, 110]⟩ : ByteArray), (⟨#[97]⟩ : ByteArray), (⟨#[111, 97, 116]⟩ : ByteArray), (⟨#[111, 97]⟩ : ByteArray), (⟨#[97, 110]⟩ : ByteArray), (⟨#[97, 110]⟩ : ByteArray), (⟨#[97, 116, 110, 109]⟩ : ByteArray), (⟨#[97, 116, 110, 109]⟩ : ByteArray), (⟨#[106]⟩ : ByteArray), (⟨#[114, 106]⟩ : ByteArray), (⟨#[106]⟩ : ByteArray), (⟨#[]⟩ : ByteArray), (⟨#[110]⟩ : ByteArray), (⟨#[114]⟩ : ByteArray), (⟨#[114]⟩ : ByteArray), (⟨#[114]⟩ : ByteArray), (⟨#[107]⟩ : ByteArray)] : List ByteArray).length c3), (17, .int .u8 (IntKind.u8.wrap (p0 - 1)))] zqn fun j => ?_)
  obtain ⟨y7, g8, hF⟩ := bind_some hF
  refine zen (T := Ty.str) hO w5 (i := 0) rfl rfl rfl g8 (by decide) fun a9 _ k10 m11 i12 => ?_
  have k13 := k10
  obtain rfl : _ = ([.string y7] : List Value) := k13
  refine zZ rfl m11.fst ?_
  refine za hO [] [(2, .string y7), (3, .bool true)] zqn fun j => ?_
  refine zp ?_
  injection hF with hF
  subst hF
  have hO := hO.sel [] (by decide)
  exact hQ _ _ _ _ _ rfl hO hL ⟨rfl, rfl⟩
theorem zhl {τ : Hp} {p0 : Int} {p1 : Bool}  {rr : Bool} (hF : zdp p0 p1 = some rr) :
  Ctr Tryz.prog 55 #[.int .i64 p0, .bool p1] τ [] (fun v τ' vs' => v = .bool rr ∧ vs' = []) := by
 refine zw (args := [.int .i64 p0, .bool p1]) hm Tryz.func55 s55 rfl fun w0 σ hO Q hQ => ?_
 unfold zdp at hF
 have hL := Hp.le.refl τ
 show wpn _ _ a55.body _ _ _
 unfold a55
 dsimp only
 refine za hO [] [(0, zqC p0), (1, .bool p1)] zqn fun j => ?_
 refine zb hO 3 [] [(0, zqC p0), (1, .bool p1), (7, .bool (p0 == 0))] zqo fun j => ?_
 obtain ⟨c3, h4, hF⟩ := bind_some hF
 refine zdR 6 [(17, .bool c3)] (fun Q hQ => ?_) fun j => ?_
 ·have hF := h4
  rcases zi hF with ⟨hb5, hF⟩ | ⟨hb5, hF⟩
  ·refine zX (congrArg (fun x => isB (.bool x) false) hb5) ?_
   refine zX rfl ?_
   refine zX (congrArg (fun x => isB (.bool x) false) hb5) ?_
   refine zX rfl ?_
   refine zX (congrArg (fun x => isB (.bool x) false) hb5) ?_
   refine zA (congrArg Value.bool hb5) ?_
   refine zh ?_
   injection hF with hF
   subst hF
   refine zg ?_
   exact hQ _ (zqB (trivial))
  ·refine zP (congrArg (fun x => isB (.bool x) false) hb5) ?_
   refine zb hO 2 [] [(0, zqC p0), (7, .bool (p0 == 0)), (9, .bool p1)] zqo fun j => ?_
   rcases zi hF with ⟨hb6, hF⟩ | ⟨hb6, hF⟩
   ·refine zP (congrArg (fun x => isB (.bool x) true) hb6) ?_
    refine zb hO 2 [] [(0, zqC p0), (7, .bool (p0 == 0)), (9, .bool p1), (11, .bool (decide (p0 > 0)))] zqp fun j => ?_
    refine zP (congrArg (fun x => isB (.bool x) false) hb5) ?_
    refine zA (congrArg Value.bool hb6) ?_
    refine zb hO 1 [] [(0, zqC p0), (7, .bool (p0 == 0)), (13, .bool (decide (p0 > 0)))] zqo fun j => ?_
    rcases zi hF with ⟨hb7, hF⟩ | ⟨hb7, hF⟩
    ·refine zP (congrArg (fun x => isB (.bool x) true) hb7) ?_
     refine zb hO 2 [] [(7, .bool (p0 == 0)), (13, .bool (decide (p0 > 0))), (15, .bool (decide (p0 < 16)))] zqo fun j => ?_
     refine zP (congrArg (fun x => isB (.bool x) false) hb5) ?_
     refine zA (congrArg Value.bool hb7) ?_
     refine zA (congrArg Value.bool hb5) ?_
     refine zh ?_
     injection hF with hF
     subst hF
     refine zg ?_
     exact hQ _ (zqB (trivial))
    ·refine zX (congrArg (fun x => isB (.bool x) true) hb7) ?_
     refine zP (congrArg (fun x => isB (.bool x) false) hb5) ?_
     refine zA (congrArg Value.bool hb7) ?_
     refine zA (congrArg Value.bool hb5) ?_
     refine zh ?_
     injection hF with hF
     subst hF
     refine zg ?_
     exact hQ _ (zqB (trivial))
   ·refine zX (congrArg (fun x => isB (.bool x) true) hb6) ?_
    refine zP (congrArg (fun x => isB (.bool x) false) hb5) ?_
    refine zA (congrArg Value.bool hb6) ?_
    refine zb hO 1 [] [(0, zqC p0), (7, .bool (p0 == 0)), (13, .bool false)] zqo fun j => ?_
    rcases zi hF with ⟨hb8, hF⟩ | ⟨hb8, hF⟩
    ·refine zP (congrArg (fun x => isB (.bool x) true) hb8) ?_
     refine zb hO 2 [] [(7, .bool (p0 == 0)), (13, .bool false), (15, .bool (decide (p0 < 16)))] zqo fun j => ?_
     refine zP (congrArg (fun x => isB (.bool x) false) hb5) ?_
     refine zA (congrArg Value.bool hb8) ?_
     refine zA (congrArg Value.bool hb5) ?_
     refine zh ?_
     injection hF with hF
     subst hF
     refine zg ?_
     exact hQ _ (zqB (trivial))
    ·refine zX (congrArg (fun x => isB (.bool x) true) hb8) ?_
     refine zP (congrArg (fun x => isB (.bool x) false) hb5) ?_
     refine zA (congrArg Value.bool hb8) ?_
     refine zA (congrArg Value.bool hb5) ?_
     refine zh ?_
     injection hF with hF
     subst hF
     refine zg ?_
     exact hQ _ (zqB (trivial))
 ·refine za hO [] [(4, .bool c3)] zqm fun j => ?_
  refine zp ?_
  injection hF with hF
  subst hF
  exact hQ _ _ _ _ _ rfl hO hL ⟨rfl, rfl⟩
theorem zcQ {τ : Hp} {p0 : ByteArray} {p1 : Int}  {rr : Bool} (hF : zm p0 p1 = some rr) :
  Ctr Tryz.prog 56 #[.string p0, .int .u8 p1] τ [] (fun v τ' vs' => v = .bool rr ∧ vs' = []) := by
 refine zw (args := [.string p0, .int .u8 p1]) hm Tryz.func56 s56 rfl fun w0 σ hO Q hQ => ?_
 unfold zm at hF
 have hL := Hp.le.refl τ
 show wpn _ _ a56.body _ _ _
 unfold a56
 dsimp only
 refine za hO [] [(0, .string p0), (1, .int .u8 p1)] zqn fun j => ?_
 refine ze (za hO [] [(0, .string p0), (1, .int .u8 p1), (5, zqC 0)] zqo fun j => ?_)
 refine zO (zbr (fun (n : Nat) e' σ' => ∃ (x7 : Int) (τ' : Hp), agr [(0, .string p0), (1, .int .u8 p1), (5, zqC x7)] e' ∧ Obs τ' σ' [] ∧ Hp.le τ τ' ∧ zfB p0 p1 n x7 = some rr) big ⟨0, _, zqB zqn, hO, hL, hF⟩ ?_)
 clear hF hO hL
 rintro n12 e σ ⟨x7, _, hA, hO, hL, hF⟩
 rw [← zC _ _ hA]
 cases n12 with
 | zero => exact nomatch (show none = some rr from hF)
 | succ n12 =>
  replace hF : zeL (zfB p0 p1 n12) p0 p1 x7 = some rr := hF
  unfold zeL at hF
  refine ze (za hO [] [(0, .string p0), (1, .int .u8 p1), (5, zqC x7), (9, .bool (decide (x7 < (p0.size : Int))))] zqp fun j => ?_)
  rcases zi hF with ⟨hb13, hF⟩ | ⟨hb13, hF⟩
  ·refine zl (congrArg Value.bool hb13) ?_
   refine zv (zO (zb hO 2 [] [(0, .string p0), (1, .int .u8 p1), (5, zqC x7), (12, .string p0), (13, zqC x7)] zqq fun j => ?_))
   obtain ⟨y14, g15, hF⟩ := bind_some hF
   refine zk5 rfl rfl g15 ?_
   refine za hO [] [(0, .string p0), (1, .int .u8 p1), (5, zqC x7), (16, .bool ((y14.toNat : Int) == p1))] zqp fun j => ?_
   refine z2 ?_
   rcases zi hF with ⟨hb16, hF⟩ | ⟨hb16, hF⟩
   ·refine zl (congrArg Value.bool hb16) ?_
    refine ze (za hO [] [(4, .bool true)] zqm fun j => ?_)
    refine zz (zJ (zE (zE (zJ (zE ?_)))))
    injection hF with hF
    subst hF
    exact hQ _ _ _ _ _ rfl hO hL ⟨rfl, rfl⟩
   ·refine zk (congrArg Value.bool hb16) ?_
    refine zv (zg (zK (zn (zU (za hO [] [(0, .string p0), (1, .int .u8 p1), (5, zqC (IntKind.i64.wrap (x7 + 1)))] zqo fun j => ?_)))))
    refine zg (zn ?_)
    exact ⟨n12, Nat.lt_succ_self _, (IntKind.i64.wrap (x7 + 1)), _, zqB zqn, hO, hL, hF⟩
  ·refine zk (congrArg Value.bool hb13) ?_
   refine zbq (zbm (zbp (zn (za hO [] [(4, .bool false)] zqm fun j => ?_))))
   refine zp ?_
   injection hF with hF
   subst hF
   exact hQ _ _ _ _ _ rfl hO hL ⟨rfl, rfl⟩
end Go.Proofs.YtgkllgoelpfdkaaGreat
