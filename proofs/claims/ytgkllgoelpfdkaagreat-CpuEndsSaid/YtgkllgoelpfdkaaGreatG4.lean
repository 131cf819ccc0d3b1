import Derived.Test.YtgkllgoelpfdkaaGreatG3
namespace Go.Proofs.YtgkllgoelpfdkaaGreat
open Go.Ab Go.RowKit
set_option linter.unusedVariables false
set_option linter.unusedSimpArgs false
set_option maxRecDepth 10000
set_option maxHeartbeats 1000000
theorem zpo {τ : Hp} {p0 : zbe} {v0_0 : Value} {v0_1 : Value} {v0_4 : Value} (r0_0 : RdT zcL τ v0_0 p0.Code) (r0_1 : RdT Ty.u8 τ v0_1 p0.Bytes) (r0_4 : RdT (Ty.int .i64) τ v0_4 p0.Input) {rr : Bool} (hF : zhf p0 = some rr) :
  Ctr Tryz.prog 4 #[.agg #[v0_0, v0_1, .int .i64 p0.Start, .int .i64 p0.Words, v0_4, .int .i64 p0.Fuel]] τ [] (fun v τ' vs' => v = .bool rr ∧ vs' = []) := by
 obtain ⟨A0_0, c0_0, rfl, -⟩ := r0_0.form
 obtain ⟨A0_1, c0_1, rfl, -⟩ := r0_1.form
 obtain ⟨A0_4, c0_4, rfl, -⟩ := r0_4.form
 refine zw (args := [.agg #[(.slice A0_0 p0.Code.length c0_0), (.slice A0_1 p0.Bytes.length c0_1), .int .i64 p0.Start, .int .i64 p0.Words, (.slice A0_4 p0.Input.length c0_4), .int .i64 p0.Fuel]]) hm Tryz.func4 s4 rfl fun w0 σ hO Q hQ => ?_
 unfold zhf at hF
 have hL := Hp.le.refl τ
 show wpn _ _ a4.body _ _ _
 unfold a4
 dsimp only
 refine zba (n := 6) hO rfl rfl fun b2 σ hO => ?_
 have hO : Obs _ _ [_] := hO
 refine za hO [] [(1, zqD b2)] zqm fun j => ?_
 refine ze (zb hO 1 [0] [(1, zqD b2), (12, .agg #[(.slice A0_0 p0.Code.length c0_0), (.slice A0_1 p0.Bytes.length c0_1), (.int .i64 p0.Start), (.int .i64 p0.Words), (.slice A0_4 p0.Input.length c0_4), (.int .i64 p0.Fuel)])] (And.intro (And.intro rfl rfl) zqn) fun j => ?_)
 obtain ⟨c3, h4, hF⟩ := bind_some hF
 refine zr hO (zoC (p0 := (⟨p0.Code, p0.Bytes, p0.Start, p0.Words, p0.Input, p0.Fuel⟩ : zbe)) r0_0 r0_1 r0_4 h4) rfl fun _ σ _ _ hO h5 h6 => ?_
 have hL := hL.trans h5
 have r0_0 := r0_0.le h5
 have r0_1 := r0_1.le h5
 have r0_4 := r0_4.le h5
 obtain ⟨rfl, rfl⟩ := h6
 have hO : Obs _ _ [_] := hO
 refine zh ?_
 rcases zi hF with ⟨hb7, hF⟩ | ⟨hb7, hF⟩
 ·refine zl (congrArg Value.bool hb7) ?_
  refine ze ?_
  obtain ⟨c8, h9, hF⟩ := bind_some hF
  refine zr hO (zeG h9) rfl fun _ σ _ _ hO h10 h11 => ?_
  have hL := hL.trans h10
  have r0_0 := r0_0.le h10
  have r0_1 := r0_1.le h10
  have r0_4 := r0_4.le h10
  obtain ⟨rfl, rfl⟩ := h11
  have hO : Obs _ _ [_] := hO
  refine za hO [] [(2, .bool c8)] zqm fun j => ?_
  refine zz ?_
  injection hF with hF
  subst hF
  have hO := hO.sel [] (by decide)
  exact hQ _ _ _ _ _ rfl hO hL ⟨rfl, rfl⟩
 ·refine zk (congrArg Value.bool hb7) ?_
  refine zv (zbD (zb hO 7 [0, 0, 0, 0] [(1, zqD b2), (16, .agg #[(.slice A0_0 p0.Code.length c0_0), (.slice A0_1 p0.Bytes.length c0_1), (.int .i64 p0.Start), (.int .i64 p0.Words), (.slice A0_4 p0.Input.length c0_4), (.int .i64 p0.Fuel)]), (18, .pointer (some ⟨b2, 2, none⟩)), (19, zqC p0.Start), (20, .pointer (some ⟨b2, 3, none⟩)), (21, zqC p0.Words), (22, .pointer (some ⟨b2, 4, none⟩)), (23, .slice A0_4 p0.Input.length c0_4)] (And.intro (And.intro rfl rfl) (And.intro (And.intro rfl rfl) (And.intro (And.intro rfl rfl) (And.intro (And.intro rfl rfl) zqt)))) fun j => ?_))
  refine zcC ?_
  obtain ⟨c12, h13, hF⟩ := bind_some hF
  refine zr hO (zp4 (p0 := (⟨p0.Code, p0.Bytes, p0.Start, p0.Words, p0.Input, p0.Fuel⟩ : zbe)) r0_0 r0_1 r0_4 h13) rfl fun _ σ _ _ hO h14 h15 => ?_
  have hL := hL.trans h14
  have r0_0 := r0_0.le h14
  have r0_1 := r0_1.le h14
  have r0_4 := r0_4.le h14
  obtain ⟨v16, o19, rfl, rfl, w20⟩ := h15
  obtain ⟨A17, c18, rfl, -⟩ := w20.form
  have hO : Obs _ _ [_, _] := hO
  refine zh (zcI ⟨(zb5 rfl (hO.val (i := 0) (off := 4) (agg := false) (n := 1) rfl rfl) rfl), (zb5 rfl (hO.val (i := 0) (off := 3) (agg := false) (n := 1) rfl rfl) rfl), (zb5 rfl (hO.val (i := 0) (off := 2) (agg := false) (n := 1) rfl rfl) rfl), trivial⟩ ?_)
  obtain ⟨c21, h22, hF⟩ := bind_some hF
  refine z6 (hs := [_]) (vs := [_]) hO (Ctr.lendG w20 zk1 fun _ lL0 rL0 => zkC rL0 (r0_4.le lL0) h22) rfl fun _ σ _ _ hO h23 h24 => ?_
  have hL := hL.trans h23
  have r0_0 := r0_0.le h23
  have r0_1 := r0_1.le h23
  have r0_4 := r0_4.le h23
  have w20 := w20.le h23
  rcases zlO hF with ⟨h26, hF⟩ | ⟨m25, h26, hF⟩
  ·rw [h26] at h24
   obtain ⟨_, rfl, rfl, rfl⟩ := h24
   have hO := hO.sel [0, 1] (by decide)
   refine za hO [] [(1, zqD b2), (3, .pointer none), (4, zqC c21.2)] zqo fun j => ?_
   refine ze (za hO [] [(1, zqD b2), (3, .pointer none), (28, .bool (c21.2 != 0))] zqo fun j => ?_)
   rcases zi hF with ⟨hb27, hF⟩ | ⟨hb27, hF⟩
   ·refine zl (congrArg Value.bool hb27) ?_
    refine ze (zb hO 3 [] [(31, .bool true)] zqm fun j => ?_)
    have hO := hO.sel [] (by decide)
    have hO : Obs _ _ [] := hO
    obtain ⟨c28, h29, hF⟩ := bind_some hF
    refine zbC 2 (fun e' σ' => ∃ (τ' : Hp), agr [(33, .bool c28)] e' ∧ Obs τ' σ' [] ∧ Hp.le τ τ') ?_ ?_
    ·have hF := h29
     rcases zi hF with ⟨hb30, hF⟩ | ⟨hb30, hF⟩
     ·refine zP (congrArg (fun x => isB (.bool x) true) hb30) ?_
      obtain ⟨c31, h32, hF⟩ := bind_some hF
      refine zr hO (zeG h32) rfl fun _ σ _ _ hO h33 h34 => ?_
      have hL := hL.trans h33
      obtain ⟨rfl, rfl⟩ := h34
      have hO : Obs _ _ [] := hO
      refine zA (congrArg Value.bool hb30) ?_
      refine zh ?_
      injection hF with hF
      subst hF
      refine zg ?_
      exact ⟨rfl, _, zqB (trivial), hO, hL⟩
     ·refine zX (congrArg (fun x => isB (.bool x) true) hb30) ?_
      refine zA (congrArg Value.bool hb30) ?_
      refine zh ?_
      injection hF with hF
      subst hF
      refine zg ?_
      exact ⟨rfl, _, zqB (trivial), hO, hL⟩
    ·rintro e σ ⟨_, hA, hO, hL⟩
     rw [← zC _ _ hA]
     refine za hO [] [(2, .bool c28)] zqm fun j => ?_
     refine zz ?_
     injection hF with hF
     subst hF
     exact hQ _ _ _ _ _ rfl hO hL ⟨rfl, rfl⟩
   ·refine zk (congrArg Value.bool hb27) ?_
    refine zv (ze (za hO [] [(1, zqD b2), (3, .pointer none), (5, zqC 0)] zqo fun j => ?_))
    refine zO ?_
    have hO := hO.sel [0] (by decide)
    refine zbr (fun (n : Nat) e' σ' => ∃ (τ' : Hp), agr [(1, zqD b2), (3, .pointer none), (5, zqC 0)] e' ∧ Obs τ' σ' [some (b2, ⟨[.slice A0_0 p0.Code.length c0_0, .slice A0_1 p0.Bytes.length c0_1, .int .i64 p0.Start, .int .i64 p0.Words, .slice A0_4 p0.Input.length c0_4, .int .i64 p0.Fuel], 26, 6, true⟩)] ∧ Hp.le τ τ' ∧ RdT zcL τ' (.slice A0_0 p0.Code.length c0_0) p0.Code ∧ RdT Ty.u8 τ' (.slice A0_1 p0.Bytes.length c0_1) p0.Bytes ∧ RdT (Ty.int .i64) τ' (.slice A0_4 p0.Input.length c0_4) p0.Input ∧ zhR p0 n  = some rr) big ⟨_, zqB zqn, hO, hL, r0_0, r0_1, r0_4, hF⟩ ?_
    clear hF hO hL
    rintro n43 e σ ⟨_, hA, hO, hL, r35, r36, r37, hF⟩
    rw [← zC _ _ hA]
    cases n43 with
    | zero => exact nomatch (show none = some rr from hF)
    | succ n43 =>
     replace hF : zi9 (zhR p0 n43) p0 = some rr := hF
     unfold zi9 at hF
     refine ze (za hO [0] [(1, zqD b2), (3, .pointer none), (5, zqC 0), (37, .bool (decide (0 < p0.Fuel)))] (And.intro (And.intro rfl rfl) zqp) fun j => ?_)
     rcases zi hF with ⟨hb44, hF⟩ | ⟨hb44, hF⟩
     ·refine zl (congrArg Value.bool hb44) ?_
      refine zv (zO (zb hO 1 [] [(1, zqD b2), (3, .pointer none), (5, zqC 0), (40, .pointer none)] zqp fun j => ?_))
      exact nomatch (show none = some _ from hF)
     ·refine zk (congrArg Value.bool hb44) ?_
      refine zbq (zbm (zbp (zn ?_)))
      obtain ⟨c45, h46, hF⟩ := bind_some hF
      refine zr hO (zeG h46) rfl fun _ σ _ _ hO h47 h48 => ?_
      have hL := hL.trans h47
      have r35 := r35.le h47
      have r36 := r36.le h47
      have r37 := r37.le h47
      obtain ⟨rfl, rfl⟩ := h48
      have hO : Obs _ _ [_] := hO
      refine za hO [] [(2, .bool c45)] zqm fun j => ?_
      refine zp ?_
      injection hF with hF
      subst hF
      have hO := hO.sel [] (by decide)
      exact hQ _ _ _ _ _ rfl hO hL ⟨rfl, rfl⟩
  ·rw [h26] at h24
   obtain ⟨_, rfl, b49, v50, o53, v55, o58, v60, o63, v65, o68, rfl, rfl, w54, w59, w64, w69⟩ := h24
   obtain ⟨A51, c52, rfl, -⟩ := w54.form
   obtain ⟨A56, c57, rfl, -⟩ := w59.form
   obtain ⟨A61, c62, rfl, -⟩ := w64.form
   obtain ⟨A66, c67, rfl, -⟩ := w69.form
   have hO : Obs _ _ [_, _, _, _, _, _, _] := hO
   refine za hO [] [(1, zqD b2), (3, zqD b49), (4, zqC c21.2)] zqo fun j => ?_
   refine ze (za hO [] [(1, zqD b2), (3, zqD b49), (28, .bool (c21.2 != 0))] zqo fun j => ?_)
   rcases zi hF with ⟨hb70, hF⟩ | ⟨hb70, hF⟩
   ·refine zl (congrArg Value.bool hb70) ?_
    refine ze (zb hO 3 [] [(31, .bool false)] zqm fun j => ?_)
    have hO := hO.sel [3, 4, 5, 6] (by decide)
    have hO : Obs _ _ [_, _, _, _] := hO
    obtain ⟨c71, h72, hF⟩ := bind_some hF
    refine zbC 2 (fun e' σ' => ∃ (τ' : Hp), agr [(33, .bool c71)] e' ∧ Obs τ' σ' [none, none, none, none] ∧ Hp.le τ τ') ?_ ?_
    ·have hF := h72
     rcases zi hF with ⟨hb73, hF⟩ | ⟨hb73, hF⟩
     ·refine zP (congrArg (fun x => isB (.bool x) true) hb73) ?_
      obtain ⟨c74, h75, hF⟩ := bind_some hF
      refine zr hO (zeG h75) rfl fun _ σ _ _ hO h76 h77 => ?_
      have hL := hL.trans h76
      obtain ⟨rfl, rfl⟩ := h77
      have hO : Obs _ _ [_, _, _, _] := hO
      refine zA (congrArg Value.bool hb73) ?_
      refine zh ?_
      injection hF with hF
      subst hF
      refine zg ?_
      have hO := hO.sel [1000, 1001, 1002, 1003] (by decide)
      exact ⟨rfl, _, zqB (trivial), hO, hL⟩
     ·refine zX (congrArg (fun x => isB (.bool x) true) hb73) ?_
      refine zA (congrArg Value.bool hb73) ?_
      refine zh ?_
      injection hF with hF
      subst hF
      refine zg ?_
      have hO := hO.sel [1000, 1001, 1002, 1003] (by decide)
      exact ⟨rfl, _, zqB (trivial), hO, hL⟩
    ·rintro e σ ⟨_, hA, hO, hL⟩
     rw [← zC _ _ hA]
     refine za hO [] [(2, .bool c71)] zqm fun j => ?_
     refine zz ?_
     injection hF with hF
     subst hF
     have hO := hO.sel [] (by decide)
     exact hQ _ _ _ _ _ rfl hO hL ⟨rfl, rfl⟩
   ·refine zk (congrArg Value.bool hb70) ?_
    refine zv (ze (za hO [] [(1, zqD b2), (3, zqD b49), (5, zqC 0)] zqo fun j => ?_))
    refine zO ?_
    obtain ⟨_, h252, r251, hO⟩ := w54.share hO (i := 3) rfl
    have hL := hL.trans h252
    have r0_0 := r0_0.le h252
    have r0_1 := r0_1.le h252
    have r0_4 := r0_4.le h252
    have w59 := w59.le h252
    have w64 := w64.le h252
    have w69 := w69.le h252
    have hO : Obs _ _ [_, _, _, _, _, _, _] := hO
    obtain ⟨_, h436, r435, hO⟩ := w64.share hO (i := 5) rfl
    have hL := hL.trans h436
    have r0_0 := r0_0.le h436
    have r0_1 := r0_1.le h436
    have r0_4 := r0_4.le h436
    have r251 := r251.le h436
    have w59 := w59.le h436
    have w69 := w69.le h436
    have hO : Obs _ _ [_, _, _, _, _, _, _] := hO
    have hO := hO.sel [0, 2, 4, 6] (by decide)
    refine zbr (fun (n : Nat) e' σ' => ∃ (A606 : Option Addr) (c607 : Nat) (x608 : List UInt8) (x610 : Int) (x611 : (Nat → Int)) (A612 : Option Addr) (c613 : Nat) (o614 : Ob) (x615 : List Int) (A617 : Option Addr) (c618 : Nat) (x619 : List Int) (A621 : Option Addr) (c622 : Nat) (o623 : Ob) (x624 : List Int) (x626 : UInt8) (x627 : Int) (x628 : Int) (τ' : Hp), agr [(1, zqD b2), (3, zqD b49), (5, zqC x628)] e' ∧ Obs τ' σ' [some (b2, ⟨[.slice A0_0 p0.Code.length c0_0, .slice A0_1 p0.Bytes.length c0_1, .int .i64 p0.Start, .int .i64 p0.Words, .slice A0_4 p0.Input.length c0_4, .int .i64 p0.Fuel], 26, 6, true⟩), some (b49, ⟨[.slice A606 x608.length c607, .int .i64 x610, .int .i64 (x611 0), .int .i64 (x611 1), .int .i64 (x611 2), .int .i64 (x611 3), .int .i64 (x611 4), .int .i64 (x611 5), .int .i64 (x611 6), .int .i64 (x611 7), .int .i64 (x611 8), .int .i64 (x611 9), .int .i64 (x611 10), .int .i64 (x611 11), .int .i64 (x611 12), .int .i64 (x611 13), .int .i64 (x611 14), .int .i64 (x611 15), .slice A612 x615.length c613, .slice A617 x619.length c618, .slice A621 x624.length c622, .int .u8 (x626.toNat : Int), .int .i64 x627], 58, 23, true⟩), o614, o623] ∧ Hp.le τ τ' ∧ RdT zcL τ' (.slice A0_0 p0.Code.length c0_0) p0.Code ∧ RdT Ty.u8 τ' (.slice A0_1 p0.Bytes.length c0_1) p0.Bytes ∧ RdT (Ty.int .i64) τ' (.slice A0_4 p0.Input.length c0_4) p0.Input ∧ RdT Ty.u8 τ' (.slice A606 x608.length c607) x608 ∧ zd (Ty.int .i64) 2 τ' (.slice A612 x615.length c613) x615 o614 ∧ RdT (Ty.int .i64) τ' (.slice A617 x619.length c618) x619 ∧ zd (Ty.int .i64) 2 τ' (.slice A621 x624.length c622) x624 o623 ∧ zgB p0 n x608 x610 x611 x615 x619 x624 x626 x627 x628 = some rr) big ⟨A51, c52, m25.code, m25.pc, m25.regs, A56, c57, o58, m25.words, A61, c62, m25.input, A66, c67, o68, m25.out, m25.how, m25.halting, 0, _, zqB zqn, hO, hL, r0_0, r0_1, r0_4, r251, w59, r435, w69, hF⟩ ?_
    clear hF hO hL
    rintro n788 e σ ⟨A606, c607, x608, x610, x611, A612, c613, o614, x615, A617, c618, x619, A621, c622, o623, x624, x626, x627, x628, _, hA, hO, hL, r603, r604, r605, r609, w616, r620, w625, hF⟩
    rw [← zC _ _ hA]
    cases n788 with
    | zero => exact nomatch (show none = some rr from hF)
    | succ n788 =>
     replace hF : ze8 (zgB p0 n788) p0 x608 x610 x611 x615 x619 x624 x626 x627 x628 = some rr := hF
     unfold ze8 at hF
     refine ze (za hO [0] [(1, zqD b2), (3, zqD b49), (5, zqC x628), (37, .bool (decide (x628 < p0.Fuel)))] (And.intro (And.intro rfl rfl) zqp) fun j => ?_)
     rcases zi hF with ⟨hb789, hF⟩ | ⟨hb789, hF⟩
     ·refine zl (congrArg Value.bool hb789) ?_
      refine zv (zO (zb hO 1 [] [(1, zqD b2), (3, zqD b49), (5, zqC x628), (40, zqD b49)] zqp fun j => ?_))
      obtain ⟨c790, h791, hF⟩ := bind_some hF
      refine z6 (hs := [_]) (vs := [_, _, _]) hO (zkZ (q0 := (⟨x608, x610, x611, x615, x619, x624, x626, x627⟩ : zf)) r609 w616 r620 w625 h791) rfl fun _ σ _ _ hO h792 h793 => ?_
      have hL := hL.trans h792
      have r603 := r603.le h792
      have r604 := r604.le h792
      have r605 := r605.le h792
      have r609 := r609.le h792
      have w616 := w616.le h792
      have r620 := r620.le h792
      have w625 := w625.le h792
      obtain ⟨rfl, rfl⟩ := h793
      have hO : Obs _ _ [_, _, _, _] := hO
      refine za hO [] [(1, zqD b2), (3, zqD b49), (5, zqC x628), (6, zqC c790)] zqp fun j => ?_
      refine zb hO 1 [] [(1, zqD b2), (3, zqD b49), (5, zqC x628), (6, zqC c790), (42, zqD b49)] zqq fun j => ?_
      obtain ⟨c794, h795, hF⟩ := bind_some hF
      refine z6 (hs := [_]) (vs := [_, _, _]) hO (zjS (q0 := (⟨x608, x610, x611, x615, x619, x624, x626, x627⟩ : zf)) r609 w616 r620 w625 h795) rfl fun _ σ _ _ hO h796 h797 => ?_
      have hL := hL.trans h796
      have r603 := r603.le h796
      have r604 := r604.le h796
      have r605 := r605.le h796
      have r609 := r609.le h796
      have w616 := w616.le h796
      have r620 := r620.le h796
      have w625 := w625.le h796
      obtain ⟨v798, o801, rfl, rfl, w802⟩ := h797
      obtain ⟨A799, c800, rfl, -⟩ := w802.form
      have hO : Obs _ _ [_, _, _, _, _] := hO
      have hO := hO.sel [0, 2, 3, 4, 1] (by decide)
      have hO : Obs _ _ [_, _, _, _, _] := hO
      refine za hO [] [(1, zqD b2), (3, zqD b49), (5, zqC x628), (6, zqC c790), (7, .slice A799 c794.length c800)] zqq fun j => ?_
      refine zb hO 1 [] [(1, zqD b2), (3, zqD b49), (5, zqC x628), (6, zqC c790), (7, .slice A799 c794.length c800), (44, zqD b49)] zqr fun j => ?_
      obtain ⟨c803, h804, hF⟩ := bind_some hF
      have hO := hO.sel [0, 4, 1, 2, 3] (by decide)
      refine z6 (hs := [_, _]) (vs := [_, _, _]) hO (zlQ (q0 := (⟨x608, x610, x611, x615, x619, x624, x626, x627⟩ : zf)) r609 w616 r620 w625 h804) rfl fun _ σ _ _ hO h805 h806 => ?_
      have hL := hL.trans h805
      have w802 := w802.le h805
      have r603 := r603.le h805
      have r604 := r604.le h805
      have r605 := r605.le h805
      have r609 := r609.le h805
      have w616 := w616.le h805
      have r620 := r620.le h805
      have w625 := w625.le h805
      obtain ⟨v807, o810, rfl, rfl, w811⟩ := h806
      obtain ⟨A808, c809, rfl, -⟩ := w811.form
      have hO : Obs _ _ [_, _, _, _, _, _] := hO
      have hO := hO.sel [0, 3, 4, 5, 1, 2] (by decide)
      have hO : Obs _ _ [_, _, _, _, _, _] := hO
      refine za hO [] [(1, zqD b2), (3, zqD b49), (5, zqC x628), (6, zqC c790), (7, .slice A799 c794.length c800), (8, .slice A808 c803.length c809)] zqr fun j => ?_
      refine zb hO 1 [] [(1, zqD b2), (3, zqD b49), (5, zqC x628), (6, zqC c790), (7, .slice A799 c794.length c800), (8, .slice A808 c803.length c809), (46, zqD b49)] zqs fun j => ?_
      obtain ⟨c812, h813, hF⟩ := bind_some hF
      have hO := hO.sel [0, 4, 5, 1, 2, 3] (by decide)
      refine z6 (hs := [_, _, _]) (vs := [_, _, _]) hO (zi2 (q0 := (⟨x608, x610, x611, x615, x619, x624, x626, x627⟩ : zf)) r609 w616 r620 w625 h813) rfl fun _ σ _ _ hO h814 h815 => ?_
      have hL := hL.trans h814
      have w802 := w802.le h814
      have w811 := w811.le h814
      have r603 := r603.le h814
      have r604 := r604.le h814
      have r605 := r605.le h814
      have r609 := r609.le h814
      have w616 := w616.le h814
      have r620 := r620.le h814
      have w625 := w625.le h814
      obtain ⟨v816, o819, rfl, rfl, w820⟩ := h815
      obtain ⟨A817, c818, rfl, -⟩ := w820.form
      have hO : Obs _ _ [_, _, _, _, _, _, _] := hO
      have hO := hO.sel [0, 4, 5, 6, 1, 2, 3] (by decide)
      have hO : Obs _ _ [_, _, _, _, _, _, _] := hO
      refine za hO [] [(1, zqD b2), (3, zqD b49), (5, zqC x628), (6, zqC c790), (7, .slice A799 c794.length c800), (8, .slice A808 c803.length c809), (9, .slice A817 c812.length c818)] zqs fun j => ?_
      refine zb hO 1 [] [(1, zqD b2), (3, zqD b49), (5, zqC x628), (6, zqC c790), (7, .slice A799 c794.length c800), (8, .slice A808 c803.length c809), (9, .slice A817 c812.length c818), (48, zqD b49)] zqt fun j => ?_
      obtain ⟨c821, h822, hF⟩ := bind_some hF
      have hO := hO.sel [0, 4, 5, 6, 1, 2, 3] (by decide)
      refine z6 (hs := [_, _, _, _]) (vs := [_, _, _]) hO (zk8 (q0 := (⟨x608, x610, x611, x615, x619, x624, x626, x627⟩ : zf)) r609 w616 r620 w625 h822) rfl fun _ σ _ _ hO h823 h824 => ?_
      have hL := hL.trans h823
      have w802 := w802.le h823
      have w811 := w811.le h823
      have w820 := w820.le h823
      have r603 := r603.le h823
      have r604 := r604.le h823
      have r605 := r605.le h823
      have r609 := r609.le h823
      have w616 := w616.le h823
      have r620 := r620.le h823
      have w625 := w625.le h823
      obtain ⟨rfl, rfl⟩ := h824
      have hO : Obs _ _ [_, _, _, _, _, _, _] := hO
      have hO := hO.sel [0, 4, 5, 6, 1, 2, 3] (by decide)
      have hO : Obs _ _ [_, _, _, _, _, _, _] := hO
      refine za hO [] [(1, zqD b2), (3, zqD b49), (5, zqC x628), (6, zqC c790), (7, .slice A799 c794.length c800), (8, .slice A808 c803.length c809), (9, .slice A817 c812.length c818), (10, zqC c821)] zqt fun j => ?_
      refine zb hO 1 [] [(1, zqD b2), (3, zqD b49), (5, zqC x628), (6, zqC c790), (7, .slice A799 c794.length c800), (8, .slice A808 c803.length c809), (9, .slice A817 c812.length c818), (10, zqC c821), (50, zqD b49)] zqu fun j => ?_
      obtain ⟨c825, h826, hF⟩ := bind_some hF
      have hO := hO.sel [0, 4, 5, 6, 1, 2, 3] (by decide)
      refine z6 (hs := [_, _, _, _]) (vs := [_, _, _]) hO (zjc (q0 := (⟨x608, x610, x611, x615, x619, x624, x626, x627⟩ : zf)) r609 w616 r620 w625 h826) rfl fun _ σ _ _ hO h827 h828 => ?_
      have hL := hL.trans h827
      have w802 := w802.le h827
      have w811 := w811.le h827
      have w820 := w820.le h827
      have r603 := r603.le h827
      have r604 := r604.le h827
      have r605 := r605.le h827
      obtain ⟨v829, v833, o836, v838, v842, o845, rfl, rfl, r832, w837, r841, w846⟩ := h828
      obtain ⟨A830, c831, rfl, -⟩ := r832.form
      obtain ⟨A834, c835, rfl, -⟩ := w837.form
      obtain ⟨A839, c840, rfl, -⟩ := r841.form
      obtain ⟨A843, c844, rfl, -⟩ := w846.form
      have hO : Obs _ _ [_, _, _, _, _, _, _] := hO
      refine za hO [] [(1, zqD b2), (3, zqD b49), (5, zqC x628), (6, zqC c790), (7, .slice A799 c794.length c800), (8, .slice A808 c803.length c809), (9, .slice A817 c812.length c818), (10, zqC c821), (11, .int .u8 c825.1)] zqu fun j => ?_
      refine ze (zb hO 2 [] [(1, zqD b2), (3, zqD b49), (5, zqC x628), (6, zqC c790), (7, .slice A799 c794.length c800), (8, .slice A808 c803.length c809), (9, .slice A817 c812.length c818), (10, zqC c821), (11, .int .u8 c825.1), (52, .int .u8 c825.1), (53, zqD b49)] zqw fun j => ?_)
      obtain ⟨c847, h848, hF⟩ := bind_some hF
      refine z6 (hs := [_, _, _, _]) (vs := [_, _, _]) hO (zhi (q0 := (⟨c825.2.code, c825.2.pc, c825.2.regs, c825.2.words, c825.2.input, c825.2.out, c825.2.how, c825.2.halting⟩ : zf)) r832 w837 r841 w846 h848) rfl fun _ σ _ _ hO h849 h850 => ?_
      have hL := hL.trans h849
      have w802 := w802.le h849
      have w811 := w811.le h849
      have w820 := w820.le h849
      have r603 := r603.le h849
      have r604 := r604.le h849
      have r605 := r605.le h849
      have r832 := r832.le h849
      have w837 := w837.le h849
      have r841 := r841.le h849
      have w846 := w846.le h849
      obtain ⟨rfl, rfl⟩ := h850
      have hO : Obs _ _ [_, _, _, _, _, _, _] := hO
      refine za hO [] [(1, zqD b2), (3, zqD b49), (5, zqC x628), (6, zqC c790), (7, .slice A799 c794.length c800), (8, .slice A808 c803.length c809), (9, .slice A817 c812.length c818), (10, zqC c821), (11, .int .u8 c825.1), (55, .bool (c825.1 != c847))] zqv fun j => ?_
      rcases zi hF with ⟨hb851, hF⟩ | ⟨hb851, hF⟩
      ·refine zl (congrArg Value.bool hb851) ?_
       refine ze (za hO [] [(2, .bool false)] zqm fun j => ?_)
       refine zz (zJ (zE (zE (zJ (zE ?_)))))
       injection hF with hF
       subst hF
       have hO := hO.sel [] (by decide)
       exact hQ _ _ _ _ _ rfl hO hL ⟨rfl, rfl⟩
      ·refine zk (congrArg Value.bool hb851) ?_
       refine zv (za hO [] [(1, zqD b2), (3, zqD b49), (5, zqC x628), (6, zqC c790), (7, .slice A799 c794.length c800), (8, .slice A808 c803.length c809), (9, .slice A817 c812.length c818), (10, zqC c821), (11, .int .u8 c825.1), (57, .bool (c825.1 != 0))] zqv fun j => ?_)
       refine z2 ?_
       rcases zi hF with ⟨hb852, hF⟩ | ⟨hb852, hF⟩
       ·refine zl (congrArg Value.bool hb852) ?_
        refine ze (zb hO 1 [] [(3, zqD b49), (6, zqC c790), (7, .slice A799 c794.length c800), (8, .slice A808 c803.length c809), (9, .slice A817 c812.length c818), (10, zqC c821), (11, .int .u8 c825.1), (58, zqD b49)] zqt fun j => ?_)
        obtain ⟨c853, h854, hF⟩ := bind_some hF
        refine z6 (hs := [_, _, _, _]) (vs := [_, _, _]) hO (zkZ (q0 := (⟨c825.2.code, c825.2.pc, c825.2.regs, c825.2.words, c825.2.input, c825.2.out, c825.2.how, c825.2.halting⟩ : zf)) r832 w837 r841 w846 h854) rfl fun _ σ _ _ hO h855 h856 => ?_
        have hL := hL.trans h855
        have w802 := w802.le h855
        have w811 := w811.le h855
        have w820 := w820.le h855
        have r603 := r603.le h855
        have r604 := r604.le h855
        have r605 := r605.le h855
        have r832 := r832.le h855
        have w837 := w837.le h855
        have r841 := r841.le h855
        have w846 := w846.le h855
        obtain ⟨rfl, rfl⟩ := h856
        have hO : Obs _ _ [_, _, _, _, _, _, _] := hO
        refine zb hO 3 [] [(3, zqD b49), (7, .slice A799 c794.length c800), (8, .slice A808 c803.length c809), (9, .slice A817 c812.length c818), (10, zqC c821), (11, .int .u8 c825.1), (62, .bool (c853 == c790))] zqs fun j => ?_
        have hO := hO.sel [1, 2, 3, 4, 5, 6] (by decide)
        have hO : Obs _ _ [_, _, _, _, _, _] := hO
        obtain ⟨c857, h858, hF⟩ := bind_some hF
        refine zbC 2 (fun e' σ' => ∃ (τ' : Hp), agr [(67, .bool c857), (3, zqD b49), (7, .slice A799 c794.length c800), (8, .slice A808 c803.length c809), (9, .slice A817 c812.length c818), (11, .int .u8 c825.1)] e' ∧ Obs τ' σ' [o801, o810, o819, some (b49, ⟨[.slice A830 c825.2.code.length c831, .int .i64 c825.2.pc, .int .i64 (c825.2.regs 0), .int .i64 (c825.2.regs 1), .int .i64 (c825.2.regs 2), .int .i64 (c825.2.regs 3), .int .i64 (c825.2.regs 4), .int .i64 (c825.2.regs 5), .int .i64 (c825.2.regs 6), .int .i64 (c825.2.regs 7), .int .i64 (c825.2.regs 8), .int .i64 (c825.2.regs 9), .int .i64 (c825.2.regs 10), .int .i64 (c825.2.regs 11), .int .i64 (c825.2.regs 12), .int .i64 (c825.2.regs 13), .int .i64 (c825.2.regs 14), .int .i64 (c825.2.regs 15), .slice A834 c825.2.words.length c835, .slice A839 c825.2.input.length c840, .slice A843 c825.2.out.length c844, .int .u8 (c825.2.how.toNat : Int), .int .i64 c825.2.halting], 58, 23, true⟩), o836, o845] ∧ Hp.le τ τ' ∧ zd (Ty.int .i64) 2 τ' (.slice A799 c794.length c800) c794 o801 ∧ zd (Ty.int .i64) 2 τ' (.slice A808 c803.length c809) c803 o810 ∧ zd (Ty.int .i64) 2 τ' (.slice A817 c812.length c818) c812 o819 ∧ RdT Ty.u8 τ' (.slice A830 c825.2.code.length c831) c825.2.code ∧ zd (Ty.int .i64) 2 τ' (.slice A834 c825.2.words.length c835) c825.2.words o836 ∧ RdT (Ty.int .i64) τ' (.slice A839 c825.2.input.length c840) c825.2.input ∧ zd (Ty.int .i64) 2 τ' (.slice A843 c825.2.out.length c844) c825.2.out o845) ?_ ?_
        ·have hF := h858
         rcases zi hF with ⟨hb859, hF⟩ | ⟨hb859, hF⟩
         ·refine zP (congrArg (fun x => isB (.bool x) true) hb859) ?_
          refine zb hO 1 [] [(3, zqD b49), (7, .slice A799 c794.length c800), (8, .slice A808 c803.length c809), (9, .slice A817 c812.length c818), (10, zqC c821), (11, .int .u8 c825.1), (62, .bool (c853 == c790)), (63, zqD b49)] zqt fun j => ?_
          obtain ⟨c860, h861, hF⟩ := bind_some hF
          refine z6 (hs := [_, _, _]) (vs := [_, _, _]) hO (zk8 (q0 := (⟨c825.2.code, c825.2.pc, c825.2.regs, c825.2.words, c825.2.input, c825.2.out, c825.2.how, c825.2.halting⟩ : zf)) r832 w837 r841 w846 h861) rfl fun _ σ _ _ hO h862 h863 => ?_
          have hL := hL.trans h862
          have w802 := w802.le h862
          have w811 := w811.le h862
          have w820 := w820.le h862
          have r832 := r832.le h862
          have w837 := w837.le h862
          have r841 := r841.le h862
          have w846 := w846.le h862
          obtain ⟨rfl, rfl⟩ := h863
          have hO : Obs _ _ [_, _, _, _, _, _] := hO
          refine zb hO 2 [] [(3, zqD b49), (7, .slice A799 c794.length c800), (8, .slice A808 c803.length c809), (9, .slice A817 c812.length c818), (11, .int .u8 c825.1), (62, .bool (c853 == c790)), (66, .bool (c860 == c821))] zqs fun j => ?_
          refine zA (congrArg Value.bool hb859) ?_
          refine zh ?_
          injection hF with hF
          subst hF
          refine zg ?_
          exact ⟨rfl, _, zqB zqq, hO, hL, w802, w811, w820, r832, w837, r841, w846⟩
         ·refine zX (congrArg (fun x => isB (.bool x) true) hb859) ?_
          refine zA (congrArg Value.bool hb859) ?_
          refine zh ?_
          injection hF with hF
          subst hF
          refine zg ?_
          exact ⟨rfl, _, zqB zqq, hO, hL, w802, w811, w820, r832, w837, r841, w846⟩
        ·rintro e σ ⟨_, hA, hO, hL, w802, w811, w820, r832, w837, r841, w846⟩
         rw [← zC _ _ hA]
         refine zb hO 1 [] [(3, zqD b49), (7, .slice A799 c794.length c800), (8, .slice A808 c803.length c809), (9, .slice A817 c812.length c818), (11, .int .u8 c825.1), (68, .bool c857)] zqr fun j => ?_
         obtain ⟨c864, h865, hF⟩ := bind_some hF
         refine zbC 2 (fun e' σ' => ∃ (τ' : Hp), agr [(73, .bool c864), (3, zqD b49), (8, .slice A808 c803.length c809), (9, .slice A817 c812.length c818), (11, .int .u8 c825.1)] e' ∧ Obs τ' σ' [none, o810, o819, some (b49, ⟨[.slice A830 c825.2.code.length c831, .int .i64 c825.2.pc, .int .i64 (c825.2.regs 0), .int .i64 (c825.2.regs 1), .int .i64 (c825.2.regs 2), .int .i64 (c825.2.regs 3), .int .i64 (c825.2.regs 4), .int .i64 (c825.2.regs 5), .int .i64 (c825.2.regs 6), .int .i64 (c825.2.regs 7), .int .i64 (c825.2.regs 8), .int .i64 (c825.2.regs 9), .int .i64 (c825.2.regs 10), .int .i64 (c825.2.regs 11), .int .i64 (c825.2.regs 12), .int .i64 (c825.2.regs 13), .int .i64 (c825.2.regs 14), .int .i64 (c825.2.regs 15), .slice A834 c825.2.words.length c835, .slice A839 c825.2.input.length c840, .slice A843 c825.2.out.length c844, .int .u8 (c825.2.how.toNat : Int), .int .i64 c825.2.halting], 58, 23, true⟩), o836, o845] ∧ Hp.le τ τ' ∧ zd (Ty.int .i64) 2 τ' (.slice A808 c803.length c809) c803 o810 ∧ zd (Ty.int .i64) 2 τ' (.slice A817 c812.length c818) c812 o819 ∧ RdT Ty.u8 τ' (.slice A830 c825.2.code.length c831) c825.2.code ∧ zd (Ty.int .i64) 2 τ' (.slice A834 c825.2.words.length c835) c825.2.words o836 ∧ RdT (Ty.int .i64) τ' (.slice A839 c825.2.input.length c840) c825.2.input ∧ zd (Ty.int .i64) 2 τ' (.slice A843 c825.2.out.length c844) c825.2.out o845) ?_ ?_
         ·have hF := h865
          rcases zi hF with ⟨hb866, hF⟩ | ⟨hb866, hF⟩
          ·refine zP (congrArg (fun x => isB (.bool x) true) hb866) ?_
           refine zb hO 1 [] [(3, zqD b49), (7, .slice A799 c794.length c800), (8, .slice A808 c803.length c809), (9, .slice A817 c812.length c818), (11, .int .u8 c825.1), (68, .bool c857), (69, zqD b49)] zqs fun j => ?_
           obtain ⟨c867, h868, hF⟩ := bind_some hF
           refine z6 (hs := [_, _, _]) (vs := [_, _, _]) hO (zjS (q0 := (⟨c825.2.code, c825.2.pc, c825.2.regs, c825.2.words, c825.2.input, c825.2.out, c825.2.how, c825.2.halting⟩ : zf)) r832 w837 r841 w846 h868) rfl fun _ σ _ _ hO h869 h870 => ?_
           have hL := hL.trans h869
           have w802 := w802.le h869
           have w811 := w811.le h869
           have w820 := w820.le h869
           have r832 := r832.le h869
           have w837 := w837.le h869
           have r841 := r841.le h869
           have w846 := w846.le h869
           obtain ⟨v871, o874, rfl, rfl, w875⟩ := h870
           obtain ⟨A872, c873, rfl, -⟩ := w875.form
           have hO : Obs _ _ [_, _, _, _, _, _, _] := hO
           have hO := hO.sel [0, 1, 2, 4, 5, 6, 3] (by decide)
           have hO : Obs _ _ [_, _, _, _, _, _, _] := hO
           refine zb hO 1 [] [(3, zqD b49), (8, .slice A808 c803.length c809), (9, .slice A817 c812.length c818), (11, .int .u8 c825.1), (68, .bool c857), (70, .slice A872 c867.length c873), (71, .slice A799 c794.length c800)] zqs fun j => ?_
           obtain ⟨c876, h877, hF⟩ := bind_some hF
           have hO := hO.sel [1, 2, 3, 4, 5, 6, 0] (by decide)
           refine z6 (hs := [_, _, _, _, _]) (vs := [_, _]) hO (Ctr.lendG w875 (zjy (fun _ _ _ _ h => h)) fun _ lL0 rL0 => Ctr.lendG (w802.le lL0) (fun _ _ _ _ h => h) fun _ lL1 rL1 => ziE (rL0.le lL1) rL1 h877) rfl fun _ σ _ _ hO h878 h879 => ?_
           have hL := hL.trans h878
           have w811 := w811.le h878
           have w820 := w820.le h878
           have w875 := w875.le h878
           have w802 := w802.le h878
           have r832 := r832.le h878
           have w837 := w837.le h878
           have r841 := r841.le h878
           have w846 := w846.le h878
           obtain ⟨_, rfl, _, rfl, rfl, rfl⟩ := h879
           have hO : Obs _ _ [_, _, _, _, _, _, _] := hO
           have hO := hO.sel [6, 0, 1, 2, 3, 4, 5] (by decide)
           have hO : Obs _ _ [_, _, _, _, _, _, _] := hO
           refine zA (congrArg Value.bool hb866) ?_
           refine zh ?_
           injection hF with hF
           subst hF
           refine zg ?_
           have hO := hO.sel [1000, 1, 2, 3, 4, 5] (by decide)
           exact ⟨rfl, _, zqB zqp, hO, hL, w811, w820, r832, w837, r841, w846⟩
          ·refine zX (congrArg (fun x => isB (.bool x) true) hb866) ?_
           refine zA (congrArg Value.bool hb866) ?_
           refine zh ?_
           injection hF with hF
           subst hF
           refine zg ?_
           have hO := hO.sel [1000, 1, 2, 3, 4, 5] (by decide)
           exact ⟨rfl, _, zqB zqp, hO, hL, w811, w820, r832, w837, r841, w846⟩
         ·rintro e σ ⟨_, hA, hO, hL, w811, w820, r832, w837, r841, w846⟩
          rw [← zC _ _ hA]
          refine zb hO 1 [] [(3, zqD b49), (8, .slice A808 c803.length c809), (9, .slice A817 c812.length c818), (11, .int .u8 c825.1), (74, .bool c864)] zqq fun j => ?_
          have hO := hO.sel [1, 2, 3, 4, 5] (by decide)
          have hO : Obs _ _ [_, _, _, _, _] := hO
          obtain ⟨c880, h881, hF⟩ := bind_some hF
          refine zbC 2 (fun e' σ' => ∃ (τ' : Hp), agr [(79, .bool c880), (3, zqD b49), (9, .slice A817 c812.length c818), (11, .int .u8 c825.1)] e' ∧ Obs τ' σ' [none, o819, some (b49, ⟨[.slice A830 c825.2.code.length c831, .int .i64 c825.2.pc, .int .i64 (c825.2.regs 0), .int .i64 (c825.2.regs 1), .int .i64 (c825.2.regs 2), .int .i64 (c825.2.regs 3), .int .i64 (c825.2.regs 4), .int .i64 (c825.2.regs 5), .int .i64 (c825.2.regs 6), .int .i64 (c825.2.regs 7), .int .i64 (c825.2.regs 8), .int .i64 (c825.2.regs 9), .int .i64 (c825.2.regs 10), .int .i64 (c825.2.regs 11), .int .i64 (c825.2.regs 12), .int .i64 (c825.2.regs 13), .int .i64 (c825.2.regs 14), .int .i64 (c825.2.regs 15), .slice A834 c825.2.words.length c835, .slice A839 c825.2.input.length c840, .slice A843 c825.2.out.length c844, .int .u8 (c825.2.how.toNat : Int), .int .i64 c825.2.halting], 58, 23, true⟩), o836, o845] ∧ Hp.le τ τ' ∧ zd (Ty.int .i64) 2 τ' (.slice A817 c812.length c818) c812 o819 ∧ RdT Ty.u8 τ' (.slice A830 c825.2.code.length c831) c825.2.code ∧ zd (Ty.int .i64) 2 τ' (.slice A834 c825.2.words.length c835) c825.2.words o836 ∧ RdT (Ty.int .i64) τ' (.slice A839 c825.2.input.length c840) c825.2.input ∧ zd (Ty.int .i64) 2 τ' (.slice A843 c825.2.out.length c844) c825.2.out o845) ?_ ?_
          ·have hF := h881
           rcases zi hF with ⟨hb882, hF⟩ | ⟨hb882, hF⟩
           ·refine zP (congrArg (fun x => isB (.bool x) true) hb882) ?_
            refine zb hO 1 [] [(3, zqD b49), (8, .slice A808 c803.length c809), (9, .slice A817 c812.length c818), (11, .int .u8 c825.1), (74, .bool c864), (75, zqD b49)] zqr fun j => ?_
            obtain ⟨c883, h884, hF⟩ := bind_some hF
            refine z6 (hs := [_, _]) (vs := [_, _, _]) hO (zlQ (q0 := (⟨c825.2.code, c825.2.pc, c825.2.regs, c825.2.words, c825.2.input, c825.2.out, c825.2.how, c825.2.halting⟩ : zf)) r832 w837 r841 w846 h884) rfl fun _ σ _ _ hO h885 h886 => ?_
            have hL := hL.trans h885
            have w811 := w811.le h885
            have w820 := w820.le h885
            have r832 := r832.le h885
            have w837 := w837.le h885
            have r841 := r841.le h885
            have w846 := w846.le h885
            obtain ⟨v887, o890, rfl, rfl, w891⟩ := h886
            obtain ⟨A888, c889, rfl, -⟩ := w891.form
            have hO : Obs _ _ [_, _, _, _, _, _] := hO
            have hO := hO.sel [0, 1, 3, 4, 5, 2] (by decide)
            have hO : Obs _ _ [_, _, _, _, _, _] := hO
            refine zb hO 1 [] [(3, zqD b49), (9, .slice A817 c812.length c818), (11, .int .u8 c825.1), (74, .bool c864), (76, .slice A888 c883.length c889), (77, .slice A808 c803.length c809)] zqr fun j => ?_
            obtain ⟨c892, h893, hF⟩ := bind_some hF
            have hO := hO.sel [1, 2, 3, 4, 5, 0] (by decide)
            refine z6 (hs := [_, _, _, _]) (vs := [_, _]) hO (Ctr.lendG w891 (zjy (fun _ _ _ _ h => h)) fun _ lL0 rL0 => Ctr.lendG (w811.le lL0) (fun _ _ _ _ h => h) fun _ lL1 rL1 => ziE (rL0.le lL1) rL1 h893) rfl fun _ σ _ _ hO h894 h895 => ?_
            have hL := hL.trans h894
            have w820 := w820.le h894
            have w891 := w891.le h894
            have w811 := w811.le h894
            have r832 := r832.le h894
            have w837 := w837.le h894
            have r841 := r841.le h894
            have w846 := w846.le h894
            obtain ⟨_, rfl, _, rfl, rfl, rfl⟩ := h895
            have hO : Obs _ _ [_, _, _, _, _, _] := hO
            have hO := hO.sel [5, 0, 1, 2, 3, 4] (by decide)
            have hO : Obs _ _ [_, _, _, _, _, _] := hO
            refine zA (congrArg Value.bool hb882) ?_
            refine zh ?_
            injection hF with hF
            subst hF
            refine zg ?_
            have hO := hO.sel [1000, 1, 2, 3, 4] (by decide)
            exact ⟨rfl, _, zqB zqo, hO, hL, w820, r832, w837, r841, w846⟩
           ·refine zX (congrArg (fun x => isB (.bool x) true) hb882) ?_
            refine zA (congrArg Value.bool hb882) ?_
            refine zh ?_
            injection hF with hF
            subst hF
            refine zg ?_
            have hO := hO.sel [1000, 1, 2, 3, 4] (by decide)
            exact ⟨rfl, _, zqB zqo, hO, hL, w820, r832, w837, r841, w846⟩
          ·rintro e σ ⟨_, hA, hO, hL, w820, r832, w837, r841, w846⟩
           rw [← zC _ _ hA]
           refine zb hO 1 [] [(3, zqD b49), (9, .slice A817 c812.length c818), (11, .int .u8 c825.1), (80, .bool c880)] zqp fun j => ?_
           have hO := hO.sel [1, 2, 3, 4] (by decide)
           have hO : Obs _ _ [_, _, _, _] := hO
           obtain ⟨c896, h897, hF⟩ := bind_some hF
           refine zbC 2 (fun e' σ' => ∃ (τ' : Hp), agr [(85, .bool c896), (3, zqD b49), (11, .int .u8 c825.1)] e' ∧ Obs τ' σ' [none, some (b49, ⟨[.slice A830 c825.2.code.length c831, .int .i64 c825.2.pc, .int .i64 (c825.2.regs 0), .int .i64 (c825.2.regs 1), .int .i64 (c825.2.regs 2), .int .i64 (c825.2.regs 3), .int .i64 (c825.2.regs 4), .int .i64 (c825.2.regs 5), .int .i64 (c825.2.regs 6), .int .i64 (c825.2.regs 7), .int .i64 (c825.2.regs 8), .int .i64 (c825.2.regs 9), .int .i64 (c825.2.regs 10), .int .i64 (c825.2.regs 11), .int .i64 (c825.2.regs 12), .int .i64 (c825.2.regs 13), .int .i64 (c825.2.regs 14), .int .i64 (c825.2.regs 15), .slice A834 c825.2.words.length c835, .slice A839 c825.2.input.length c840, .slice A843 c825.2.out.length c844, .int .u8 (c825.2.how.toNat : Int), .int .i64 c825.2.halting], 58, 23, true⟩), o836, o845] ∧ Hp.le τ τ' ∧ RdT Ty.u8 τ' (.slice A830 c825.2.code.length c831) c825.2.code ∧ zd (Ty.int .i64) 2 τ' (.slice A834 c825.2.words.length c835) c825.2.words o836 ∧ RdT (Ty.int .i64) τ' (.slice A839 c825.2.input.length c840) c825.2.input ∧ zd (Ty.int .i64) 2 τ' (.slice A843 c825.2.out.length c844) c825.2.out o845) ?_ ?_
           ·have hF := h897
            rcases zi hF with ⟨hb898, hF⟩ | ⟨hb898, hF⟩
            ·refine zP (congrArg (fun x => isB (.bool x) true) hb898) ?_
             refine zb hO 1 [] [(3, zqD b49), (9, .slice A817 c812.length c818), (11, .int .u8 c825.1), (80, .bool c880), (81, zqD b49)] zqq fun j => ?_
             obtain ⟨c899, h900, hF⟩ := bind_some hF
             refine z6 (hs := [_]) (vs := [_, _, _]) hO (zi2 (q0 := (⟨c825.2.code, c825.2.pc, c825.2.regs, c825.2.words, c825.2.input, c825.2.out, c825.2.how, c825.2.halting⟩ : zf)) r832 w837 r841 w846 h900) rfl fun _ σ _ _ hO h901 h902 => ?_
             have hL := hL.trans h901
             have w820 := w820.le h901
             have r832 := r832.le h901
             have w837 := w837.le h901
             have r841 := r841.le h901
             have w846 := w846.le h901
             obtain ⟨v903, o906, rfl, rfl, w907⟩ := h902
             obtain ⟨A904, c905, rfl, -⟩ := w907.form
             have hO : Obs _ _ [_, _, _, _, _] := hO
             have hO := hO.sel [0, 2, 3, 4, 1] (by decide)
             have hO : Obs _ _ [_, _, _, _, _] := hO
             refine zb hO 1 [] [(3, zqD b49), (11, .int .u8 c825.1), (80, .bool c880), (82, .slice A904 c899.length c905), (83, .slice A817 c812.length c818)] zqq fun j => ?_
             obtain ⟨c908, h909, hF⟩ := bind_some hF
             have hO := hO.sel [1, 2, 3, 4, 0] (by decide)
             refine z6 (hs := [_, _, _]) (vs := [_, _]) hO (Ctr.lendG w907 (zjy (fun _ _ _ _ h => h)) fun _ lL0 rL0 => Ctr.lendG (w820.le lL0) (fun _ _ _ _ h => h) fun _ lL1 rL1 => ziE (rL0.le lL1) rL1 h909) rfl fun _ σ _ _ hO h910 h911 => ?_
             have hL := hL.trans h910
             have w907 := w907.le h910
             have w820 := w820.le h910
             have r832 := r832.le h910
             have w837 := w837.le h910
             have r841 := r841.le h910
             have w846 := w846.le h910
             obtain ⟨_, rfl, _, rfl, rfl, rfl⟩ := h911
             have hO : Obs _ _ [_, _, _, _, _] := hO
             have hO := hO.sel [4, 0, 1, 2, 3] (by decide)
             have hO : Obs _ _ [_, _, _, _, _] := hO
             refine zA (congrArg Value.bool hb898) ?_
             refine zh ?_
             injection hF with hF
             subst hF
             refine zg ?_
             have hO := hO.sel [1000, 1, 2, 3] (by decide)
             exact ⟨rfl, _, zqB zqn, hO, hL, r832, w837, r841, w846⟩
            ·refine zX (congrArg (fun x => isB (.bool x) true) hb898) ?_
             refine zA (congrArg Value.bool hb898) ?_
             refine zh ?_
             injection hF with hF
             subst hF
             refine zg ?_
             have hO := hO.sel [1000, 1, 2, 3] (by decide)
             exact ⟨rfl, _, zqB zqn, hO, hL, r832, w837, r841, w846⟩
           ·rintro e σ ⟨_, hA, hO, hL, r832, w837, r841, w846⟩
            rw [← zC _ _ hA]
            refine zb hO 1 [] [(3, zqD b49), (11, .int .u8 c825.1), (86, .bool c896)] zqo fun j => ?_
            have hO := hO.sel [1, 2, 3] (by decide)
            have hO : Obs _ _ [_, _, _] := hO
            obtain ⟨c912, h913, hF⟩ := bind_some hF
            refine zbC 2 (fun e' σ' => ∃ (τ' : Hp), agr [(91, .bool c912)] e' ∧ Obs τ' σ' [none, none, none] ∧ Hp.le τ τ') ?_ ?_
            ·have hF := h913
             rcases zi hF with ⟨hb914, hF⟩ | ⟨hb914, hF⟩
             ·refine zP (congrArg (fun x => isB (.bool x) true) hb914) ?_
              refine zb hO 1 [] [(11, .int .u8 c825.1), (86, .bool c896), (87, zqD b49)] zqo fun j => ?_
              obtain ⟨c915, h916, hF⟩ := bind_some hF
              refine z6 (hs := []) (vs := [_, _, _]) hO (zjc (q0 := (⟨c825.2.code, c825.2.pc, c825.2.regs, c825.2.words, c825.2.input, c825.2.out, c825.2.how, c825.2.halting⟩ : zf)) r832 w837 r841 w846 h916) rfl fun _ σ _ _ hO h917 h918 => ?_
              have hL := hL.trans h917
              obtain ⟨v919, v923, o926, v928, v932, o935, rfl, rfl, r922, w927, r931, w936⟩ := h918
              obtain ⟨A920, c921, rfl, -⟩ := r922.form
              obtain ⟨A924, c925, rfl, -⟩ := w927.form
              obtain ⟨A929, c930, rfl, -⟩ := r931.form
              obtain ⟨A933, c934, rfl, -⟩ := w936.form
              have hO : Obs _ _ [_, _, _] := hO
              refine zb hO 2 [] [(86, .bool c896), (90, .bool (c915.1 == c825.1))] zqn fun j => ?_
              refine zA (congrArg Value.bool hb914) ?_
              refine zh ?_
              injection hF with hF
              subst hF
              refine zg ?_
              have hO := hO.sel [1000, 1001, 1002] (by decide)
              exact ⟨rfl, _, zqB (trivial), hO, hL⟩
             ·refine zX (congrArg (fun x => isB (.bool x) true) hb914) ?_
              refine zA (congrArg Value.bool hb914) ?_
              refine zh ?_
              injection hF with hF
              subst hF
              refine zg ?_
              have hO := hO.sel [1000, 1001, 1002] (by decide)
              exact ⟨rfl, _, zqB (trivial), hO, hL⟩
            ·rintro e σ ⟨_, hA, hO, hL⟩
             rw [← zC _ _ hA]
             refine zb hO 1 [] [(92, .bool c912)] zqm fun j => ?_
             have hO := hO.sel [] (by decide)
             have hO : Obs _ _ [] := hO
             obtain ⟨c937, h938, hF⟩ := bind_some hF
             refine zbC 2 (fun e' σ' => ∃ (τ' : Hp), agr [(94, .bool c937)] e' ∧ Obs τ' σ' [] ∧ Hp.le τ τ') ?_ ?_
             ·have hF := h938
              rcases zi hF with ⟨hb939, hF⟩ | ⟨hb939, hF⟩
              ·refine zP (congrArg (fun x => isB (.bool x) true) hb939) ?_
               obtain ⟨c940, h941, hF⟩ := bind_some hF
               refine zr hO (zeG h941) rfl fun _ σ _ _ hO h942 h943 => ?_
               have hL := hL.trans h942
               obtain ⟨rfl, rfl⟩ := h943
               have hO : Obs _ _ [] := hO
               refine zA (congrArg Value.bool hb939) ?_
               refine zh ?_
               injection hF with hF
               subst hF
               refine zg ?_
               exact ⟨rfl, _, zqB (trivial), hO, hL⟩
              ·refine zX (congrArg (fun x => isB (.bool x) true) hb939) ?_
               refine zA (congrArg Value.bool hb939) ?_
               refine zh ?_
               injection hF with hF
               subst hF
               refine zg ?_
               exact ⟨rfl, _, zqB (trivial), hO, hL⟩
             ·rintro e σ ⟨_, hA, hO, hL⟩
              rw [← zC _ _ hA]
              refine za hO [] [(2, .bool c937)] zqm fun j => ?_
              refine zz (zJ (zE (zE (zJ (zE ?_)))))
              injection hF with hF
              subst hF
              exact hQ _ _ _ _ _ rfl hO hL ⟨rfl, rfl⟩
       ·refine zk (congrArg Value.bool hb852) ?_
        refine zv (zg (zK (zn (zU (za hO [] [(1, zqD b2), (3, zqD b49), (5, zqC (IntKind.i64.wrap (x628 + 1)))] zqo fun j => ?_)))))
        refine zg (zn ?_)
        have hO := hO.sel [0, 4, 5, 6] (by decide)
        exact ⟨n788, Nat.lt_succ_self _, A830, c831, c825.2.code, c825.2.pc, c825.2.regs, A834, c835, o836, c825.2.words, A839, c840, c825.2.input, A843, c844, o845, c825.2.out, c825.2.how, c825.2.halting, (IntKind.i64.wrap (x628 + 1)), _, zqB zqn, hO, hL, r603, r604, r605, r832, w837, r841, w846, hF⟩
     ·refine zk (congrArg Value.bool hb789) ?_
      refine zbq (zbm (zbp (zn ?_)))
      obtain ⟨c944, h945, hF⟩ := bind_some hF
      refine zr hO (zeG h945) rfl fun _ σ _ _ hO h946 h947 => ?_
      have hL := hL.trans h946
      have r603 := r603.le h946
      have r604 := r604.le h946
      have r605 := r605.le h946
      have r609 := r609.le h946
      have w616 := w616.le h946
      have r620 := r620.le h946
      have w625 := w625.le h946
      obtain ⟨rfl, rfl⟩ := h947
      have hO : Obs _ _ [_, _, _, _] := hO
      refine za hO [] [(2, .bool c944)] zqm fun j => ?_
      refine zp ?_
      injection hF with hF
      subst hF
      have hO := hO.sel [] (by decide)
      exact hQ _ _ _ _ _ rfl hO hL ⟨rfl, rfl⟩
end Go.Proofs.YtgkllgoelpfdkaaGreat
