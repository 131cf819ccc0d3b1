import Derived.Test.YtnhboaaikehpoaaG5
namespace Go.Proofs.Ytnhboaaikehpoaa
open Go.Ab Go.RowKit
set_option linter.unusedVariables false
set_option linter.unusedSimpArgs false
set_option maxRecDepth 10000
set_option maxHeartbeats 1000000
theorem zqA {τ : Hp} {v0 : Value} {p0 : (List zr)} {v1 : Value} {p1 : (List zr)} (r0 : RdT zt τ v0 p0) (r1 : RdT zt τ v1 p1) {rr : Bool} (hF : ziN p0 p1 = some rr) :
  Ctr Try.prog 7 #[v0, v1] τ [] (fun v τ' vs' => v = .bool rr ∧ vs' = []) := by
 obtain ⟨A0, c0, rfl, -⟩ := r0.form
 obtain ⟨A1, c1, rfl, -⟩ := r1.form
 refine zbI (args := [.slice A0 p0.length c0, .slice A1 p1.length c1]) hm Try.func7 s7 rfl fun w0 σ hO Q hQ => ?_
 unfold ziN at hF
 have hL := Hp.le.refl τ
 show wpn _ _ a7.body _ _ _
 unfold a7
 dsimp only
 refine zh hO [] [] [0, 1] zrV fun j => ?_
 refine zo (zh hO [] [(20, .bool (decide ((IntKind.i64.wrap ((p0.length : Int) + (p1.length : Int))) > 3000)))] [0, 1] zrW fun j => ?_)
 refine zE hF rfl (fun hF => ?_) fun hF => ?_
 ·refine zo ?_
  obtain ⟨c4, h5, hF⟩ := zsg hF
  refine zbr hO (zgn h5) rfl fun _ σ _ _ hO h6 h7 => ?_
  have hL := hL.trans h6
  obtain ⟨rfl, rfl⟩ := h7
  have hO : Obs _ _ [] := hO
  refine zX hO [] [(4, .bool c4)] zrU fun j => ?_
  refine zbq ?_
  cases hF
  exact hQ _ _ _ _ _ rfl hO hL ⟨rfl, rfl⟩
 refine zS (zd hO 1 [] [(23, zsh A0 p0 c0)] [0, 1] zrW fun j => ?_)
 obtain ⟨c8, h9, hF⟩ := zsg hF
 refine zbr hO (zgB (r0.le hL) h9) rfl fun _ σ _ _ hO h10 h11 => ?_
 have hL := hL.trans h10
 obtain ⟨v12, v16, rfl, rfl, r13, r17⟩ := h11
 obtain ⟨A14, c15, rfl, -⟩ := r13.form
 obtain ⟨A18, c19, rfl, -⟩ := r17.form
 have hO : Obs _ _ [] := hO
 refine zd hO 4 [] [(25, .agg #[(zsh A14 c8.1.Structs c15), (zsh A18 c8.1.Funcs c19)]), (26, zsa c8.2.1), (27, zsa c8.2.2)] [0, 1] zrY fun j => ?_
 refine zbg hO fun b20 σ hO => ?_
 have hO := zsf1 hO
 refine zs hO (i := 0) rfl (off := 0) rfl rfl rfl rfl (Nat.le_of_ble_eq_true rfl) rfl fun σ hO => ?_
 have hO := zsf1 hO
 refine zh hO [] [(7, zsa c8.2.2)] [0, 1, 5] zrX fun j => ?_
 refine zd hO 1 [] [(29, zsh A1 p1 c1)] [0, 1, 5, 7] zrY fun j => ?_
 obtain ⟨c21, h22, hF⟩ := zsg hF
 refine zbr hO (zgB (r1.le hL) h22) rfl fun _ σ _ _ hO h23 h24 => ?_
 have hL := hL.trans h23
 have r13 := r13.le h23
 have r17 := r17.le h23
 obtain ⟨v25, v29, rfl, rfl, r26, r30⟩ := h24
 obtain ⟨A27, c28, rfl, -⟩ := r26.form
 obtain ⟨A31, c32, rfl, -⟩ := r30.form
 have hO := zsf1 hO
 refine zd hO 4 [] [(31, .agg #[(zsh A27 c21.1.Structs c28), (zsh A31 c21.1.Funcs c32)]), (32, zsa c21.2.1), (33, zsa c21.2.2)] [0, 1, 5, 7] zr0 fun j => ?_
 refine zbg hO fun b33 σ hO => ?_
 have hO := zsf2 hO
 refine zs hO (i := 1) rfl (off := 0) rfl rfl rfl rfl (Nat.le_of_ble_eq_true rfl) rfl fun σ hO => ?_
 have hO := zsf2 hO
 refine zh hO [] [(9, zsa c21.2.1), (10, zsa c21.2.2)] [0, 1, 5, 7, 8] zr0 fun j => ?_
 refine zB (T := zt) (l := ([] : List zr)) (cs := []) hO rfl rfl rfl (by decide) fun _ σ o36 w37 hO => ?_
 obtain ⟨A34, c35, rfl, -⟩ := w37.form
 have hO := zsf3 hO
 refine zbE hO 1 [] [(0, zsh A0 p0 c0), (1, zsh A1 p1 c1), (5, zsb b20), (7, zsa c8.2.2), (8, zsb b33), (9, zsa c21.2.1), (10, zsa c21.2.2), (35, zsh A34 ([] : List zr) c35), (36, zsh A0 p0 c0)] zr2 fun j => ?_
 obtain ⟨_, hr42, hF⟩ := zsg hF
 refine zH (T := zt) hO w37 (i := 2) rfl rfl rfl (r0.le hL) hr42 (by decide) fun _ σ o40 w41 hO => ?_
 obtain ⟨A38, c39, rfl, -⟩ := w41.form
 have hO := zsf3 hO
 refine zd hO 1 [] [(38, zsh A1 p1 c1)] [0, 5, 7, 8, 9, 10, 37] zr1 fun j => ?_
 obtain ⟨_, hr47, hF⟩ := zsg hF
 refine zH (T := zt) hO w41 (i := 2) rfl rfl rfl (r1.le hL) hr47 (by decide) fun _ σ o45 w46 hO => ?_
 obtain ⟨A43, c44, rfl, -⟩ := w46.form
 have hO := zsf3 hO
 obtain ⟨_, h49, r48, hO⟩ := w46.share hO (i := 2) rfl
 have hL := hL.trans h49
 have r13 := r13.le h49
 have r17 := r17.le h49
 have r26 := r26.le h49
 have r30 := r30.le h49
 have hO := zsf3 hO
 obtain ⟨c50, h51, hF⟩ := zsg hF
 refine zbr hO (zgB r48 h51) rfl fun _ σ _ _ hO h52 h53 => ?_
 have hL := hL.trans h52
 have r48 := r48.le h52
 have r13 := r13.le h52
 have r17 := r17.le h52
 have r26 := r26.le h52
 have r30 := r30.le h52
 obtain ⟨v54, v58, rfl, rfl, r55, r59⟩ := h53
 obtain ⟨A56, c57, rfl, -⟩ := r55.form
 obtain ⟨A60, c61, rfl, -⟩ := r59.form
 have hO := zsf3 hO
 refine zd hO 4 [] [(41, .agg #[(zsh A56 c50.1.Structs c57), (zsh A60 c50.1.Funcs c61)]), (42, zsa c50.2.1), (43, zsa c50.2.2)] [0, 5, 7, 8, 9, 10] zr2 fun j => ?_
 refine zbg hO fun b62 σ hO => ?_
 have hO := zsf4 hO
 refine zs hO (i := 3) rfl (off := 0) rfl rfl rfl rfl (Nat.le_of_ble_eq_true rfl) rfl fun σ hO => ?_
 have hO := zsf4 hO
 refine zh hO [] [(12, zsa c50.2.1), (13, zsa c50.2.2)] [0, 5, 7, 8, 9, 10, 11] zr2 fun j => ?_
 refine zo (zh hO [] [(45, .bool (c8.2.2 == 7))] [0, 5, 7, 8, 9, 10, 11, 12, 13] zr3 fun j => ?_)
 refine zE hF rfl (fun hF => ?_) fun hF => ?_
 ·refine zo ?_
  obtain ⟨c64, h65, hF⟩ := zsg hF
  refine zbr hO (zgn h65) rfl fun _ σ _ _ hO h66 h67 => ?_
  have hL := hL.trans h66
  have r13 := r13.le h66
  have r17 := r17.le h66
  have r26 := r26.le h66
  have r30 := r30.le h66
  have r55 := r55.le h66
  have r59 := r59.le h66
  obtain ⟨rfl, rfl⟩ := h67
  have hO := zsf4 hO
  refine zX hO [] [(4, .bool c64)] zrU fun j => ?_
  refine zbq ?_
  cases hF
  have hO := hO.sel []
  exact hQ _ _ _ _ _ rfl hO hL ⟨rfl, rfl⟩
 refine zS (zo (zh hO [] [(48, .bool (c21.2.2 == 7))] [0, 5, 7, 8, 9, 10, 11, 12, 13] zr3 fun j => ?_))
 refine zE hF rfl (fun hF => ?_) fun hF => ?_
 ·refine zo (zbE hO 7 [] [(60, .bool ((c50.2.2 == c21.2.2) && (c50.2.1 == (IntKind.i64.wrap ((p0.length : Int) + c21.2.1)))))] (And.intro (And.intro rfl rfl) (fun _ => zr9 trivial)) fun j => ?_)
  have hO := hO.sel []
  have hO : Obs _ _ [] := hO
  obtain ⟨c69, h70, hF⟩ := zsg hF
  refine zcr 2 (fun e' σ' => ∃ (τ' : Hp), agr [(62, .bool c69)] e' ∧ Obs τ' σ' [] ∧ Hp.le τ τ') ?_ ?_
  ·have hF := h70
   rcases zbD hF with ⟨hb71, hF⟩ | ⟨hb71, hF⟩
   ·refine zbv (zse hb71) ?_
    obtain ⟨c72, h73, hF⟩ := zsg hF
    refine zbr hO (zgn h73) rfl fun _ σ _ _ hO h74 h75 => ?_
    have hL := hL.trans h74
    obtain ⟨rfl, rfl⟩ := h75
    have hO : Obs _ _ [] := hO
    refine zM (zsc hb71) ?_
    refine za ?_
    cases hF
    refine zj ?_
    exact ⟨rfl, _, zr9 (trivial), hO, hL⟩
   refine zbw (zse hb71) ?_
   refine zM (zsc hb71) ?_
   refine za ?_
   cases hF
   refine zj ?_
   exact ⟨rfl, _, zr9 (trivial), hO, hL⟩
  rintro e σ ⟨_, hA, hO, hL⟩
  rw [← zbc _ _ hA]
  refine zX hO [] [(4, .bool c69)] zrU fun j => ?_
  refine zbq ?_
  cases hF
  exact hQ _ _ _ _ _ rfl hO hL ⟨rfl, rfl⟩
 refine zS (zo (zh hO [] [(68, .bool ((c8.2.2 == 11) || (c21.2.2 == 11)))] [5, 8, 11, 13] (And.intro (And.intro rfl rfl) (fun _ => zr9 zrX)) fun j => ?_))
 refine zE hF rfl (fun hF => ?_) fun hF => ?_
 ·refine zo (zbE hO 3 [] [(71, .bool (c50.2.2 == 11))] zrU fun j => ?_)
  have hO := hO.sel []
  have hO : Obs _ _ [] := hO
  obtain ⟨c77, h78, hF⟩ := zsg hF
  refine zcr 2 (fun e' σ' => ∃ (τ' : Hp), agr [(73, .bool c77)] e' ∧ Obs τ' σ' [] ∧ Hp.le τ τ') ?_ ?_
  ·have hF := h78
   rcases zbD hF with ⟨hb79, hF⟩ | ⟨hb79, hF⟩
   ·refine zbv (zse hb79) ?_
    obtain ⟨c80, h81, hF⟩ := zsg hF
    refine zbr hO (zgn h81) rfl fun _ σ _ _ hO h82 h83 => ?_
    have hL := hL.trans h82
    obtain ⟨rfl, rfl⟩ := h83
    have hO : Obs _ _ [] := hO
    refine zM (zsc hb79) ?_
    refine za ?_
    cases hF
    refine zj ?_
    exact ⟨rfl, _, zr9 (trivial), hO, hL⟩
   refine zbw (zse hb79) ?_
   refine zM (zsc hb79) ?_
   refine za ?_
   cases hF
   refine zj ?_
   exact ⟨rfl, _, zr9 (trivial), hO, hL⟩
  rintro e σ ⟨_, hA, hO, hL⟩
  rw [← zbc _ _ hA]
  refine zX hO [] [(4, .bool c77)] zrU fun j => ?_
  refine zbq ?_
  cases hF
  exact hQ _ _ _ _ _ rfl hO hL ⟨rfl, rfl⟩
 refine zS (zbp (zh hO [] [(75, zsb b20)] [5, 8, 11, 13] zrY fun j => ?_))
 refine zbp (zh hO [0] [(76, zsh A14 c8.1.Structs c15)] [5, 8, 11, 13, 75] (And.intro (And.intro rfl rfl) zrZ) fun j => ?_)
 refine zbp (zX hO [] [(5, zsb b20), (8, zsb b33), (11, zsb b62), (13, zsa c50.2.2), (75, zsb b20), (76, zsh A14 c8.1.Structs c15), (78, zsb b33)] zr0 fun j => ?_)
 refine zbp (zh hO [1] [(79, zsh A27 c21.1.Structs c28)] [5, 8, 11, 13, 75, 76, 78] (And.intro (And.intro rfl rfl) zr1) fun j => ?_)
 refine zbp (zh hO [] [(82, .pointer (some ⟨b20, 1, none⟩))] [8, 11, 13, 75, 76, 78, 79] zr1 fun j => ?_)
 refine zbp (zh hO [0] [(83, zsh A18 c8.1.Funcs c19)] [8, 11, 13, 75, 76, 78, 79, 82] (And.intro (And.intro rfl rfl) zr2) fun j => ?_)
 refine zbp (zh hO [] [(85, .pointer (some ⟨b33, 1, none⟩))] [11, 13, 75, 76, 78, 79, 82, 83] zr2 fun j => ?_)
 refine zbp (zh hO [1] [(86, zsh A31 c21.1.Funcs c32)] [11, 13, 75, 76, 78, 79, 82, 83, 85] (And.intro (And.intro rfl rfl) zr3) fun j => ?_)
 refine zh7 (fun e' σ' => ∃ (b115 : Nat) (A116 : Option Addr) (c117 : Nat) (o118 : Ob) (x119 : List zl) (A121 : Option Addr) (c122 : Nat) (o123 : Ob) (x124 : List zi) (τ' : Hp), agr [(11, zsb b62), (13, zsa c50.2.2), (14, zsb b115)] e' ∧ Obs τ' σ' [some (b62, ⟨[zsh A56 c50.1.Structs c57, zsh A60 c50.1.Funcs c61], 27, 2, true⟩), some (b115, ⟨[zsh A116 x119 c117, zsh A121 x124 c122], 27, 2, true⟩), o118, o123] ∧ Hp.le τ τ' ∧ RdT zn τ' (zsh A56 c50.1.Structs c57) c50.1.Structs ∧ RdT zk τ' (zsh A60 c50.1.Funcs c61) c50.1.Funcs ∧ ze zn 71 τ' (zsh A116 x119 c117) x119 o118 ∧ ze zk 50 τ' (zsh A121 x124 c122) x124 o123 ∧ zif c50 x119 x124 = some rr) ?_ ?_
 ·refine zoN ?_
  obtain ⟨_, hr152, hF⟩ := zsg hF
  obtain ⟨_, hr157, hF⟩ := zsg hF
  obtain ⟨_, hr166, hF⟩ := zsg hF
  obtain ⟨_, hr171, hF⟩ := zsg hF
  refine zbN ?_ ?_
  ·refine zm (zv (zB (T := zn) (l := ([] : List zl)) (cs := []) hO rfl rfl rfl (by decide) fun _ σ o146 w147 hO => ?_))
   obtain ⟨A144, c145, rfl, -⟩ := w147.form
   have hO := zsf5 hO
   refine za (zu ⟨(zf rfl (hO.val (i := 1) (off := 1) (agg := false) (n := 1) rfl rfl) rfl), (zf rfl (hO.val (i := 0) (off := 1) (agg := false) (n := 1) rfl rfl) rfl), (zf rfl (hO.val (i := 1) (off := 0) (agg := false) (n := 1) rfl rfl) rfl), (zf rfl (hO.val (i := 0) (off := 0) (agg := false) (n := 1) rfl rfl) rfl), trivial⟩ ?_)
   refine za (zbN ?_ ?_)
   ·refine zm (zv (zH (T := zn) hO w147 (i := 4) rfl rfl rfl r13 hr152 (by decide) fun _ σ o150 w151 hO => ?_))
    obtain ⟨A148, c149, rfl, -⟩ := w151.form
    have hO := zsf5 hO
    refine za (zu ⟨(zf rfl (hO.val (i := 1) (off := 1) (agg := false) (n := 1) rfl rfl) rfl), (zf rfl (hO.val (i := 0) (off := 1) (agg := false) (n := 1) rfl rfl) rfl), (zf rfl (hO.val (i := 1) (off := 0) (agg := false) (n := 1) rfl rfl) rfl), trivial⟩ ?_)
    refine za (zbN ?_ ?_)
    ·refine zm (zv (zH (T := zn) hO w151 (i := 4) rfl rfl rfl r26 hr157 (by decide) fun _ σ o155 w156 hO => ?_))
     obtain ⟨A153, c154, rfl, -⟩ := w156.form
     have hO := zsf5 hO
     refine za (zu ⟨(zf rfl (hO.val (i := 1) (off := 1) (agg := false) (n := 1) rfl rfl) rfl), (zf rfl (hO.val (i := 0) (off := 1) (agg := false) (n := 1) rfl rfl) rfl), trivial⟩ ?_)
     refine za (zbN ?_ ?_)
     ·refine zm (zv (zB (T := zk) (l := ([] : List zi)) (cs := []) hO rfl rfl rfl (by decide) fun _ σ o160 w161 hO => ?_))
      obtain ⟨A158, c159, rfl, -⟩ := w161.form
      have hO := zsf6 hO
      refine za (zu ⟨(zf rfl (hO.val (i := 1) (off := 1) (agg := false) (n := 1) rfl rfl) rfl), (zf rfl (hO.val (i := 0) (off := 1) (agg := false) (n := 1) rfl rfl) rfl), (zf rfl (hO.val (i := 1) (off := 0) (agg := false) (n := 1) rfl rfl) rfl), (zf rfl (hO.val (i := 0) (off := 0) (agg := false) (n := 1) rfl rfl) rfl), trivial⟩ ?_)
      refine za (zbN ?_ ?_)
      ·refine zm (zv (zH (T := zk) hO w161 (i := 5) rfl rfl rfl r17 hr166 (by decide) fun _ σ o164 w165 hO => ?_))
       obtain ⟨A162, c163, rfl, -⟩ := w165.form
       have hO := zsf6 hO
       refine za (zu ⟨(zf rfl (hO.val (i := 1) (off := 1) (agg := false) (n := 1) rfl rfl) rfl), trivial⟩ ?_)
       refine za (zbN ?_ ?_)
       ·refine zm (zH (T := zk) hO w165 (i := 5) rfl rfl rfl r30 hr171 (by decide) fun _ σ o169 w170 hO => ?_)
        obtain ⟨A167, c168, rfl, -⟩ := w170.form
        have hO := zsf6 hO
        refine za (zbp (zh hO [] [(88, .agg #[(zsh A153 ((([] : List zl) ++ c8.1.Structs) ++ c21.1.Structs) c154), (zsh A167 ((([] : List zi) ++ c8.1.Funcs) ++ c21.1.Funcs) c168)])] [11, 13, 75, 76, 78, 79, 82, 83, 85, 86] zr4 fun j => ?_))
        refine zm (zv (zbg hO fun b172 σ hO => ?_))
        have hO := zsf7 hO
        refine za (zu ⟨(zf rfl (hO.val (i := 1) (off := 1) (agg := false) (n := 1) rfl rfl) rfl), (zf rfl (hO.val (i := 0) (off := 1) (agg := false) (n := 1) rfl rfl) rfl), (zf rfl (hO.val (i := 1) (off := 0) (agg := false) (n := 1) rfl rfl) rfl), (zf rfl (hO.val (i := 0) (off := 0) (agg := false) (n := 1) rfl rfl) rfl), trivial⟩ ?_)
        refine za (zm (zs hO (i := 6) rfl (off := 0) rfl rfl rfl rfl (Nat.le_of_ble_eq_true rfl) rfl fun σ hO => ?_))
        have hO := zsf7 hO
        refine za (zbL (zj (zp ?_)))
        have hO := hO.sel [3, 6, 4, 5]
        exact ⟨b172, A153, c154, o155, ((([] : List zl) ++ c8.1.Structs) ++ c21.1.Structs), A167, c168, o169, ((([] : List zi) ++ c8.1.Funcs) ++ c21.1.Funcs), _, zr9 zrV, hO, hL, r55, r59, w156, w170, hF⟩
       refine zm (zv (zbg hO fun b172 σ hO => ?_))
       have hO := zsf7 hO
       refine za (zu ⟨(zf rfl (hO.val (i := 1) (off := 1) (agg := false) (n := 1) rfl rfl) rfl), (zf rfl (hO.val (i := 0) (off := 1) (agg := false) (n := 1) rfl rfl) rfl), (zf rfl (hO.val (i := 1) (off := 0) (agg := false) (n := 1) rfl rfl) rfl), (zf rfl (hO.val (i := 0) (off := 0) (agg := false) (n := 1) rfl rfl) rfl), trivial⟩ ?_)
       refine za (zm (zH (T := zk) hO w165 (i := 5) rfl rfl rfl r30 hr171 (by decide) fun _ σ o169 w170 hO => ?_))
       obtain ⟨A167, c168, rfl, -⟩ := w170.form
       have hO := zsf7 hO
       refine za (zbp (zh hO [] [(88, .agg #[(zsh A153 ((([] : List zl) ++ c8.1.Structs) ++ c21.1.Structs) c154), (zsh A167 ((([] : List zi) ++ c8.1.Funcs) ++ c21.1.Funcs) c168)])] [11, 13, 14] zrX fun j => ?_))
       refine zm (zs hO (i := 6) rfl (off := 0) rfl rfl rfl rfl (Nat.le_of_ble_eq_true rfl) rfl fun σ hO => ?_)
       have hO := zsf7 hO
       refine za (zbL (zj (zp ?_)))
       have hO := hO.sel [3, 6, 4, 5]
       exact ⟨b172, A153, c154, o155, ((([] : List zl) ++ c8.1.Structs) ++ c21.1.Structs), A167, c168, o169, ((([] : List zi) ++ c8.1.Funcs) ++ c21.1.Funcs), _, zr9 zrV, hO, hL, r55, r59, w156, w170, hF⟩
      refine zm (zv (zbg hO fun b172 σ hO => ?_))
      have hO := zsf7 hO
      refine za (zu ⟨(zf rfl (hO.val (i := 1) (off := 1) (agg := false) (n := 1) rfl rfl) rfl), (zf rfl (hO.val (i := 0) (off := 1) (agg := false) (n := 1) rfl rfl) rfl), (zf rfl (hO.val (i := 1) (off := 0) (agg := false) (n := 1) rfl rfl) rfl), (zf rfl (hO.val (i := 0) (off := 0) (agg := false) (n := 1) rfl rfl) rfl), trivial⟩ ?_)
      refine za (zm (zv (zH (T := zk) hO w161 (i := 5) rfl rfl rfl r17 hr166 (by decide) fun _ σ o164 w165 hO => ?_)))
      obtain ⟨A162, c163, rfl, -⟩ := w165.form
      have hO := zsf7 hO
      refine za (zu ⟨(zf rfl (hO.val (i := 1) (off := 1) (agg := false) (n := 1) rfl rfl) rfl), trivial⟩ ?_)
      refine za (zm (zH (T := zk) hO w165 (i := 5) rfl rfl rfl r30 hr171 (by decide) fun _ σ o169 w170 hO => ?_))
      obtain ⟨A167, c168, rfl, -⟩ := w170.form
      have hO := zsf7 hO
      refine za (zbp (zh hO [] [(88, .agg #[(zsh A153 ((([] : List zl) ++ c8.1.Structs) ++ c21.1.Structs) c154), (zsh A167 ((([] : List zi) ++ c8.1.Funcs) ++ c21.1.Funcs) c168)])] [11, 13, 14] zrX fun j => ?_))
      refine zm (zs hO (i := 6) rfl (off := 0) rfl rfl rfl rfl (Nat.le_of_ble_eq_true rfl) rfl fun σ hO => ?_)
      have hO := zsf7 hO
      refine za (zbL (zj (zp ?_)))
      have hO := hO.sel [3, 6, 4, 5]
      exact ⟨b172, A153, c154, o155, ((([] : List zl) ++ c8.1.Structs) ++ c21.1.Structs), A167, c168, o169, ((([] : List zi) ++ c8.1.Funcs) ++ c21.1.Funcs), _, zr9 zrV, hO, hL, r55, r59, w156, w170, hF⟩
     refine zm (zv (zbg hO fun b172 σ hO => ?_))
     have hO := zsf6 hO
     refine za (zu ⟨(zf rfl (hO.val (i := 1) (off := 1) (agg := false) (n := 1) rfl rfl) rfl), (zf rfl (hO.val (i := 0) (off := 1) (agg := false) (n := 1) rfl rfl) rfl), (zf rfl (hO.val (i := 1) (off := 0) (agg := false) (n := 1) rfl rfl) rfl), (zf rfl (hO.val (i := 0) (off := 0) (agg := false) (n := 1) rfl rfl) rfl), trivial⟩ ?_)
     refine za (zm (zv (zB (T := zk) (l := ([] : List zi)) (cs := []) hO rfl rfl rfl (by decide) fun _ σ o160 w161 hO => ?_)))
     obtain ⟨A158, c159, rfl, -⟩ := w161.form
     have hO := zsf7 hO
     refine za (zu ⟨(zf rfl (hO.val (i := 1) (off := 1) (agg := false) (n := 1) rfl rfl) rfl), (zf rfl (hO.val (i := 0) (off := 1) (agg := false) (n := 1) rfl rfl) rfl), (zf rfl (hO.val (i := 1) (off := 0) (agg := false) (n := 1) rfl rfl) rfl), (zf rfl (hO.val (i := 0) (off := 0) (agg := false) (n := 1) rfl rfl) rfl), trivial⟩ ?_)
     refine za (zm (zv (zH (T := zk) hO w161 (i := 6) rfl rfl rfl r17 hr166 (by decide) fun _ σ o164 w165 hO => ?_)))
     obtain ⟨A162, c163, rfl, -⟩ := w165.form
     have hO := zsf7 hO
     refine za (zu ⟨(zf rfl (hO.val (i := 1) (off := 1) (agg := false) (n := 1) rfl rfl) rfl), trivial⟩ ?_)
     refine za (zm (zH (T := zk) hO w165 (i := 6) rfl rfl rfl r30 hr171 (by decide) fun _ σ o169 w170 hO => ?_))
     obtain ⟨A167, c168, rfl, -⟩ := w170.form
     have hO := zsf7 hO
     refine za (zbp (zh hO [] [(88, .agg #[(zsh A153 ((([] : List zl) ++ c8.1.Structs) ++ c21.1.Structs) c154), (zsh A167 ((([] : List zi) ++ c8.1.Funcs) ++ c21.1.Funcs) c168)])] [11, 13, 14] zrX fun j => ?_))
     refine zm (zs hO (i := 5) rfl (off := 0) rfl rfl rfl rfl (Nat.le_of_ble_eq_true rfl) rfl fun σ hO => ?_)
     have hO := zsf7 hO
     refine za (zbL (zj (zp ?_)))
     have hO := hO.sel [3, 5, 4, 6]
     exact ⟨b172, A153, c154, o155, ((([] : List zl) ++ c8.1.Structs) ++ c21.1.Structs), A167, c168, o169, ((([] : List zi) ++ c8.1.Funcs) ++ c21.1.Funcs), _, zr9 zrV, hO, hL, r55, r59, w156, w170, hF⟩
    refine zbN ?_ ?_
    ·refine zm (zv (zB (T := zk) (l := ([] : List zi)) (cs := []) hO rfl rfl rfl (by decide) fun _ σ o160 w161 hO => ?_))
     obtain ⟨A158, c159, rfl, -⟩ := w161.form
     have hO := zsf6 hO
     refine za (zu ⟨(zf rfl (hO.val (i := 1) (off := 1) (agg := false) (n := 1) rfl rfl) rfl), (zf rfl (hO.val (i := 0) (off := 1) (agg := false) (n := 1) rfl rfl) rfl), (zf rfl (hO.val (i := 1) (off := 0) (agg := false) (n := 1) rfl rfl) rfl), (zf rfl (hO.val (i := 0) (off := 0) (agg := false) (n := 1) rfl rfl) rfl), trivial⟩ ?_)
     refine za (zbN ?_ ?_)
     ·refine zm (zv (zH (T := zn) hO w151 (i := 4) rfl rfl rfl r26 hr157 (by decide) fun _ σ o155 w156 hO => ?_))
      obtain ⟨A153, c154, rfl, -⟩ := w156.form
      have hO := zsf6 hO
      refine za (zu ⟨(zf rfl (hO.val (i := 1) (off := 1) (agg := false) (n := 1) rfl rfl) rfl), (zf rfl (hO.val (i := 0) (off := 1) (agg := false) (n := 1) rfl rfl) rfl), trivial⟩ ?_)
      refine za (zbN ?_ ?_)
      ·refine zm (zv (zH (T := zk) hO w161 (i := 5) rfl rfl rfl r17 hr166 (by decide) fun _ σ o164 w165 hO => ?_))
       obtain ⟨A162, c163, rfl, -⟩ := w165.form
       have hO := zsf6 hO
       refine za (zu ⟨(zf rfl (hO.val (i := 1) (off := 1) (agg := false) (n := 1) rfl rfl) rfl), trivial⟩ ?_)
       refine za (zbN ?_ ?_)
       ·refine zm (zH (T := zk) hO w165 (i := 5) rfl rfl rfl r30 hr171 (by decide) fun _ σ o169 w170 hO => ?_)
        obtain ⟨A167, c168, rfl, -⟩ := w170.form
        have hO := zsf6 hO
        refine za (zbp (zh hO [] [(88, .agg #[(zsh A153 ((([] : List zl) ++ c8.1.Structs) ++ c21.1.Structs) c154), (zsh A167 ((([] : List zi) ++ c8.1.Funcs) ++ c21.1.Funcs) c168)])] [11, 13, 75, 76, 78, 79, 82, 83, 85, 86] zr4 fun j => ?_))
        refine zm (zv (zbg hO fun b172 σ hO => ?_))
        have hO := zsf7 hO
        refine za (zu ⟨(zf rfl (hO.val (i := 1) (off := 1) (agg := false) (n := 1) rfl rfl) rfl), (zf rfl (hO.val (i := 0) (off := 1) (agg := false) (n := 1) rfl rfl) rfl), (zf rfl (hO.val (i := 1) (off := 0) (agg := false) (n := 1) rfl rfl) rfl), (zf rfl (hO.val (i := 0) (off := 0) (agg := false) (n := 1) rfl rfl) rfl), trivial⟩ ?_)
        refine za (zm (zs hO (i := 6) rfl (off := 0) rfl rfl rfl rfl (Nat.le_of_ble_eq_true rfl) rfl fun σ hO => ?_))
        have hO := zsf7 hO
        refine za (zbL (zj (zp ?_)))
        have hO := hO.sel [3, 6, 4, 5]
        exact ⟨b172, A153, c154, o155, ((([] : List zl) ++ c8.1.Structs) ++ c21.1.Structs), A167, c168, o169, ((([] : List zi) ++ c8.1.Funcs) ++ c21.1.Funcs), _, zr9 zrV, hO, hL, r55, r59, w156, w170, hF⟩
       refine zm (zv (zbg hO fun b172 σ hO => ?_))
       have hO := zsf7 hO
       refine za (zu ⟨(zf rfl (hO.val (i := 1) (off := 1) (agg := false) (n := 1) rfl rfl) rfl), (zf rfl (hO.val (i := 0) (off := 1) (agg := false) (n := 1) rfl rfl) rfl), (zf rfl (hO.val (i := 1) (off := 0) (agg := false) (n := 1) rfl rfl) rfl), (zf rfl (hO.val (i := 0) (off := 0) (agg := false) (n := 1) rfl rfl) rfl), trivial⟩ ?_)
       refine za (zm (zH (T := zk) hO w165 (i := 5) rfl rfl rfl r30 hr171 (by decide) fun _ σ o169 w170 hO => ?_))
       obtain ⟨A167, c168, rfl, -⟩ := w170.form
       have hO := zsf7 hO
       refine za (zbp (zh hO [] [(88, .agg #[(zsh A153 ((([] : List zl) ++ c8.1.Structs) ++ c21.1.Structs) c154), (zsh A167 ((([] : List zi) ++ c8.1.Funcs) ++ c21.1.Funcs) c168)])] [11, 13, 14] zrX fun j => ?_))
       refine zm (zs hO (i := 6) rfl (off := 0) rfl rfl rfl rfl (Nat.le_of_ble_eq_true rfl) rfl fun σ hO => ?_)
       have hO := zsf7 hO
       refine za (zbL (zj (zp ?_)))
       have hO := hO.sel [3, 6, 4, 5]
       exact ⟨b172, A153, c154, o155, ((([] : List zl) ++ c8.1.Structs) ++ c21.1.Structs), A167, c168, o169, ((([] : List zi) ++ c8.1.Funcs) ++ c21.1.Funcs), _, zr9 zrV, hO, hL, r55, r59, w156, w170, hF⟩
      refine zm (zv (zbg hO fun b172 σ hO => ?_))
      have hO := zsf7 hO
      refine za (zu ⟨(zf rfl (hO.val (i := 1) (off := 1) (agg := false) (n := 1) rfl rfl) rfl), (zf rfl (hO.val (i := 0) (off := 1) (agg := false) (n := 1) rfl rfl) rfl), (zf rfl (hO.val (i := 1) (off := 0) (agg := false) (n := 1) rfl rfl) rfl), (zf rfl (hO.val (i := 0) (off := 0) (agg := false) (n := 1) rfl rfl) rfl), trivial⟩ ?_)
      refine za (zm (zv (zH (T := zk) hO w161 (i := 5) rfl rfl rfl r17 hr166 (by decide) fun _ σ o164 w165 hO => ?_)))
      obtain ⟨A162, c163, rfl, -⟩ := w165.form
      have hO := zsf7 hO
      refine za (zu ⟨(zf rfl (hO.val (i := 1) (off := 1) (agg := false) (n := 1) rfl rfl) rfl), trivial⟩ ?_)
      refine za (zm (zH (T := zk) hO w165 (i := 5) rfl rfl rfl r30 hr171 (by decide) fun _ σ o169 w170 hO => ?_))
      obtain ⟨A167, c168, rfl, -⟩ := w170.form
      have hO := zsf7 hO
      refine za (zbp (zh hO [] [(88, .agg #[(zsh A153 ((([] : List zl) ++ c8.1.Structs) ++ c21.1.Structs) c154), (zsh A167 ((([] : List zi) ++ c8.1.Funcs) ++ c21.1.Funcs) c168)])] [11, 13, 14] zrX fun j => ?_))
      refine zm (zs hO (i := 6) rfl (off := 0) rfl rfl rfl rfl (Nat.le_of_ble_eq_true rfl) rfl fun σ hO => ?_)
      have hO := zsf7 hO
      refine za (zbL (zj (zp ?_)))
      have hO := hO.sel [3, 6, 4, 5]
      exact ⟨b172, A153, c154, o155, ((([] : List zl) ++ c8.1.Structs) ++ c21.1.Structs), A167, c168, o169, ((([] : List zi) ++ c8.1.Funcs) ++ c21.1.Funcs), _, zr9 zrV, hO, hL, r55, r59, w156, w170, hF⟩
     refine zm (zv (zbg hO fun b172 σ hO => ?_))
     have hO := zsf7 hO
     refine za (zu ⟨(zf rfl (hO.val (i := 1) (off := 1) (agg := false) (n := 1) rfl rfl) rfl), (zf rfl (hO.val (i := 0) (off := 1) (agg := false) (n := 1) rfl rfl) rfl), (zf rfl (hO.val (i := 1) (off := 0) (agg := false) (n := 1) rfl rfl) rfl), (zf rfl (hO.val (i := 0) (off := 0) (agg := false) (n := 1) rfl rfl) rfl), trivial⟩ ?_)
     refine za (zm (zv (zH (T := zn) hO w151 (i := 4) rfl rfl rfl r26 hr157 (by decide) fun _ σ o155 w156 hO => ?_)))
     obtain ⟨A153, c154, rfl, -⟩ := w156.form
     have hO := zsf7 hO
     refine za (zu ⟨(zf rfl (hO.val (i := 1) (off := 1) (agg := false) (n := 1) rfl rfl) rfl), (zf rfl (hO.val (i := 0) (off := 1) (agg := false) (n := 1) rfl rfl) rfl), trivial⟩ ?_)
     refine za (zm (zv (zH (T := zk) hO w161 (i := 5) rfl rfl rfl r17 hr166 (by decide) fun _ σ o164 w165 hO => ?_)))
     obtain ⟨A162, c163, rfl, -⟩ := w165.form
     have hO := zsf7 hO
     refine za (zu ⟨(zf rfl (hO.val (i := 1) (off := 1) (agg := false) (n := 1) rfl rfl) rfl), trivial⟩ ?_)
     refine za (zm (zH (T := zk) hO w165 (i := 5) rfl rfl rfl r30 hr171 (by decide) fun _ σ o169 w170 hO => ?_))
     obtain ⟨A167, c168, rfl, -⟩ := w170.form
     have hO := zsf7 hO
     refine za (zbp (zh hO [] [(88, .agg #[(zsh A153 ((([] : List zl) ++ c8.1.Structs) ++ c21.1.Structs) c154), (zsh A167 ((([] : List zi) ++ c8.1.Funcs) ++ c21.1.Funcs) c168)])] [11, 13, 14] zrX fun j => ?_))
     refine zm (zs hO (i := 6) rfl (off := 0) rfl rfl rfl rfl (Nat.le_of_ble_eq_true rfl) rfl fun σ hO => ?_)
     have hO := zsf7 hO
     refine za (zbL (zj (zp ?_)))
     have hO := hO.sel [3, 6, 4, 5]
     exact ⟨b172, A153, c154, o155, ((([] : List zl) ++ c8.1.Structs) ++ c21.1.Structs), A167, c168, o169, ((([] : List zi) ++ c8.1.Funcs) ++ c21.1.Funcs), _, zr9 zrV, hO, hL, r55, r59, w156, w170, hF⟩
    refine zm (zv (zbg hO fun b172 σ hO => ?_))
    have hO := zsf6 hO
    refine za (zu ⟨(zf rfl (hO.val (i := 1) (off := 1) (agg := false) (n := 1) rfl rfl) rfl), (zf rfl (hO.val (i := 0) (off := 1) (agg := false) (n := 1) rfl rfl) rfl), (zf rfl (hO.val (i := 1) (off := 0) (agg := false) (n := 1) rfl rfl) rfl), (zf rfl (hO.val (i := 0) (off := 0) (agg := false) (n := 1) rfl rfl) rfl), trivial⟩ ?_)
    refine za (zbN ?_ ?_)
    ·refine zm (zv (zH (T := zn) hO w151 (i := 4) rfl rfl rfl r26 hr157 (by decide) fun _ σ o155 w156 hO => ?_))
     obtain ⟨A153, c154, rfl, -⟩ := w156.form
     have hO := zsf6 hO
     refine za (zu ⟨(zf rfl (hO.val (i := 1) (off := 1) (agg := false) (n := 1) rfl rfl) rfl), (zf rfl (hO.val (i := 0) (off := 1) (agg := false) (n := 1) rfl rfl) rfl), trivial⟩ ?_)
     refine za (zm (zv (zB (T := zk) (l := ([] : List zi)) (cs := []) hO rfl rfl rfl (by decide) fun _ σ o160 w161 hO => ?_)))
     obtain ⟨A158, c159, rfl, -⟩ := w161.form
     have hO := zsf7 hO
     refine za (zu ⟨(zf rfl (hO.val (i := 1) (off := 1) (agg := false) (n := 1) rfl rfl) rfl), (zf rfl (hO.val (i := 0) (off := 1) (agg := false) (n := 1) rfl rfl) rfl), (zf rfl (hO.val (i := 1) (off := 0) (agg := false) (n := 1) rfl rfl) rfl), (zf rfl (hO.val (i := 0) (off := 0) (agg := false) (n := 1) rfl rfl) rfl), trivial⟩ ?_)
     refine za (zm (zv (zH (T := zk) hO w161 (i := 6) rfl rfl rfl r17 hr166 (by decide) fun _ σ o164 w165 hO => ?_)))
     obtain ⟨A162, c163, rfl, -⟩ := w165.form
     have hO := zsf7 hO
     refine za (zu ⟨(zf rfl (hO.val (i := 1) (off := 1) (agg := false) (n := 1) rfl rfl) rfl), trivial⟩ ?_)
     refine za (zm (zH (T := zk) hO w165 (i := 6) rfl rfl rfl r30 hr171 (by decide) fun _ σ o169 w170 hO => ?_))
     obtain ⟨A167, c168, rfl, -⟩ := w170.form
     have hO := zsf7 hO
     refine za (zbp (zh hO [] [(88, .agg #[(zsh A153 ((([] : List zl) ++ c8.1.Structs) ++ c21.1.Structs) c154), (zsh A167 ((([] : List zi) ++ c8.1.Funcs) ++ c21.1.Funcs) c168)])] [11, 13, 14] zrX fun j => ?_))
     refine zm (zs hO (i := 5) rfl (off := 0) rfl rfl rfl rfl (Nat.le_of_ble_eq_true rfl) rfl fun σ hO => ?_)
     have hO := zsf7 hO
     refine za (zbL (zj (zp ?_)))
     have hO := hO.sel [3, 5, 4, 6]
     exact ⟨b172, A153, c154, o155, ((([] : List zl) ++ c8.1.Structs) ++ c21.1.Structs), A167, c168, o169, ((([] : List zi) ++ c8.1.Funcs) ++ c21.1.Funcs), _, zr9 zrV, hO, hL, r55, r59, w156, w170, hF⟩
    refine zm (zv (zB (T := zk) (l := ([] : List zi)) (cs := []) hO rfl rfl rfl (by decide) fun _ σ o160 w161 hO => ?_))
    obtain ⟨A158, c159, rfl, -⟩ := w161.form
    have hO := zsf7 hO
    refine za (zu ⟨(zf rfl (hO.val (i := 1) (off := 1) (agg := false) (n := 1) rfl rfl) rfl), (zf rfl (hO.val (i := 0) (off := 1) (agg := false) (n := 1) rfl rfl) rfl), (zf rfl (hO.val (i := 1) (off := 0) (agg := false) (n := 1) rfl rfl) rfl), (zf rfl (hO.val (i := 0) (off := 0) (agg := false) (n := 1) rfl rfl) rfl), trivial⟩ ?_)
    refine za (zm (zv (zH (T := zn) hO w151 (i := 4) rfl rfl rfl r26 hr157 (by decide) fun _ σ o155 w156 hO => ?_)))
    obtain ⟨A153, c154, rfl, -⟩ := w156.form
    have hO := zsf7 hO
    refine za (zu ⟨(zf rfl (hO.val (i := 1) (off := 1) (agg := false) (n := 1) rfl rfl) rfl), (zf rfl (hO.val (i := 0) (off := 1) (agg := false) (n := 1) rfl rfl) rfl), trivial⟩ ?_)
    refine za (zm (zv (zH (T := zk) hO w161 (i := 6) rfl rfl rfl r17 hr166 (by decide) fun _ σ o164 w165 hO => ?_)))
    obtain ⟨A162, c163, rfl, -⟩ := w165.form
    have hO := zsf7 hO
    refine za (zu ⟨(zf rfl (hO.val (i := 1) (off := 1) (agg := false) (n := 1) rfl rfl) rfl), trivial⟩ ?_)
    refine za (zm (zH (T := zk) hO w165 (i := 6) rfl rfl rfl r30 hr171 (by decide) fun _ σ o169 w170 hO => ?_))
    obtain ⟨A167, c168, rfl, -⟩ := w170.form
    have hO := zsf7 hO
    refine za (zbp (zh hO [] [(88, .agg #[(zsh A153 ((([] : List zl) ++ c8.1.Structs) ++ c21.1.Structs) c154), (zsh A167 ((([] : List zi) ++ c8.1.Funcs) ++ c21.1.Funcs) c168)])] [11, 13, 14] zrX fun j => ?_))
    refine zm (zs hO (i := 5) rfl (off := 0) rfl rfl rfl rfl (Nat.le_of_ble_eq_true rfl) rfl fun σ hO => ?_)
    have hO := zsf7 hO
    refine za (zbL (zj (zp ?_)))
    have hO := hO.sel [3, 5, 4, 6]
    exact ⟨b172, A153, c154, o155, ((([] : List zl) ++ c8.1.Structs) ++ c21.1.Structs), A167, c168, o169, ((([] : List zi) ++ c8.1.Funcs) ++ c21.1.Funcs), _, zr9 zrV, hO, hL, r55, r59, w156, w170, hF⟩
   refine zbN ?_ ?_
   ·refine zm (zv (zB (T := zk) (l := ([] : List zi)) (cs := []) hO rfl rfl rfl (by decide) fun _ σ o160 w161 hO => ?_))
    obtain ⟨A158, c159, rfl, -⟩ := w161.form
    have hO := zsf6 hO
    refine za (zu ⟨(zf rfl (hO.val (i := 1) (off := 1) (agg := false) (n := 1) rfl rfl) rfl), (zf rfl (hO.val (i := 0) (off := 1) (agg := false) (n := 1) rfl rfl) rfl), (zf rfl (hO.val (i := 1) (off := 0) (agg := false) (n := 1) rfl rfl) rfl), (zf rfl (hO.val (i := 0) (off := 0) (agg := false) (n := 1) rfl rfl) rfl), trivial⟩ ?_)
    refine za (zbN ?_ ?_)
    ·refine zm (zv (zH (T := zn) hO w147 (i := 4) rfl rfl rfl r13 hr152 (by decide) fun _ σ o150 w151 hO => ?_))
     obtain ⟨A148, c149, rfl, -⟩ := w151.form
     have hO := zsf6 hO
     refine za (zu ⟨(zf rfl (hO.val (i := 1) (off := 1) (agg := false) (n := 1) rfl rfl) rfl), (zf rfl (hO.val (i := 0) (off := 1) (agg := false) (n := 1) rfl rfl) rfl), (zf rfl (hO.val (i := 1) (off := 0) (agg := false) (n := 1) rfl rfl) rfl), trivial⟩ ?_)
     refine za (zbN ?_ ?_)
     ·refine zm (zv (zH (T := zn) hO w151 (i := 4) rfl rfl rfl r26 hr157 (by decide) fun _ σ o155 w156 hO => ?_))
      obtain ⟨A153, c154, rfl, -⟩ := w156.form
      have hO := zsf6 hO
      refine za (zu ⟨(zf rfl (hO.val (i := 1) (off := 1) (agg := false) (n := 1) rfl rfl) rfl), (zf rfl (hO.val (i := 0) (off := 1) (agg := false) (n := 1) rfl rfl) rfl), trivial⟩ ?_)
      refine za (zbN ?_ ?_)
      ·refine zm (zv (zH (T := zk) hO w161 (i := 5) rfl rfl rfl r17 hr166 (by decide) fun _ σ o164 w165 hO => ?_))
       obtain ⟨A162, c163, rfl, -⟩ := w165.form
       have hO := zsf6 hO
       refine za (zu ⟨(zf rfl (hO.val (i := 1) (off := 1) (agg := false) (n := 1) rfl rfl) rfl), trivial⟩ ?_)
       refine za (zbN ?_ ?_)
       ·refine zm (zH (T := zk) hO w165 (i := 5) rfl rfl rfl r30 hr171 (by decide) fun _ σ o169 w170 hO => ?_)
        obtain ⟨A167, c168, rfl, -⟩ := w170.form
        have hO := zsf6 hO
        refine za (zbp (zh hO [] [(88, .agg #[(zsh A153 ((([] : List zl) ++ c8.1.Structs) ++ c21.1.Structs) c154), (zsh A167 ((([] : List zi) ++ c8.1.Funcs) ++ c21.1.Funcs) c168)])] [11, 13, 75, 76, 78, 79, 82, 83, 85, 86] zr4 fun j => ?_))
        refine zm (zv (zbg hO fun b172 σ hO => ?_))
        have hO := zsf7 hO
        refine za (zu ⟨(zf rfl (hO.val (i := 1) (off := 1) (agg := false) (n := 1) rfl rfl) rfl), (zf rfl (hO.val (i := 0) (off := 1) (agg := false) (n := 1) rfl rfl) rfl), (zf rfl (hO.val (i := 1) (off := 0) (agg := false) (n := 1) rfl rfl) rfl), (zf rfl (hO.val (i := 0) (off := 0) (agg := false) (n := 1) rfl rfl) rfl), trivial⟩ ?_)
        refine za (zm (zs hO (i := 6) rfl (off := 0) rfl rfl rfl rfl (Nat.le_of_ble_eq_true rfl) rfl fun σ hO => ?_))
        have hO := zsf7 hO
        refine za (zbL (zj (zp ?_)))
        have hO := hO.sel [3, 6, 4, 5]
        exact ⟨b172, A153, c154, o155, ((([] : List zl) ++ c8.1.Structs) ++ c21.1.Structs), A167, c168, o169, ((([] : List zi) ++ c8.1.Funcs) ++ c21.1.Funcs), _, zr9 zrV, hO, hL, r55, r59, w156, w170, hF⟩
       refine zm (zv (zbg hO fun b172 σ hO => ?_))
       have hO := zsf7 hO
       refine za (zu ⟨(zf rfl (hO.val (i := 1) (off := 1) (agg := false) (n := 1) rfl rfl) rfl), (zf rfl (hO.val (i := 0) (off := 1) (agg := false) (n := 1) rfl rfl) rfl), (zf rfl (hO.val (i := 1) (off := 0) (agg := false) (n := 1) rfl rfl) rfl), (zf rfl (hO.val (i := 0) (off := 0) (agg := false) (n := 1) rfl rfl) rfl), trivial⟩ ?_)
       refine za (zm (zH (T := zk) hO w165 (i := 5) rfl rfl rfl r30 hr171 (by decide) fun _ σ o169 w170 hO => ?_))
       obtain ⟨A167, c168, rfl, -⟩ := w170.form
       have hO := zsf7 hO
       refine za (zbp (zh hO [] [(88, .agg #[(zsh A153 ((([] : List zl) ++ c8.1.Structs) ++ c21.1.Structs) c154), (zsh A167 ((([] : List zi) ++ c8.1.Funcs) ++ c21.1.Funcs) c168)])] [11, 13, 14] zrX fun j => ?_))
       refine zm (zs hO (i := 6) rfl (off := 0) rfl rfl rfl rfl (Nat.le_of_ble_eq_true rfl) rfl fun σ hO => ?_)
       have hO := zsf7 hO
       refine za (zbL (zj (zp ?_)))
       have hO := hO.sel [3, 6, 4, 5]
       exact ⟨b172, A153, c154, o155, ((([] : List zl) ++ c8.1.Structs) ++ c21.1.Structs), A167, c168, o169, ((([] : List zi) ++ c8.1.Funcs) ++ c21.1.Funcs), _, zr9 zrV, hO, hL, r55, r59, w156, w170, hF⟩
      refine zm (zv (zbg hO fun b172 σ hO => ?_))
      have hO := zsf7 hO
      refine za (zu ⟨(zf rfl (hO.val (i := 1) (off := 1) (agg := false) (n := 1) rfl rfl) rfl), (zf rfl (hO.val (i := 0) (off := 1) (agg := false) (n := 1) rfl rfl) rfl), (zf rfl (hO.val (i := 1) (off := 0) (agg := false) (n := 1) rfl rfl) rfl), (zf rfl (hO.val (i := 0) (off := 0) (agg := false) (n := 1) rfl rfl) rfl), trivial⟩ ?_)
      refine za (zm (zv (zH (T := zk) hO w161 (i := 5) rfl rfl rfl r17 hr166 (by decide) fun _ σ o164 w165 hO => ?_)))
      obtain ⟨A162, c163, rfl, -⟩ := w165.form
      have hO := zsf7 hO
      refine za (zu ⟨(zf rfl (hO.val (i := 1) (off := 1) (agg := false) (n := 1) rfl rfl) rfl), trivial⟩ ?_)
      refine za (zm (zH (T := zk) hO w165 (i := 5) rfl rfl rfl r30 hr171 (by decide) fun _ σ o169 w170 hO => ?_))
      obtain ⟨A167, c168, rfl, -⟩ := w170.form
      have hO := zsf7 hO
      refine za (zbp (zh hO [] [(88, .agg #[(zsh A153 ((([] : List zl) ++ c8.1.Structs) ++ c21.1.Structs) c154), (zsh A167 ((([] : List zi) ++ c8.1.Funcs) ++ c21.1.Funcs) c168)])] [11, 13, 14] zrX fun j => ?_))
      refine zm (zs hO (i := 6) rfl (off := 0) rfl rfl rfl rfl (Nat.le_of_ble_eq_true rfl) rfl fun σ hO => ?_)
      have hO := zsf7 hO
      refine za (zbL (zj (zp ?_)))
      have hO := hO.sel [3, 6, 4, 5]
      exact ⟨b172, A153, c154, o155, ((([] : List zl) ++ c8.1.Structs) ++ c21.1.Structs), A167, c168, o169, ((([] : List zi) ++ c8.1.Funcs) ++ c21.1.Funcs), _, zr9 zrV, hO, hL, r55, r59, w156, w170, hF⟩
     refine zm (zv (zbg hO fun b172 σ hO => ?_))
     have hO := zsf7 hO
     refine za (zu ⟨(zf rfl (hO.val (i := 1) (off := 1) (agg := false) (n := 1) rfl rfl) rfl), (zf rfl (hO.val (i := 0) (off := 1) (agg := false) (n := 1) rfl rfl) rfl), (zf rfl (hO.val (i := 1) (off := 0) (agg := false) (n := 1) rfl rfl) rfl), (zf rfl (hO.val (i := 0) (off := 0) (agg := false) (n := 1) rfl rfl) rfl), trivial⟩ ?_)
     refine za (zm (zv (zH (T := zn) hO w151 (i := 4) rfl rfl rfl r26 hr157 (by decide) fun _ σ o155 w156 hO => ?_)))
     obtain ⟨A153, c154, rfl, -⟩ := w156.form
     have hO := zsf7 hO
     refine za (zu ⟨(zf rfl (hO.val (i := 1) (off := 1) (agg := false) (n := 1) rfl rfl) rfl), (zf rfl (hO.val (i := 0) (off := 1) (agg := false) (n := 1) rfl rfl) rfl), trivial⟩ ?_)
     refine za (zm (zv (zH (T := zk) hO w161 (i := 5) rfl rfl rfl r17 hr166 (by decide) fun _ σ o164 w165 hO => ?_)))
     obtain ⟨A162, c163, rfl, -⟩ := w165.form
     have hO := zsf7 hO
     refine za (zu ⟨(zf rfl (hO.val (i := 1) (off := 1) (agg := false) (n := 1) rfl rfl) rfl), trivial⟩ ?_)
     refine za (zm (zH (T := zk) hO w165 (i := 5) rfl rfl rfl r30 hr171 (by decide) fun _ σ o169 w170 hO => ?_))
     obtain ⟨A167, c168, rfl, -⟩ := w170.form
     have hO := zsf7 hO
     refine za (zbp (zh hO [] [(88, .agg #[(zsh A153 ((([] : List zl) ++ c8.1.Structs) ++ c21.1.Structs) c154), (zsh A167 ((([] : List zi) ++ c8.1.Funcs) ++ c21.1.Funcs) c168)])] [11, 13, 14] zrX fun j => ?_))
     refine zm (zs hO (i := 6) rfl (off := 0) rfl rfl rfl rfl (Nat.le_of_ble_eq_true rfl) rfl fun σ hO => ?_)
     have hO := zsf7 hO
     refine za (zbL (zj (zp ?_)))
     have hO := hO.sel [3, 6, 4, 5]
     exact ⟨b172, A153, c154, o155, ((([] : List zl) ++ c8.1.Structs) ++ c21.1.Structs), A167, c168, o169, ((([] : List zi) ++ c8.1.Funcs) ++ c21.1.Funcs), _, zr9 zrV, hO, hL, r55, r59, w156, w170, hF⟩
    refine zm (zv (zbg hO fun b172 σ hO => ?_))
    have hO := zsf7 hO
    refine za (zu ⟨(zf rfl (hO.val (i := 1) (off := 1) (agg := false) (n := 1) rfl rfl) rfl), (zf rfl (hO.val (i := 0) (off := 1) (agg := false) (n := 1) rfl rfl) rfl), (zf rfl (hO.val (i := 1) (off := 0) (agg := false) (n := 1) rfl rfl) rfl), (zf rfl (hO.val (i := 0) (off := 0) (agg := false) (n := 1) rfl rfl) rfl), trivial⟩ ?_)
    refine za (zm (zv (zH (T := zn) hO w147 (i := 4) rfl rfl rfl r13 hr152 (by decide) fun _ σ o150 w151 hO => ?_)))
    obtain ⟨A148, c149, rfl, -⟩ := w151.form
    have hO := zsf7 hO
    refine za (zu ⟨(zf rfl (hO.val (i := 1) (off := 1) (agg := false) (n := 1) rfl rfl) rfl), (zf rfl (hO.val (i := 0) (off := 1) (agg := false) (n := 1) rfl rfl) rfl), (zf rfl (hO.val (i := 1) (off := 0) (agg := false) (n := 1) rfl rfl) rfl), trivial⟩ ?_)
    refine za (zm (zv (zH (T := zn) hO w151 (i := 4) rfl rfl rfl r26 hr157 (by decide) fun _ σ o155 w156 hO => ?_)))
    obtain ⟨A153, c154, rfl, -⟩ := w156.form
    have hO := zsf7 hO
    refine za (zu ⟨(zf rfl (hO.val (i := 1) (off := 1) (agg := false) (n := 1) rfl rfl) rfl), (zf rfl (hO.val (i := 0) (off := 1) (agg := false) (n := 1) rfl rfl) rfl), trivial⟩ ?_)
    refine za (zm (zv (zH (T := zk) hO w161 (i := 5) rfl rfl rfl r17 hr166 (by decide) fun _ σ o164 w165 hO => ?_)))
    obtain ⟨A162, c163, rfl, -⟩ := w165.form
    have hO := zsf7 hO
    refine za (zu ⟨(zf rfl (hO.val (i := 1) (off := 1) (agg := false) (n := 1) rfl rfl) rfl), trivial⟩ ?_)
    refine za (zm (zH (T := zk) hO w165 (i := 5) rfl rfl rfl r30 hr171 (by decide) fun _ σ o169 w170 hO => ?_))
    obtain ⟨A167, c168, rfl, -⟩ := w170.form
    have hO := zsf7 hO
    refine za (zbp (zh hO [] [(88, .agg #[(zsh A153 ((([] : List zl) ++ c8.1.Structs) ++ c21.1.Structs) c154), (zsh A167 ((([] : List zi) ++ c8.1.Funcs) ++ c21.1.Funcs) c168)])] [11, 13, 14] zrX fun j => ?_))
    refine zm (zs hO (i := 6) rfl (off := 0) rfl rfl rfl rfl (Nat.le_of_ble_eq_true rfl) rfl fun σ hO => ?_)
    have hO := zsf7 hO
    refine za (zbL (zj (zp ?_)))
    have hO := hO.sel [3, 6, 4, 5]
    exact ⟨b172, A153, c154, o155, ((([] : List zl) ++ c8.1.Structs) ++ c21.1.Structs), A167, c168, o169, ((([] : List zi) ++ c8.1.Funcs) ++ c21.1.Funcs), _, zr9 zrV, hO, hL, r55, r59, w156, w170, hF⟩
   refine zm (zv (zbg hO fun b172 σ hO => ?_))
   have hO := zsf6 hO
   refine za (zu ⟨(zf rfl (hO.val (i := 1) (off := 1) (agg := false) (n := 1) rfl rfl) rfl), (zf rfl (hO.val (i := 0) (off := 1) (agg := false) (n := 1) rfl rfl) rfl), (zf rfl (hO.val (i := 1) (off := 0) (agg := false) (n := 1) rfl rfl) rfl), (zf rfl (hO.val (i := 0) (off := 0) (agg := false) (n := 1) rfl rfl) rfl), trivial⟩ ?_)
   refine za (zbN ?_ ?_)
   ·refine zm (zv (zH (T := zn) hO w147 (i := 4) rfl rfl rfl r13 hr152 (by decide) fun _ σ o150 w151 hO => ?_))
    obtain ⟨A148, c149, rfl, -⟩ := w151.form
    have hO := zsf6 hO
    refine za (zu ⟨(zf rfl (hO.val (i := 1) (off := 1) (agg := false) (n := 1) rfl rfl) rfl), (zf rfl (hO.val (i := 0) (off := 1) (agg := false) (n := 1) rfl rfl) rfl), (zf rfl (hO.val (i := 1) (off := 0) (agg := false) (n := 1) rfl rfl) rfl), trivial⟩ ?_)
    refine za (zbN ?_ ?_)
    ·refine zm (zv (zH (T := zn) hO w151 (i := 4) rfl rfl rfl r26 hr157 (by decide) fun _ σ o155 w156 hO => ?_))
     obtain ⟨A153, c154, rfl, -⟩ := w156.form
     have hO := zsf6 hO
     refine za (zu ⟨(zf rfl (hO.val (i := 1) (off := 1) (agg := false) (n := 1) rfl rfl) rfl), (zf rfl (hO.val (i := 0) (off := 1) (agg := false) (n := 1) rfl rfl) rfl), trivial⟩ ?_)
     refine za (zm (zv (zB (T := zk) (l := ([] : List zi)) (cs := []) hO rfl rfl rfl (by decide) fun _ σ o160 w161 hO => ?_)))
     obtain ⟨A158, c159, rfl, -⟩ := w161.form
     have hO := zsf7 hO
     refine za (zu ⟨(zf rfl (hO.val (i := 1) (off := 1) (agg := false) (n := 1) rfl rfl) rfl), (zf rfl (hO.val (i := 0) (off := 1) (agg := false) (n := 1) rfl rfl) rfl), (zf rfl (hO.val (i := 1) (off := 0) (agg := false) (n := 1) rfl rfl) rfl), (zf rfl (hO.val (i := 0) (off := 0) (agg := false) (n := 1) rfl rfl) rfl), trivial⟩ ?_)
     refine za (zm (zv (zH (T := zk) hO w161 (i := 6) rfl rfl rfl r17 hr166 (by decide) fun _ σ o164 w165 hO => ?_)))
     obtain ⟨A162, c163, rfl, -⟩ := w165.form
     have hO := zsf7 hO
     refine za (zu ⟨(zf rfl (hO.val (i := 1) (off := 1) (agg := false) (n := 1) rfl rfl) rfl), trivial⟩ ?_)
     refine za (zm (zH (T := zk) hO w165 (i := 6) rfl rfl rfl r30 hr171 (by decide) fun _ σ o169 w170 hO => ?_))
     obtain ⟨A167, c168, rfl, -⟩ := w170.form
     have hO := zsf7 hO
     refine za (zbp (zh hO [] [(88, .agg #[(zsh A153 ((([] : List zl) ++ c8.1.Structs) ++ c21.1.Structs) c154), (zsh A167 ((([] : List zi) ++ c8.1.Funcs) ++ c21.1.Funcs) c168)])] [11, 13, 14] zrX fun j => ?_))
     refine zm (zs hO (i := 5) rfl (off := 0) rfl rfl rfl rfl (Nat.le_of_ble_eq_true rfl) rfl fun σ hO => ?_)
     have hO := zsf7 hO
     refine za (zbL (zj (zp ?_)))
     have hO := hO.sel [3, 5, 4, 6]
     exact ⟨b172, A153, c154, o155, ((([] : List zl) ++ c8.1.Structs) ++ c21.1.Structs), A167, c168, o169, ((([] : List zi) ++ c8.1.Funcs) ++ c21.1.Funcs), _, zr9 zrV, hO, hL, r55, r59, w156, w170, hF⟩
    refine zm (zv (zB (T := zk) (l := ([] : List zi)) (cs := []) hO rfl rfl rfl (by decide) fun _ σ o160 w161 hO => ?_))
    obtain ⟨A158, c159, rfl, -⟩ := w161.form
    have hO := zsf7 hO
    refine za (zu ⟨(zf rfl (hO.val (i := 1) (off := 1) (agg := false) (n := 1) rfl rfl) rfl), (zf rfl (hO.val (i := 0) (off := 1) (agg := false) (n := 1) rfl rfl) rfl), (zf rfl (hO.val (i := 1) (off := 0) (agg := false) (n := 1) rfl rfl) rfl), (zf rfl (hO.val (i := 0) (off := 0) (agg := false) (n := 1) rfl rfl) rfl), trivial⟩ ?_)
    refine za (zm (zv (zH (T := zn) hO w151 (i := 4) rfl rfl rfl r26 hr157 (by decide) fun _ σ o155 w156 hO => ?_)))
    obtain ⟨A153, c154, rfl, -⟩ := w156.form
    have hO := zsf7 hO
    refine za (zu ⟨(zf rfl (hO.val (i := 1) (off := 1) (agg := false) (n := 1) rfl rfl) rfl), (zf rfl (hO.val (i := 0) (off := 1) (agg := false) (n := 1) rfl rfl) rfl), trivial⟩ ?_)
    refine za (zm (zv (zH (T := zk) hO w161 (i := 6) rfl rfl rfl r17 hr166 (by decide) fun _ σ o164 w165 hO => ?_)))
    obtain ⟨A162, c163, rfl, -⟩ := w165.form
    have hO := zsf7 hO
    refine za (zu ⟨(zf rfl (hO.val (i := 1) (off := 1) (agg := false) (n := 1) rfl rfl) rfl), trivial⟩ ?_)
    refine za (zm (zH (T := zk) hO w165 (i := 6) rfl rfl rfl r30 hr171 (by decide) fun _ σ o169 w170 hO => ?_))
    obtain ⟨A167, c168, rfl, -⟩ := w170.form
    have hO := zsf7 hO
    refine za (zbp (zh hO [] [(88, .agg #[(zsh A153 ((([] : List zl) ++ c8.1.Structs) ++ c21.1.Structs) c154), (zsh A167 ((([] : List zi) ++ c8.1.Funcs) ++ c21.1.Funcs) c168)])] [11, 13, 14] zrX fun j => ?_))
    refine zm (zs hO (i := 5) rfl (off := 0) rfl rfl rfl rfl (Nat.le_of_ble_eq_true rfl) rfl fun σ hO => ?_)
    have hO := zsf7 hO
    refine za (zbL (zj (zp ?_)))
    have hO := hO.sel [3, 5, 4, 6]
    exact ⟨b172, A153, c154, o155, ((([] : List zl) ++ c8.1.Structs) ++ c21.1.Structs), A167, c168, o169, ((([] : List zi) ++ c8.1.Funcs) ++ c21.1.Funcs), _, zr9 zrV, hO, hL, r55, r59, w156, w170, hF⟩
   refine zm (zv (zB (T := zk) (l := ([] : List zi)) (cs := []) hO rfl rfl rfl (by decide) fun _ σ o160 w161 hO => ?_))
   obtain ⟨A158, c159, rfl, -⟩ := w161.form
   have hO := zsf7 hO
   refine za (zu ⟨(zf rfl (hO.val (i := 1) (off := 1) (agg := false) (n := 1) rfl rfl) rfl), (zf rfl (hO.val (i := 0) (off := 1) (agg := false) (n := 1) rfl rfl) rfl), (zf rfl (hO.val (i := 1) (off := 0) (agg := false) (n := 1) rfl rfl) rfl), (zf rfl (hO.val (i := 0) (off := 0) (agg := false) (n := 1) rfl rfl) rfl), trivial⟩ ?_)
   refine za (zm (zv (zH (T := zn) hO w147 (i := 4) rfl rfl rfl r13 hr152 (by decide) fun _ σ o150 w151 hO => ?_)))
   obtain ⟨A148, c149, rfl, -⟩ := w151.form
   have hO := zsf7 hO
   refine za (zu ⟨(zf rfl (hO.val (i := 1) (off := 1) (agg := false) (n := 1) rfl rfl) rfl), (zf rfl (hO.val (i := 0) (off := 1) (agg := false) (n := 1) rfl rfl) rfl), (zf rfl (hO.val (i := 1) (off := 0) (agg := false) (n := 1) rfl rfl) rfl), trivial⟩ ?_)
   refine za (zm (zv (zH (T := zn) hO w151 (i := 4) rfl rfl rfl r26 hr157 (by decide) fun _ σ o155 w156 hO => ?_)))
   obtain ⟨A153, c154, rfl, -⟩ := w156.form
   have hO := zsf7 hO
   refine za (zu ⟨(zf rfl (hO.val (i := 1) (off := 1) (agg := false) (n := 1) rfl rfl) rfl), (zf rfl (hO.val (i := 0) (off := 1) (agg := false) (n := 1) rfl rfl) rfl), trivial⟩ ?_)
   refine za (zm (zv (zH (T := zk) hO w161 (i := 6) rfl rfl rfl r17 hr166 (by decide) fun _ σ o164 w165 hO => ?_)))
   obtain ⟨A162, c163, rfl, -⟩ := w165.form
   have hO := zsf7 hO
   refine za (zu ⟨(zf rfl (hO.val (i := 1) (off := 1) (agg := false) (n := 1) rfl rfl) rfl), trivial⟩ ?_)
   refine za (zm (zH (T := zk) hO w165 (i := 6) rfl rfl rfl r30 hr171 (by decide) fun _ σ o169 w170 hO => ?_))
   obtain ⟨A167, c168, rfl, -⟩ := w170.form
   have hO := zsf7 hO
   refine za (zbp (zh hO [] [(88, .agg #[(zsh A153 ((([] : List zl) ++ c8.1.Structs) ++ c21.1.Structs) c154), (zsh A167 ((([] : List zi) ++ c8.1.Funcs) ++ c21.1.Funcs) c168)])] [11, 13, 14] zrX fun j => ?_))
   refine zm (zs hO (i := 5) rfl (off := 0) rfl rfl rfl rfl (Nat.le_of_ble_eq_true rfl) rfl fun σ hO => ?_)
   have hO := zsf7 hO
   refine za (zbL (zj (zp ?_)))
   have hO := hO.sel [3, 5, 4, 6]
   exact ⟨b172, A153, c154, o155, ((([] : List zl) ++ c8.1.Structs) ++ c21.1.Structs), A167, c168, o169, ((([] : List zi) ++ c8.1.Funcs) ++ c21.1.Funcs), _, zr9 zrV, hO, hL, r55, r59, w156, w170, hF⟩
  refine zbN ?_ ?_
  ·refine zm (zv (zB (T := zk) (l := ([] : List zi)) (cs := []) hO rfl rfl rfl (by decide) fun _ σ o160 w161 hO => ?_))
   obtain ⟨A158, c159, rfl, -⟩ := w161.form
   have hO := zsf5 hO
   refine za (zu ⟨(zf rfl (hO.val (i := 1) (off := 1) (agg := false) (n := 1) rfl rfl) rfl), (zf rfl (hO.val (i := 0) (off := 1) (agg := false) (n := 1) rfl rfl) rfl), (zf rfl (hO.val (i := 1) (off := 0) (agg := false) (n := 1) rfl rfl) rfl), (zf rfl (hO.val (i := 0) (off := 0) (agg := false) (n := 1) rfl rfl) rfl), trivial⟩ ?_)
   refine za (zbN ?_ ?_)
   ·refine zm (zv (zB (T := zn) (l := ([] : List zl)) (cs := []) hO rfl rfl rfl (by decide) fun _ σ o146 w147 hO => ?_))
    obtain ⟨A144, c145, rfl, -⟩ := w147.form
    have hO := zsf6 hO
    refine za (zu ⟨(zf rfl (hO.val (i := 1) (off := 1) (agg := false) (n := 1) rfl rfl) rfl), (zf rfl (hO.val (i := 0) (off := 1) (agg := false) (n := 1) rfl rfl) rfl), (zf rfl (hO.val (i := 1) (off := 0) (agg := false) (n := 1) rfl rfl) rfl), (zf rfl (hO.val (i := 0) (off := 0) (agg := false) (n := 1) rfl rfl) rfl), trivial⟩ ?_)
    refine za (zbN ?_ ?_)
    ·refine zm (zv (zH (T := zn) hO w147 (i := 5) rfl rfl rfl r13 hr152 (by decide) fun _ σ o150 w151 hO => ?_))
     obtain ⟨A148, c149, rfl, -⟩ := w151.form
     have hO := zsf6 hO
     refine za (zu ⟨(zf rfl (hO.val (i := 1) (off := 1) (agg := false) (n := 1) rfl rfl) rfl), (zf rfl (hO.val (i := 0) (off := 1) (agg := false) (n := 1) rfl rfl) rfl), (zf rfl (hO.val (i := 1) (off := 0) (agg := false) (n := 1) rfl rfl) rfl), trivial⟩ ?_)
     refine za (zbN ?_ ?_)
     ·refine zm (zv (zH (T := zn) hO w151 (i := 5) rfl rfl rfl r26 hr157 (by decide) fun _ σ o155 w156 hO => ?_))
      obtain ⟨A153, c154, rfl, -⟩ := w156.form
      have hO := zsf6 hO
      refine za (zu ⟨(zf rfl (hO.val (i := 1) (off := 1) (agg := false) (n := 1) rfl rfl) rfl), (zf rfl (hO.val (i := 0) (off := 1) (agg := false) (n := 1) rfl rfl) rfl), trivial⟩ ?_)
      refine za (zbN ?_ ?_)
      ·refine zm (zv (zH (T := zk) hO w161 (i := 4) rfl rfl rfl r17 hr166 (by decide) fun _ σ o164 w165 hO => ?_))
       obtain ⟨A162, c163, rfl, -⟩ := w165.form
       have hO := zsf6 hO
       refine za (zu ⟨(zf rfl (hO.val (i := 1) (off := 1) (agg := false) (n := 1) rfl rfl) rfl), trivial⟩ ?_)
       refine za (zbN ?_ ?_)
       ·refine zm (zH (T := zk) hO w165 (i := 4) rfl rfl rfl r30 hr171 (by decide) fun _ σ o169 w170 hO => ?_)
        obtain ⟨A167, c168, rfl, -⟩ := w170.form
        have hO := zsf6 hO
        refine za (zbp (zh hO [] [(88, .agg #[(zsh A153 ((([] : List zl) ++ c8.1.Structs) ++ c21.1.Structs) c154), (zsh A167 ((([] : List zi) ++ c8.1.Funcs) ++ c21.1.Funcs) c168)])] [11, 13, 75, 76, 78, 79, 82, 83, 85, 86] zr4 fun j => ?_))
        refine zm (zv (zbg hO fun b172 σ hO => ?_))
        have hO := zsf7 hO
        refine za (zu ⟨(zf rfl (hO.val (i := 1) (off := 1) (agg := false) (n := 1) rfl rfl) rfl), (zf rfl (hO.val (i := 0) (off := 1) (agg := false) (n := 1) rfl rfl) rfl), (zf rfl (hO.val (i := 1) (off := 0) (agg := false) (n := 1) rfl rfl) rfl), (zf rfl (hO.val (i := 0) (off := 0) (agg := false) (n := 1) rfl rfl) rfl), trivial⟩ ?_)
        refine za (zm (zs hO (i := 6) rfl (off := 0) rfl rfl rfl rfl (Nat.le_of_ble_eq_true rfl) rfl fun σ hO => ?_))
        have hO := zsf7 hO
        refine za (zbL (zj (zp ?_)))
        have hO := hO.sel [3, 6, 5, 4]
        exact ⟨b172, A153, c154, o155, ((([] : List zl) ++ c8.1.Structs) ++ c21.1.Structs), A167, c168, o169, ((([] : List zi) ++ c8.1.Funcs) ++ c21.1.Funcs), _, zr9 zrV, hO, hL, r55, r59, w156, w170, hF⟩
       refine zm (zv (zbg hO fun b172 σ hO => ?_))
       have hO := zsf7 hO
       refine za (zu ⟨(zf rfl (hO.val (i := 1) (off := 1) (agg := false) (n := 1) rfl rfl) rfl), (zf rfl (hO.val (i := 0) (off := 1) (agg := false) (n := 1) rfl rfl) rfl), (zf rfl (hO.val (i := 1) (off := 0) (agg := false) (n := 1) rfl rfl) rfl), (zf rfl (hO.val (i := 0) (off := 0) (agg := false) (n := 1) rfl rfl) rfl), trivial⟩ ?_)
       refine za (zm (zH (T := zk) hO w165 (i := 4) rfl rfl rfl r30 hr171 (by decide) fun _ σ o169 w170 hO => ?_))
       obtain ⟨A167, c168, rfl, -⟩ := w170.form
       have hO := zsf7 hO
       refine za (zbp (zh hO [] [(88, .agg #[(zsh A153 ((([] : List zl) ++ c8.1.Structs) ++ c21.1.Structs) c154), (zsh A167 ((([] : List zi) ++ c8.1.Funcs) ++ c21.1.Funcs) c168)])] [11, 13, 14] zrX fun j => ?_))
       refine zm (zs hO (i := 6) rfl (off := 0) rfl rfl rfl rfl (Nat.le_of_ble_eq_true rfl) rfl fun σ hO => ?_)
       have hO := zsf7 hO
       refine za (zbL (zj (zp ?_)))
       have hO := hO.sel [3, 6, 5, 4]
       exact ⟨b172, A153, c154, o155, ((([] : List zl) ++ c8.1.Structs) ++ c21.1.Structs), A167, c168, o169, ((([] : List zi) ++ c8.1.Funcs) ++ c21.1.Funcs), _, zr9 zrV, hO, hL, r55, r59, w156, w170, hF⟩
      refine zm (zv (zbg hO fun b172 σ hO => ?_))
      have hO := zsf7 hO
      refine za (zu ⟨(zf rfl (hO.val (i := 1) (off := 1) (agg := false) (n := 1) rfl rfl) rfl), (zf rfl (hO.val (i := 0) (off := 1) (agg := false) (n := 1) rfl rfl) rfl), (zf rfl (hO.val (i := 1) (off := 0) (agg := false) (n := 1) rfl rfl) rfl), (zf rfl (hO.val (i := 0) (off := 0) (agg := false) (n := 1) rfl rfl) rfl), trivial⟩ ?_)
      refine za (zm (zv (zH (T := zk) hO w161 (i := 4) rfl rfl rfl r17 hr166 (by decide) fun _ σ o164 w165 hO => ?_)))
      obtain ⟨A162, c163, rfl, -⟩ := w165.form
      have hO := zsf7 hO
      refine za (zu ⟨(zf rfl (hO.val (i := 1) (off := 1) (agg := false) (n := 1) rfl rfl) rfl), trivial⟩ ?_)
      refine za (zm (zH (T := zk) hO w165 (i := 4) rfl rfl rfl r30 hr171 (by decide) fun _ σ o169 w170 hO => ?_))
      obtain ⟨A167, c168, rfl, -⟩ := w170.form
      have hO := zsf7 hO
      refine za (zbp (zh hO [] [(88, .agg #[(zsh A153 ((([] : List zl) ++ c8.1.Structs) ++ c21.1.Structs) c154), (zsh A167 ((([] : List zi) ++ c8.1.Funcs) ++ c21.1.Funcs) c168)])] [11, 13, 14] zrX fun j => ?_))
      refine zm (zs hO (i := 6) rfl (off := 0) rfl rfl rfl rfl (Nat.le_of_ble_eq_true rfl) rfl fun σ hO => ?_)
      have hO := zsf7 hO
      refine za (zbL (zj (zp ?_)))
      have hO := hO.sel [3, 6, 5, 4]
      exact ⟨b172, A153, c154, o155, ((([] : List zl) ++ c8.1.Structs) ++ c21.1.Structs), A167, c168, o169, ((([] : List zi) ++ c8.1.Funcs) ++ c21.1.Funcs), _, zr9 zrV, hO, hL, r55, r59, w156, w170, hF⟩
     refine zm (zv (zbg hO fun b172 σ hO => ?_))
     have hO := zsf7 hO
     refine za (zu ⟨(zf rfl (hO.val (i := 1) (off := 1) (agg := false) (n := 1) rfl rfl) rfl), (zf rfl (hO.val (i := 0) (off := 1) (agg := false) (n := 1) rfl rfl) rfl), (zf rfl (hO.val (i := 1) (off := 0) (agg := false) (n := 1) rfl rfl) rfl), (zf rfl (hO.val (i := 0) (off := 0) (agg := false) (n := 1) rfl rfl) rfl), trivial⟩ ?_)
     refine za (zm (zv (zH (T := zn) hO w151 (i := 5) rfl rfl rfl r26 hr157 (by decide) fun _ σ o155 w156 hO => ?_)))
     obtain ⟨A153, c154, rfl, -⟩ := w156.form
     have hO := zsf7 hO
     refine za (zu ⟨(zf rfl (hO.val (i := 1) (off := 1) (agg := false) (n := 1) rfl rfl) rfl), (zf rfl (hO.val (i := 0) (off := 1) (agg := false) (n := 1) rfl rfl) rfl), trivial⟩ ?_)
     refine za (zm (zv (zH (T := zk) hO w161 (i := 4) rfl rfl rfl r17 hr166 (by decide) fun _ σ o164 w165 hO => ?_)))
     obtain ⟨A162, c163, rfl, -⟩ := w165.form
     have hO := zsf7 hO
     refine za (zu ⟨(zf rfl (hO.val (i := 1) (off := 1) (agg := false) (n := 1) rfl rfl) rfl), trivial⟩ ?_)
     refine za (zm (zH (T := zk) hO w165 (i := 4) rfl rfl rfl r30 hr171 (by decide) fun _ σ o169 w170 hO => ?_))
     obtain ⟨A167, c168, rfl, -⟩ := w170.form
     have hO := zsf7 hO
     refine za (zbp (zh hO [] [(88, .agg #[(zsh A153 ((([] : List zl) ++ c8.1.Structs) ++ c21.1.Structs) c154), (zsh A167 ((([] : List zi) ++ c8.1.Funcs) ++ c21.1.Funcs) c168)])] [11, 13, 14] zrX fun j => ?_))
     refine zm (zs hO (i := 6) rfl (off := 0) rfl rfl rfl rfl (Nat.le_of_ble_eq_true rfl) rfl fun σ hO => ?_)
     have hO := zsf7 hO
     refine za (zbL (zj (zp ?_)))
     have hO := hO.sel [3, 6, 5, 4]
     exact ⟨b172, A153, c154, o155, ((([] : List zl) ++ c8.1.Structs) ++ c21.1.Structs), A167, c168, o169, ((([] : List zi) ++ c8.1.Funcs) ++ c21.1.Funcs), _, zr9 zrV, hO, hL, r55, r59, w156, w170, hF⟩
    refine zm (zv (zbg hO fun b172 σ hO => ?_))
    have hO := zsf7 hO
    refine za (zu ⟨(zf rfl (hO.val (i := 1) (off := 1) (agg := false) (n := 1) rfl rfl) rfl), (zf rfl (hO.val (i := 0) (off := 1) (agg := false) (n := 1) rfl rfl) rfl), (zf rfl (hO.val (i := 1) (off := 0) (agg := false) (n := 1) rfl rfl) rfl), (zf rfl (hO.val (i := 0) (off := 0) (agg := false) (n := 1) rfl rfl) rfl), trivial⟩ ?_)
    refine za (zm (zv (zH (T := zn) hO w147 (i := 5) rfl rfl rfl r13 hr152 (by decide) fun _ σ o150 w151 hO => ?_)))
    obtain ⟨A148, c149, rfl, -⟩ := w151.form
    have hO := zsf7 hO
    refine za (zu ⟨(zf rfl (hO.val (i := 1) (off := 1) (agg := false) (n := 1) rfl rfl) rfl), (zf rfl (hO.val (i := 0) (off := 1) (agg := false) (n := 1) rfl rfl) rfl), (zf rfl (hO.val (i := 1) (off := 0) (agg := false) (n := 1) rfl rfl) rfl), trivial⟩ ?_)
    refine za (zm (zv (zH (T := zn) hO w151 (i := 5) rfl rfl rfl r26 hr157 (by decide) fun _ σ o155 w156 hO => ?_)))
    obtain ⟨A153, c154, rfl, -⟩ := w156.form
    have hO := zsf7 hO
    refine za (zu ⟨(zf rfl (hO.val (i := 1) (off := 1) (agg := false) (n := 1) rfl rfl) rfl), (zf rfl (hO.val (i := 0) (off := 1) (agg := false) (n := 1) rfl rfl) rfl), trivial⟩ ?_)
    refine za (zm (zv (zH (T := zk) hO w161 (i := 4) rfl rfl rfl r17 hr166 (by decide) fun _ σ o164 w165 hO => ?_)))
    obtain ⟨A162, c163, rfl, -⟩ := w165.form
    have hO := zsf7 hO
    refine za (zu ⟨(zf rfl (hO.val (i := 1) (off := 1) (agg := false) (n := 1) rfl rfl) rfl), trivial⟩ ?_)
    refine za (zm (zH (T := zk) hO w165 (i := 4) rfl rfl rfl r30 hr171 (by decide) fun _ σ o169 w170 hO => ?_))
    obtain ⟨A167, c168, rfl, -⟩ := w170.form
    have hO := zsf7 hO
    refine za (zbp (zh hO [] [(88, .agg #[(zsh A153 ((([] : List zl) ++ c8.1.Structs) ++ c21.1.Structs) c154), (zsh A167 ((([] : List zi) ++ c8.1.Funcs) ++ c21.1.Funcs) c168)])] [11, 13, 14] zrX fun j => ?_))
    refine zm (zs hO (i := 6) rfl (off := 0) rfl rfl rfl rfl (Nat.le_of_ble_eq_true rfl) rfl fun σ hO => ?_)
    have hO := zsf7 hO
    refine za (zbL (zj (zp ?_)))
    have hO := hO.sel [3, 6, 5, 4]
    exact ⟨b172, A153, c154, o155, ((([] : List zl) ++ c8.1.Structs) ++ c21.1.Structs), A167, c168, o169, ((([] : List zi) ++ c8.1.Funcs) ++ c21.1.Funcs), _, zr9 zrV, hO, hL, r55, r59, w156, w170, hF⟩
   refine zm (zv (zbg hO fun b172 σ hO => ?_))
   have hO := zsf6 hO
   refine za (zu ⟨(zf rfl (hO.val (i := 1) (off := 1) (agg := false) (n := 1) rfl rfl) rfl), (zf rfl (hO.val (i := 0) (off := 1) (agg := false) (n := 1) rfl rfl) rfl), (zf rfl (hO.val (i := 1) (off := 0) (agg := false) (n := 1) rfl rfl) rfl), (zf rfl (hO.val (i := 0) (off := 0) (agg := false) (n := 1) rfl rfl) rfl), trivial⟩ ?_)
   refine za (zm (zv (zB (T := zn) (l := ([] : List zl)) (cs := []) hO rfl rfl rfl (by decide) fun _ σ o146 w147 hO => ?_)))
   obtain ⟨A144, c145, rfl, -⟩ := w147.form
   have hO := zsf7 hO
   refine za (zu ⟨(zf rfl (hO.val (i := 1) (off := 1) (agg := false) (n := 1) rfl rfl) rfl), (zf rfl (hO.val (i := 0) (off := 1) (agg := false) (n := 1) rfl rfl) rfl), (zf rfl (hO.val (i := 1) (off := 0) (agg := false) (n := 1) rfl rfl) rfl), (zf rfl (hO.val (i := 0) (off := 0) (agg := false) (n := 1) rfl rfl) rfl), trivial⟩ ?_)
   refine za (zm (zv (zH (T := zn) hO w147 (i := 6) rfl rfl rfl r13 hr152 (by decide) fun _ σ o150 w151 hO => ?_)))
   obtain ⟨A148, c149, rfl, -⟩ := w151.form
   have hO := zsf7 hO
   refine za (zu ⟨(zf rfl (hO.val (i := 1) (off := 1) (agg := false) (n := 1) rfl rfl) rfl), (zf rfl (hO.val (i := 0) (off := 1) (agg := false) (n := 1) rfl rfl) rfl), (zf rfl (hO.val (i := 1) (off := 0) (agg := false) (n := 1) rfl rfl) rfl), trivial⟩ ?_)
   refine za (zm (zv (zH (T := zn) hO w151 (i := 6) rfl rfl rfl r26 hr157 (by decide) fun _ σ o155 w156 hO => ?_)))
   obtain ⟨A153, c154, rfl, -⟩ := w156.form
   have hO := zsf7 hO
   refine za (zu ⟨(zf rfl (hO.val (i := 1) (off := 1) (agg := false) (n := 1) rfl rfl) rfl), (zf rfl (hO.val (i := 0) (off := 1) (agg := false) (n := 1) rfl rfl) rfl), trivial⟩ ?_)
   refine za (zm (zv (zH (T := zk) hO w161 (i := 4) rfl rfl rfl r17 hr166 (by decide) fun _ σ o164 w165 hO => ?_)))
   obtain ⟨A162, c163, rfl, -⟩ := w165.form
   have hO := zsf7 hO
   refine za (zu ⟨(zf rfl (hO.val (i := 1) (off := 1) (agg := false) (n := 1) rfl rfl) rfl), trivial⟩ ?_)
   refine za (zm (zH (T := zk) hO w165 (i := 4) rfl rfl rfl r30 hr171 (by decide) fun _ σ o169 w170 hO => ?_))
   obtain ⟨A167, c168, rfl, -⟩ := w170.form
   have hO := zsf7 hO
   refine za (zbp (zh hO [] [(88, .agg #[(zsh A153 ((([] : List zl) ++ c8.1.Structs) ++ c21.1.Structs) c154), (zsh A167 ((([] : List zi) ++ c8.1.Funcs) ++ c21.1.Funcs) c168)])] [11, 13, 14] zrX fun j => ?_))
   refine zm (zs hO (i := 5) rfl (off := 0) rfl rfl rfl rfl (Nat.le_of_ble_eq_true rfl) rfl fun σ hO => ?_)
   have hO := zsf7 hO
   refine za (zbL (zj (zp ?_)))
   have hO := hO.sel [3, 5, 6, 4]
   exact ⟨b172, A153, c154, o155, ((([] : List zl) ++ c8.1.Structs) ++ c21.1.Structs), A167, c168, o169, ((([] : List zi) ++ c8.1.Funcs) ++ c21.1.Funcs), _, zr9 zrV, hO, hL, r55, r59, w156, w170, hF⟩
  refine zm (zv (zbg hO fun b172 σ hO => ?_))
  have hO := zsf5 hO
  refine za (zu ⟨(zf rfl (hO.val (i := 1) (off := 1) (agg := false) (n := 1) rfl rfl) rfl), (zf rfl (hO.val (i := 0) (off := 1) (agg := false) (n := 1) rfl rfl) rfl), (zf rfl (hO.val (i := 1) (off := 0) (agg := false) (n := 1) rfl rfl) rfl), (zf rfl (hO.val (i := 0) (off := 0) (agg := false) (n := 1) rfl rfl) rfl), trivial⟩ ?_)
  refine za (zbN ?_ ?_)
  ·refine zm (zv (zB (T := zn) (l := ([] : List zl)) (cs := []) hO rfl rfl rfl (by decide) fun _ σ o146 w147 hO => ?_))
   obtain ⟨A144, c145, rfl, -⟩ := w147.form
   have hO := zsf6 hO
   refine za (zu ⟨(zf rfl (hO.val (i := 1) (off := 1) (agg := false) (n := 1) rfl rfl) rfl), (zf rfl (hO.val (i := 0) (off := 1) (agg := false) (n := 1) rfl rfl) rfl), (zf rfl (hO.val (i := 1) (off := 0) (agg := false) (n := 1) rfl rfl) rfl), (zf rfl (hO.val (i := 0) (off := 0) (agg := false) (n := 1) rfl rfl) rfl), trivial⟩ ?_)
   refine za (zbN ?_ ?_)
   ·refine zm (zv (zH (T := zn) hO w147 (i := 5) rfl rfl rfl r13 hr152 (by decide) fun _ σ o150 w151 hO => ?_))
    obtain ⟨A148, c149, rfl, -⟩ := w151.form
    have hO := zsf6 hO
    refine za (zu ⟨(zf rfl (hO.val (i := 1) (off := 1) (agg := false) (n := 1) rfl rfl) rfl), (zf rfl (hO.val (i := 0) (off := 1) (agg := false) (n := 1) rfl rfl) rfl), (zf rfl (hO.val (i := 1) (off := 0) (agg := false) (n := 1) rfl rfl) rfl), trivial⟩ ?_)
    refine za (zbN ?_ ?_)
    ·refine zm (zv (zH (T := zn) hO w151 (i := 5) rfl rfl rfl r26 hr157 (by decide) fun _ σ o155 w156 hO => ?_))
     obtain ⟨A153, c154, rfl, -⟩ := w156.form
     have hO := zsf6 hO
     refine za (zu ⟨(zf rfl (hO.val (i := 1) (off := 1) (agg := false) (n := 1) rfl rfl) rfl), (zf rfl (hO.val (i := 0) (off := 1) (agg := false) (n := 1) rfl rfl) rfl), trivial⟩ ?_)
     refine za (zm (zv (zB (T := zk) (l := ([] : List zi)) (cs := []) hO rfl rfl rfl (by decide) fun _ σ o160 w161 hO => ?_)))
     obtain ⟨A158, c159, rfl, -⟩ := w161.form
     have hO := zsf7 hO
     refine za (zu ⟨(zf rfl (hO.val (i := 1) (off := 1) (agg := false) (n := 1) rfl rfl) rfl), (zf rfl (hO.val (i := 0) (off := 1) (agg := false) (n := 1) rfl rfl) rfl), (zf rfl (hO.val (i := 1) (off := 0) (agg := false) (n := 1) rfl rfl) rfl), (zf rfl (hO.val (i := 0) (off := 0) (agg := false) (n := 1) rfl rfl) rfl), trivial⟩ ?_)
     refine za (zm (zv (zH (T := zk) hO w161 (i := 6) rfl rfl rfl r17 hr166 (by decide) fun _ σ o164 w165 hO => ?_)))
     obtain ⟨A162, c163, rfl, -⟩ := w165.form
     have hO := zsf7 hO
     refine za (zu ⟨(zf rfl (hO.val (i := 1) (off := 1) (agg := false) (n := 1) rfl rfl) rfl), trivial⟩ ?_)
     refine za (zm (zH (T := zk) hO w165 (i := 6) rfl rfl rfl r30 hr171 (by decide) fun _ σ o169 w170 hO => ?_))
     obtain ⟨A167, c168, rfl, -⟩ := w170.form
     have hO := zsf7 hO
     refine za (zbp (zh hO [] [(88, .agg #[(zsh A153 ((([] : List zl) ++ c8.1.Structs) ++ c21.1.Structs) c154), (zsh A167 ((([] : List zi) ++ c8.1.Funcs) ++ c21.1.Funcs) c168)])] [11, 13, 14] zrX fun j => ?_))
     refine zm (zs hO (i := 4) rfl (off := 0) rfl rfl rfl rfl (Nat.le_of_ble_eq_true rfl) rfl fun σ hO => ?_)
     have hO := zsf7 hO
     refine za (zbL (zj (zp ?_)))
     have hO := hO.sel [3, 4, 5, 6]
     exact ⟨b172, A153, c154, o155, ((([] : List zl) ++ c8.1.Structs) ++ c21.1.Structs), A167, c168, o169, ((([] : List zi) ++ c8.1.Funcs) ++ c21.1.Funcs), _, zr9 zrV, hO, hL, r55, r59, w156, w170, hF⟩
    refine zm (zv (zB (T := zk) (l := ([] : List zi)) (cs := []) hO rfl rfl rfl (by decide) fun _ σ o160 w161 hO => ?_))
    obtain ⟨A158, c159, rfl, -⟩ := w161.form
    have hO := zsf7 hO
    refine za (zu ⟨(zf rfl (hO.val (i := 1) (off := 1) (agg := false) (n := 1) rfl rfl) rfl), (zf rfl (hO.val (i := 0) (off := 1) (agg := false) (n := 1) rfl rfl) rfl), (zf rfl (hO.val (i := 1) (off := 0) (agg := false) (n := 1) rfl rfl) rfl), (zf rfl (hO.val (i := 0) (off := 0) (agg := false) (n := 1) rfl rfl) rfl), trivial⟩ ?_)
    refine za (zm (zv (zH (T := zn) hO w151 (i := 5) rfl rfl rfl r26 hr157 (by decide) fun _ σ o155 w156 hO => ?_)))
    obtain ⟨A153, c154, rfl, -⟩ := w156.form
    have hO := zsf7 hO
    refine za (zu ⟨(zf rfl (hO.val (i := 1) (off := 1) (agg := false) (n := 1) rfl rfl) rfl), (zf rfl (hO.val (i := 0) (off := 1) (agg := false) (n := 1) rfl rfl) rfl), trivial⟩ ?_)
    refine za (zm (zv (zH (T := zk) hO w161 (i := 6) rfl rfl rfl r17 hr166 (by decide) fun _ σ o164 w165 hO => ?_)))
    obtain ⟨A162, c163, rfl, -⟩ := w165.form
    have hO := zsf7 hO
    refine za (zu ⟨(zf rfl (hO.val (i := 1) (off := 1) (agg := false) (n := 1) rfl rfl) rfl), trivial⟩ ?_)
    refine za (zm (zH (T := zk) hO w165 (i := 6) rfl rfl rfl r30 hr171 (by decide) fun _ σ o169 w170 hO => ?_))
    obtain ⟨A167, c168, rfl, -⟩ := w170.form
    have hO := zsf7 hO
    refine za (zbp (zh hO [] [(88, .agg #[(zsh A153 ((([] : List zl) ++ c8.1.Structs) ++ c21.1.Structs) c154), (zsh A167 ((([] : List zi) ++ c8.1.Funcs) ++ c21.1.Funcs) c168)])] [11, 13, 14] zrX fun j => ?_))
    refine zm (zs hO (i := 4) rfl (off := 0) rfl rfl rfl rfl (Nat.le_of_ble_eq_true rfl) rfl fun σ hO => ?_)
    have hO := zsf7 hO
    refine za (zbL (zj (zp ?_)))
    have hO := hO.sel [3, 4, 5, 6]
    exact ⟨b172, A153, c154, o155, ((([] : List zl) ++ c8.1.Structs) ++ c21.1.Structs), A167, c168, o169, ((([] : List zi) ++ c8.1.Funcs) ++ c21.1.Funcs), _, zr9 zrV, hO, hL, r55, r59, w156, w170, hF⟩
   refine zm (zv (zB (T := zk) (l := ([] : List zi)) (cs := []) hO rfl rfl rfl (by decide) fun _ σ o160 w161 hO => ?_))
   obtain ⟨A158, c159, rfl, -⟩ := w161.form
   have hO := zsf7 hO
   refine za (zu ⟨(zf rfl (hO.val (i := 1) (off := 1) (agg := false) (n := 1) rfl rfl) rfl), (zf rfl (hO.val (i := 0) (off := 1) (agg := false) (n := 1) rfl rfl) rfl), (zf rfl (hO.val (i := 1) (off := 0) (agg := false) (n := 1) rfl rfl) rfl), (zf rfl (hO.val (i := 0) (off := 0) (agg := false) (n := 1) rfl rfl) rfl), trivial⟩ ?_)
   refine za (zm (zv (zH (T := zn) hO w147 (i := 5) rfl rfl rfl r13 hr152 (by decide) fun _ σ o150 w151 hO => ?_)))
   obtain ⟨A148, c149, rfl, -⟩ := w151.form
   have hO := zsf7 hO
   refine za (zu ⟨(zf rfl (hO.val (i := 1) (off := 1) (agg := false) (n := 1) rfl rfl) rfl), (zf rfl (hO.val (i := 0) (off := 1) (agg := false) (n := 1) rfl rfl) rfl), (zf rfl (hO.val (i := 1) (off := 0) (agg := false) (n := 1) rfl rfl) rfl), trivial⟩ ?_)
   refine za (zm (zv (zH (T := zn) hO w151 (i := 5) rfl rfl rfl r26 hr157 (by decide) fun _ σ o155 w156 hO => ?_)))
   obtain ⟨A153, c154, rfl, -⟩ := w156.form
   have hO := zsf7 hO
   refine za (zu ⟨(zf rfl (hO.val (i := 1) (off := 1) (agg := false) (n := 1) rfl rfl) rfl), (zf rfl (hO.val (i := 0) (off := 1) (agg := false) (n := 1) rfl rfl) rfl), trivial⟩ ?_)
   refine za (zm (zv (zH (T := zk) hO w161 (i := 6) rfl rfl rfl r17 hr166 (by decide) fun _ σ o164 w165 hO => ?_)))
   obtain ⟨A162, c163, rfl, -⟩ := w165.form
   have hO := zsf7 hO
   refine za (zu ⟨(zf rfl (hO.val (i := 1) (off := 1) (agg := false) (n := 1) rfl rfl) rfl), trivial⟩ ?_)
   refine za (zm (zH (T := zk) hO w165 (i := 6) rfl rfl rfl r30 hr171 (by decide) fun _ σ o169 w170 hO => ?_))
   obtain ⟨A167, c168, rfl, -⟩ := w170.form
   have hO := zsf7 hO
   refine za (zbp (zh hO [] [(88, .agg #[(zsh A153 ((([] : List zl) ++ c8.1.Structs) ++ c21.1.Structs) c154), (zsh A167 ((([] : List zi) ++ c8.1.Funcs) ++ c21.1.Funcs) c168)])] [11, 13, 14] zrX fun j => ?_))
   refine zm (zs hO (i := 4) rfl (off := 0) rfl rfl rfl rfl (Nat.le_of_ble_eq_true rfl) rfl fun σ hO => ?_)
   have hO := zsf7 hO
   refine za (zbL (zj (zp ?_)))
   have hO := hO.sel [3, 4, 5, 6]
   exact ⟨b172, A153, c154, o155, ((([] : List zl) ++ c8.1.Structs) ++ c21.1.Structs), A167, c168, o169, ((([] : List zi) ++ c8.1.Funcs) ++ c21.1.Funcs), _, zr9 zrV, hO, hL, r55, r59, w156, w170, hF⟩
  refine zm (zv (zB (T := zk) (l := ([] : List zi)) (cs := []) hO rfl rfl rfl (by decide) fun _ σ o160 w161 hO => ?_))
  obtain ⟨A158, c159, rfl, -⟩ := w161.form
  have hO := zsf6 hO
  refine za (zu ⟨(zf rfl (hO.val (i := 1) (off := 1) (agg := false) (n := 1) rfl rfl) rfl), (zf rfl (hO.val (i := 0) (off := 1) (agg := false) (n := 1) rfl rfl) rfl), (zf rfl (hO.val (i := 1) (off := 0) (agg := false) (n := 1) rfl rfl) rfl), (zf rfl (hO.val (i := 0) (off := 0) (agg := false) (n := 1) rfl rfl) rfl), trivial⟩ ?_)
  refine za (zm (zv (zB (T := zn) (l := ([] : List zl)) (cs := []) hO rfl rfl rfl (by decide) fun _ σ o146 w147 hO => ?_)))
  obtain ⟨A144, c145, rfl, -⟩ := w147.form
  have hO := zsf7 hO
  refine za (zu ⟨(zf rfl (hO.val (i := 1) (off := 1) (agg := false) (n := 1) rfl rfl) rfl), (zf rfl (hO.val (i := 0) (off := 1) (agg := false) (n := 1) rfl rfl) rfl), (zf rfl (hO.val (i := 1) (off := 0) (agg := false) (n := 1) rfl rfl) rfl), (zf rfl (hO.val (i := 0) (off := 0) (agg := false) (n := 1) rfl rfl) rfl), trivial⟩ ?_)
  refine za (zm (zv (zH (T := zn) hO w147 (i := 6) rfl rfl rfl r13 hr152 (by decide) fun _ σ o150 w151 hO => ?_)))
  obtain ⟨A148, c149, rfl, -⟩ := w151.form
  have hO := zsf7 hO
  refine za (zu ⟨(zf rfl (hO.val (i := 1) (off := 1) (agg := false) (n := 1) rfl rfl) rfl), (zf rfl (hO.val (i := 0) (off := 1) (agg := false) (n := 1) rfl rfl) rfl), (zf rfl (hO.val (i := 1) (off := 0) (agg := false) (n := 1) rfl rfl) rfl), trivial⟩ ?_)
  refine za (zm (zv (zH (T := zn) hO w151 (i := 6) rfl rfl rfl r26 hr157 (by decide) fun _ σ o155 w156 hO => ?_)))
  obtain ⟨A153, c154, rfl, -⟩ := w156.form
  have hO := zsf7 hO
  refine za (zu ⟨(zf rfl (hO.val (i := 1) (off := 1) (agg := false) (n := 1) rfl rfl) rfl), (zf rfl (hO.val (i := 0) (off := 1) (agg := false) (n := 1) rfl rfl) rfl), trivial⟩ ?_)
  refine za (zm (zv (zH (T := zk) hO w161 (i := 5) rfl rfl rfl r17 hr166 (by decide) fun _ σ o164 w165 hO => ?_)))
  obtain ⟨A162, c163, rfl, -⟩ := w165.form
  have hO := zsf7 hO
  refine za (zu ⟨(zf rfl (hO.val (i := 1) (off := 1) (agg := false) (n := 1) rfl rfl) rfl), trivial⟩ ?_)
  refine za (zm (zH (T := zk) hO w165 (i := 5) rfl rfl rfl r30 hr171 (by decide) fun _ σ o169 w170 hO => ?_))
  obtain ⟨A167, c168, rfl, -⟩ := w170.form
  have hO := zsf7 hO
  refine za (zbp (zh hO [] [(88, .agg #[(zsh A153 ((([] : List zl) ++ c8.1.Structs) ++ c21.1.Structs) c154), (zsh A167 ((([] : List zi) ++ c8.1.Funcs) ++ c21.1.Funcs) c168)])] [11, 13, 14] zrX fun j => ?_))
  refine zm (zs hO (i := 4) rfl (off := 0) rfl rfl rfl rfl (Nat.le_of_ble_eq_true rfl) rfl fun σ hO => ?_)
  have hO := zsf7 hO
  refine za (zbL (zj (zp ?_)))
  have hO := hO.sel [3, 4, 6, 5]
  exact ⟨b172, A153, c154, o155, ((([] : List zl) ++ c8.1.Structs) ++ c21.1.Structs), A167, c168, o169, ((([] : List zi) ++ c8.1.Funcs) ++ c21.1.Funcs), _, zr9 zrV, hO, hL, r55, r59, w156, w170, hF⟩
 rintro e σ ⟨b115, A116, c117, o118, x119, A121, c122, o123, x124, _, hA, hO, hL, r113, r114, w120, w125, hF⟩
 rw [← zbc _ _ hA]
 unfold zif at hF
 refine zd hO 3 [] [(91, .bool (c50.2.2 == 0))] [11, 14] zrW fun j => ?_
 obtain ⟨_, h127, r126, hO⟩ := w120.share hO (i := 2) rfl
 have hL := hL.trans h127
 have r113 := r113.le h127
 have r114 := r114.le h127
 have w125 := w125.le h127
 have hO := zsf4 hO
 obtain ⟨_, h129, r128, hO⟩ := w125.share hO (i := 3) rfl
 have hL := hL.trans h129
 have r113 := r113.le h129
 have r114 := r114.le h129
 have r126 := r126.le h129
 have hO := zsf4 hO
 have hO := hO.sel [0, 1]
 have hO := zsf2 hO
 obtain ⟨c130, h131, hF⟩ := zsg hF
 refine zcr 2 (fun e' σ' => ∃ (τ' : Hp), agr [(95, .bool c130)] e' ∧ Obs τ' σ' [some (b62, ⟨[zsh A56 c50.1.Structs c57, zsh A60 c50.1.Funcs c61], 27, 2, true⟩), some (b115, ⟨[zsh A116 x119 c117, zsh A121 x124 c122], 27, 2, true⟩)] ∧ Hp.le τ τ' ∧ RdT zn τ' (zsh A56 c50.1.Structs c57) c50.1.Structs ∧ RdT zk τ' (zsh A60 c50.1.Funcs c61) c50.1.Funcs ∧ RdT zn τ' (zsh A116 x119 c117) x119 ∧ RdT zk τ' (zsh A121 x124 c122) x124) ?_ ?_
 ·have hF := h131
  rcases zbD hF with ⟨hb132, hF⟩ | ⟨hb132, hF⟩
  ·refine zbv (zse hb132) ?_
   refine zd hO 2 [0, 1] [(92, .agg #[(zsh A56 c50.1.Structs c57), (zsh A60 c50.1.Funcs c61)]), (93, .agg #[(zsh A116 x119 c117), (zsh A121 x124 c122)])] [91] (And.intro (And.intro rfl rfl) (And.intro (And.intro rfl rfl) zrW)) fun j => ?_
   obtain ⟨c133, h134, hF⟩ := zsg hF
   refine zbr hO (zoV (p1 := (⟨x119, x124⟩ : zL)) r113 r114 r126 r128 h134) rfl fun _ σ _ _ hO h135 h136 => ?_
   have hL := hL.trans h135
   have r113 := r113.le h135
   have r114 := r114.le h135
   have r126 := r126.le h135
   have r128 := r128.le h135
   obtain ⟨rfl, rfl⟩ := h136
   have hO := zsf2 hO
   refine zM (zsc hb132) ?_
   refine za ?_
   cases hF
   refine zj ?_
   exact ⟨rfl, _, zr9 (trivial), hO, hL, r113, r114, r126, r128⟩
  refine zbw (zse hb132) ?_
  refine zM (zsc hb132) ?_
  refine za ?_
  cases hF
  refine zj ?_
  exact ⟨rfl, _, zr9 (trivial), hO, hL, r113, r114, r126, r128⟩
 rintro e σ ⟨_, hA, hO, hL, r113, r114, r126, r128⟩
 rw [← zbc _ _ hA]
 refine zbE hO 1 [] [(96, .bool c130)] zrU fun j => ?_
 have hO := hO.sel []
 have hO : Obs _ _ [] := hO
 obtain ⟨c137, h138, hF⟩ := zsg hF
 refine zcr 2 (fun e' σ' => ∃ (τ' : Hp), agr [(98, .bool c137)] e' ∧ Obs τ' σ' [] ∧ Hp.le τ τ') ?_ ?_
 ·have hF := h138
  rcases zbD hF with ⟨hb139, hF⟩ | ⟨hb139, hF⟩
  ·refine zbv (zse hb139) ?_
   obtain ⟨c140, h141, hF⟩ := zsg hF
   refine zbr hO (zgn h141) rfl fun _ σ _ _ hO h142 h143 => ?_
   have hL := hL.trans h142
   obtain ⟨rfl, rfl⟩ := h143
   have hO : Obs _ _ [] := hO
   refine zM (zsc hb139) ?_
   refine za ?_
   cases hF
   refine zj ?_
   exact ⟨rfl, _, zr9 (trivial), hO, hL⟩
  refine zbw (zse hb139) ?_
  refine zM (zsc hb139) ?_
  refine za ?_
  cases hF
  refine zj ?_
  exact ⟨rfl, _, zr9 (trivial), hO, hL⟩
 rintro e σ ⟨_, hA, hO, hL⟩
 rw [← zbc _ _ hA]
 refine zX hO [] [(4, .bool c137)] zrU fun j => ?_
 refine zbt ?_
 cases hF
 exact hQ _ _ _ _ _ rfl hO hL ⟨rfl, rfl⟩
end Go.Proofs.Ytnhboaaikehpoaa
