import Derived.Test.YtnhboaaikehpoaaG5
namespace Go.Proofs.Ytnhboaaikehpoaa
open Go.Ab Go.RowKit
set_option linter.unusedVariables false
set_option linter.unusedSimpArgs false
set_option maxRecDepth 10000
set_option maxHeartbeats 1000000
theorem zpc {τ : Hp} {v0 : Value} {p0 : (List zl)} {v1 : Value} {p1 : (List zl)} {p2 : Int} (r0 : RdT zm τ v0 p0) (r1 : RdT zm τ v1 p1) {rr : Bool} (hF : zh4 p0 p1 p2 = some rr) :
  Ctr Try.prog 6 #[v0, v1, .int .u16 p2] τ [] (fun v τ' vs' => v = .bool rr ∧ vs' = []) := by
 obtain ⟨A0, c0, rfl, -⟩ := r0.form
 obtain ⟨A1, c1, rfl, -⟩ := r1.form
 refine zby (args := [.slice A0 p0.length c0, .slice A1 p1.length c1, .int .u16 p2]) hm Try.func6 s6 rfl fun w0 σ hO Q hQ => ?_
 unfold zh4 at hF
 have hL := Hp.le.refl τ
 show wpn _ _ a6.body _ _ _
 unfold a6
 dsimp only
 refine zg hO [] [] [0, 1, 2] zro fun j => ?_
 refine zk (zg hO [] [(27, .bool ((decide ((p0.length : Int) > 2000)) || (decide ((p1.length : Int) > 1000))))] [0, 1, 2] (And.intro (And.intro rfl rfl) (fun _ => zrB zro)) fun j => ?_)
 refine zA hF rfl (fun hF => ?_) fun hF => ?_
 ·refine zk ?_
  obtain ⟨c5, h6, hF⟩ := zrI hF
  refine zbk hO (zj8 h6) rfl fun _ σ _ _ hO h7 h8 => ?_
  have hL := hL.trans h7
  obtain ⟨rfl, rfl⟩ := h8
  have hO : Obs _ _ [] := hO
  refine zY hO [] [(6, .bool c5)] zrm fun j => ?_
  refine zbl ?_
  cases hF
  exact hQ _ _ _ _ _ rfl hO hL ⟨rfl, rfl⟩
 refine zQ (zd hO 1 [] [(30, zrJ A0 p0 c0)] [0, 1, 2] zrp fun j => ?_)
 obtain ⟨c9, h10, hF⟩ := zrI hF
 refine zbk hO (zfG (r0.le hL) h10) rfl fun _ σ _ _ hO h11 h12 => ?_
 have hL := hL.trans h11
 obtain ⟨v13, v17, rfl, rfl, r14, r18⟩ := h12
 obtain ⟨A15, c16, rfl, -⟩ := r14.form
 obtain ⟨A19, c20, rfl, -⟩ := r18.form
 have hO : Obs _ _ [] := hO
 refine zd hO 4 [] [(32, .agg #[(zrJ A15 c9.1.Structs c16), (zrJ A19 c9.1.Funcs c20)]), (33, zrC c9.2.1), (34, zrC c9.2.2)] [0, 1, 2] zrr fun j => ?_
 refine zbF hO fun b21 σ hO => ?_
 have hO := zrH1 hO
 refine zw hO (i := 0) rfl (off := 0) rfl rfl rfl rfl (Nat.le_of_ble_eq_true rfl) rfl fun σ hO => ?_
 have hO := zrH1 hO
 refine zg hO [] [(8, zrC c9.2.1), (9, zrC c9.2.2)] [0, 1, 2] zrq fun j => ?_
 refine zk (zg hO [] [(36, .bool (c9.2.2 == 7))] [0, 1, 2, 8, 9] zrr fun j => ?_)
 refine zA hF rfl (fun hF => ?_) fun hF => ?_
 ·refine zk (zk (zg hO [] [(44, .bool ((decide (c9.2.1 < 0)) || (decide (c9.2.1 > (p0.length : Int)))))] [0, 1, 8] (And.intro (And.intro rfl rfl) (fun _ => zrB zro)) fun j => ?_))
  refine zA hF rfl (fun hF => ?_) fun hF => ?_
  ·refine zk (zY hO [] [(6, .bool false)] zrm fun j => ?_)
   refine zbl ?_
   cases hF
   have hO := hO.sel []
   exact hQ _ _ _ _ _ rfl hO hL ⟨rfl, rfl⟩
  refine zQ (zk (zd hO 2 [] [(46, zrJ A0 p0 c0), (47, zrC c9.2.1)] [0, 1, 8] zrq fun j => ?_))
  obtain ⟨y24, g25, hF⟩ := zrI hF
  refine zeF (T := zm) (r0.le hL) rfl rfl rfl g25 fun _ r26 => ?_
  obtain ⟨A27, c28, rfl, -⟩ := r26.form
  obtain ⟨c29, h30, hF⟩ := zrI hF
  refine zbk hO (zfG r26 h30) rfl fun _ σ _ _ hO h31 h32 => ?_
  have hL := hL.trans h31
  have r26 := r26.le h31
  have r14 := r14.le h31
  have r18 := r18.le h31
  obtain ⟨v33, v37, rfl, rfl, r34, r38⟩ := h32
  obtain ⟨A35, c36, rfl, -⟩ := r34.form
  obtain ⟨A39, c40, rfl, -⟩ := r38.form
  have hO := zrH1 hO
  refine zbD hO 4 [] [(0, zrJ A0 p0 c0), (1, zrJ A1 p1 c1), (8, zrC c9.2.1), (50, .agg #[(zrJ A35 c29.1.Structs c36), (zrJ A39 c29.1.Funcs c40)]), (51, zrC c29.2.1), (52, zrC c29.2.2)] zrr fun j => ?_
  refine zbF hO fun b41 σ hO => ?_
  have hO := zrH2 hO
  refine zw hO (i := 1) rfl (off := 0) rfl rfl rfl rfl (Nat.le_of_ble_eq_true rfl) rfl fun σ hO => ?_
  have hO := zrH2 hO
  refine zg hO [] [(11, zrC c29.2.1), (12, zrC c29.2.2)] [0, 1, 8] zrq fun j => ?_
  refine zk (zk (zg hO [] [(59, .bool ((c29.2.2 == 7) && (c29.2.1 != c9.2.1)))] [0, 1, 8] (And.intro (And.intro rfl rfl) (fun _ => zrB zro)) fun j => ?_))
  refine zA hF rfl (fun hF => ?_) fun hF => ?_
  ·refine zk (zY hO [] [(6, .bool false)] zrm fun j => ?_)
   refine zbl ?_
   cases hF
   have hO := hO.sel []
   exact hQ _ _ _ _ _ rfl hO hL ⟨rfl, rfl⟩
  refine zQ (zk (zk (zg hO [] [(63, .bool (decide (c9.2.1 < (p0.length : Int))))] [0, 1, 8] zrp fun j => ?_)))
  refine ziP (fun e' σ' => ∃ (τ' : Hp), agr [] e' ∧ Obs τ' σ' [] ∧ Hp.le τ τ' ∧ zf3  = some rr) ?_ ?_
  ·refine zbT (zA hF rfl (fun hF => ?_) fun hF => ?_)
   ·refine zk (zB (T := zm) (l := ([] : List zl)) (cs := []) hO rfl rfl rfl (by decide) fun _ σ o86 w87 hO => ?_)
    obtain ⟨A84, c85, rfl, -⟩ := w87.form
    have hO := zrH3 hO
    refine zd hO 3 [] [(66, zrJ A0 p0 c0), (68, zrC (IntKind.i64.wrap (c9.2.1 + 1)))] [1, 8, 65] zrq fun j => ?_
    obtain ⟨y88, g89, hF⟩ := zrI hF
    refine zeF (T := zm) (r0.le hL) rfl rfl rfl g89 fun _ r90 => ?_
    obtain ⟨A91, c92, rfl, -⟩ := r90.form
    obtain ⟨_, hr97, hF⟩ := zrI hF
    refine zfx (T := zm) hO w87 (i := 2) rfl rfl rfl r90 hr97 (by decide) fun _ σ o95 w96 hO => ?_
    obtain ⟨A93, c94, rfl, -⟩ := w96.form
    have hO := zrH3 hO
    refine zd hO 1 [] [(71, zrJ A1 p1 c1)] [8, 70] zro fun j => ?_
    obtain ⟨_, hr102, hF⟩ := zrI hF
    refine zfx (T := zm) hO w96 (i := 2) rfl rfl rfl (r1.le hL) hr102 (by decide) fun _ σ o100 w101 hO => ?_
    obtain ⟨A98, c99, rfl, -⟩ := w101.form
    have hO := zrH3 hO
    obtain ⟨_, h104, r103, hO⟩ := w101.share hO (i := 2) rfl
    have hL := hL.trans h104
    have r14 := r14.le h104
    have r18 := r18.le h104
    have r34 := r34.le h104
    have r38 := r38.le h104
    have hO := zrH3 hO
    obtain ⟨c105, h106, hF⟩ := zrI hF
    refine zbk hO (zfG r103 h106) rfl fun _ σ _ _ hO h107 h108 => ?_
    have hL := hL.trans h107
    have r103 := r103.le h107
    have r14 := r14.le h107
    have r18 := r18.le h107
    have r34 := r34.le h107
    have r38 := r38.le h107
    obtain ⟨v109, v113, rfl, rfl, r110, r114⟩ := h108
    obtain ⟨A111, c112, rfl, -⟩ := r110.form
    obtain ⟨A115, c116, rfl, -⟩ := r114.form
    have hO := zrH3 hO
    refine zd hO 4 [] [(74, .agg #[(zrJ A111 c105.1.Structs c112), (zrJ A115 c105.1.Funcs c116)]), (75, zrC c105.2.1), (76, zrC c105.2.2)] [8] zrp fun j => ?_
    refine zbF hO fun b117 σ hO => ?_
    have hO := zrH4 hO
    refine zw hO (i := 3) rfl (off := 0) rfl rfl rfl rfl (Nat.le_of_ble_eq_true rfl) rfl fun σ hO => ?_
    have hO := zrH4 hO
    refine zg hO [] [(14, zrC c105.2.1), (15, zrC c105.2.2)] [8] zro fun j => ?_
    refine zk (zY hO [] [(83, .bool ((c105.2.2 != 7) || (c105.2.1 != c9.2.1)))] (And.intro (And.intro rfl rfl) (fun _ => zrB trivial)) fun j => ?_)
    refine zA hF rfl (fun hF => ?_) fun hF => ?_
    ·refine zk (zY hO [] [(6, .bool false)] zrm fun j => ?_)
     refine zbl (zbf ?_)
     cases hF
     have hO := hO.sel []
     exact hQ _ _ _ _ _ rfl hO hL ⟨rfl, rfl⟩
    refine zQ (zh (zu ?_))
    have hO := hO.sel []
    exact ⟨_, trivial, hO, hL, hF⟩
   refine zQ (zh (zu ?_))
   have hO := hO.sel []
   exact ⟨_, trivial, hO, hL, hF⟩
  rintro e σ ⟨_, hA, hO, hL, hF⟩
  rw [← zbg _ _ hA]
  unfold zf3 at hF
  refine zk ?_
  obtain ⟨c79, h80, hF⟩ := zrI hF
  refine zbk hO (zj8 h80) rfl fun _ σ _ _ hO h81 h82 => ?_
  have hL := hL.trans h81
  obtain ⟨rfl, rfl⟩ := h82
  have hO : Obs _ _ [] := hO
  refine zY hO [] [(6, .bool c79)] zrm fun j => ?_
  refine zbl ?_
  cases hF
  exact hQ _ _ _ _ _ rfl hO hL ⟨rfl, rfl⟩
 refine zQ (zk (zd hO 3 [] [(87, .bool (c9.2.1 != 0))] [0, 2, 9] zrp fun j => ?_))
 obtain ⟨c119, h120, hF⟩ := zrI hF
 refine zdm 4 [(94, .bool c119), (0, zrJ A0 p0 c0), (2, .int .u16 p2)] (fun Q hQ => ?_) fun j => ?_
 ·have hF := h120
  rcases zbH hF with ⟨hb121, hF⟩ | ⟨hb121, hF⟩
  ·refine zbv (zrF hb121) ?_
   refine zbv rfl ?_
   refine zbv (zrF hb121) ?_
   refine zS (zrE hb121) ?_
   refine zf ?_
   cases hF
   refine zh ?_
   exact hQ _ zro
  refine zbu (zrF hb121) ?_
  refine zd hO 3 [] [(90, .bool (c9.2.2 != 0))] [0, 2, 9, 87] zrq fun j => ?_
  rcases zbH hF with ⟨hb122, hF⟩ | ⟨hb122, hF⟩
  ·refine zbu (zrG hb122) ?_
   refine zbD hO 2 [] [(0, zrJ A0 p0 c0), (2, .int .u16 p2), (87, .bool (c9.2.1 != 0)), (90, .bool (c9.2.2 != 0)), (92, .bool (c9.2.2 != 11))] zrq fun j => ?_
   refine zbu (zrF hb121) ?_
   refine zS (zrE hb122) ?_
   refine zS (zrE hb121) ?_
   refine zf ?_
   cases hF
   refine zh ?_
   exact hQ _ zro
  refine zbv (zrG hb122) ?_
  refine zbu (zrF hb121) ?_
  refine zS (zrE hb122) ?_
  refine zS (zrE hb121) ?_
  refine zf ?_
  cases hF
  refine zh ?_
  exact hQ _ zro
 refine zf (zA hF rfl (fun hF => ?_) fun hF => ?_)
 ·refine zk (zY hO [] [(6, .bool false)] zrm fun j => ?_)
  refine zbl ?_
  cases hF
  have hO := hO.sel []
  exact hQ _ _ _ _ _ rfl hO hL ⟨rfl, rfl⟩
 refine zQ (zd hO 5 [] [(96, zrC (IntKind.i64.wrap p2)), (99, zrC (IntKind.i64.wrap ((p0.length : Int) + 1)))] [0] zro fun j => ?_)
 obtain ⟨y124, g125, hF⟩ := zrI hF
 refine zqS (zqM g125) ?_
 refine zY hO [] [(0, zrJ A0 p0 c0), (16, zrC y124)] zrn fun j => ?_
 refine zd hO 2 [] [(102, zrJ A0 p0 c0), (103, zrC y124)] [16] zro fun j => ?_
 obtain ⟨y126, g127, hF⟩ := zrI hF
 refine zeF (T := zm) (r0.le hL) rfl rfl rfl g127 fun _ r128 => ?_
 obtain ⟨A129, c130, rfl, -⟩ := r128.form
 obtain ⟨c131, h132, hF⟩ := zrI hF
 refine zbk hO (zfG r128 h132) rfl fun _ σ _ _ hO h133 h134 => ?_
 have hL := hL.trans h133
 have r128 := r128.le h133
 have r14 := r14.le h133
 have r18 := r18.le h133
 obtain ⟨v135, v139, rfl, rfl, r136, r140⟩ := h134
 obtain ⟨A137, c138, rfl, -⟩ := r136.form
 obtain ⟨A141, c142, rfl, -⟩ := r140.form
 have hO := zrH1 hO
 refine zd hO 4 [] [(106, .agg #[(zrJ A137 c131.1.Structs c138), (zrJ A141 c131.1.Funcs c142)]), (107, zrC c131.2.1), (108, zrC c131.2.2)] [16] zrp fun j => ?_
 refine zbF hO fun b143 σ hO => ?_
 have hO := zrH2 hO
 refine zw hO (i := 1) rfl (off := 0) rfl rfl rfl rfl (Nat.le_of_ble_eq_true rfl) rfl fun σ hO => ?_
 have hO := zrH2 hO
 refine zg hO [] [(18, zrC c131.2.1), (19, zrC c131.2.2)] [16] zro fun j => ?_
 refine zbD hO 6 [] [(116, .bool ((c131.2.2 != 7) || (c131.2.1 == y124)))] (And.intro (And.intro rfl rfl) (fun _ => zrB trivial)) fun j => ?_
 have hO := hO.sel []
 have hO : Obs _ _ [] := hO
 obtain ⟨c144, h145, hF⟩ := zrI hF
 refine zdg 2 (fun e' σ' => ∃ (τ' : Hp), agr [(118, .bool c144)] e' ∧ Obs τ' σ' [] ∧ Hp.le τ τ') ?_ ?_
 ·have hF := h145
  rcases zbH hF with ⟨hb146, hF⟩ | ⟨hb146, hF⟩
  ·refine zbu (zrG hb146) ?_
   obtain ⟨c147, h148, hF⟩ := zrI hF
   refine zbk hO (zj8 h148) rfl fun _ σ _ _ hO h149 h150 => ?_
   have hL := hL.trans h149
   obtain ⟨rfl, rfl⟩ := h150
   have hO : Obs _ _ [] := hO
   refine zS (zrE hb146) ?_
   refine zf ?_
   cases hF
   refine zh ?_
   exact ⟨rfl, _, zrB (trivial), hO, hL⟩
  refine zbv (zrG hb146) ?_
  refine zS (zrE hb146) ?_
  refine zf ?_
  cases hF
  refine zh ?_
  exact ⟨rfl, _, zrB (trivial), hO, hL⟩
 rintro e σ ⟨_, hA, hO, hL⟩
 rw [← zbg _ _ hA]
 refine zY hO [] [(6, .bool c144)] zrm fun j => ?_
 refine zbe ?_
 cases hF
 exact hQ _ _ _ _ _ rfl hO hL ⟨rfl, rfl⟩
end Go.Proofs.Ytnhboaaikehpoaa
