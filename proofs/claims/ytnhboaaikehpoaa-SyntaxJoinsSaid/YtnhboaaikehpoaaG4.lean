import Derived.Test.YtnhboaaikehpoaaG3
namespace Go.Proofs.Ytnhboaaikehpoaa
open Go.Ab Go.RowKit
set_option linter.unusedVariables false
set_option linter.unusedSimpArgs false
set_option maxRecDepth 10000
set_option maxHeartbeats 1000000
def zlq (gn : Nat) : Prop := ∀ {τ : Hp} {v0 : Value} {p0 : (List zb)} {v1 : Value} {p1 : (List zb)} (r0 : RdT zC τ v0 p0) (r1 : RdT zC τ v1 p1) {rr : Bool} (hF : (zef gn) p0 p1 = some rr), Ctr Try.prog 50 #[v0, v1] τ [] (fun v τ' vs' => v = .bool rr ∧ vs' = [])
theorem zoT {gn : Nat} (ih_ref12_sameExps : zlq gn) {τ : Hp} {v0 : Value} {p0 : (List zb)} {v1 : Value} {p1 : (List zb)} (r0 : RdT zC τ v0 p0) (r1 : RdT zC τ v1 p1) {rr : Bool} (hF : zg7 (zef gn) p0 p1 = some rr) :
  Ctr Try.prog 50 #[v0, v1] τ [] (fun v τ' vs' => v = .bool rr ∧ vs' = []) := by
 obtain ⟨A0, c0, rfl, -⟩ := r0.form
 obtain ⟨A1, c1, rfl, -⟩ := r1.form
 refine zbI (args := [.slice A0 p0.length c0, .slice A1 p1.length c1]) hm Try.func50 s50 rfl fun w0 σ hO Q hQ => ?_
 unfold zg7 at hF
 have hL := Hp.le.refl τ
 show wpn _ _ a50.body _ _ _
 unfold a50
 dsimp only
 refine zh hO [] [] [0, 1] zrV fun j => ?_
 refine zo (zh hO [] [(10, .bool ((p0.length : Int) != (p1.length : Int)))] [0, 1] zrW fun j => ?_)
 refine zE hF rfl (fun hF => ?_) fun hF => ?_
 ·refine zo (zX hO [] [(4, .bool false)] zrU fun j => ?_)
  refine zbq ?_
  cases hF
  exact hQ _ _ _ _ _ rfl hO hL ⟨rfl, rfl⟩
 refine zS (zo (zh hO [] [(5, zsa 0)] [0, 1] zrW fun j => ?_))
 refine zY (zbY (fun (n : Nat) e' σ' => ∃ (x133 : Int) (τ' : Hp), agr [(0, zsh A0 p0 c0), (1, zsh A1 p1 c1), (5, zsa x133)] e' ∧ Obs τ' σ' [] ∧ Hp.le τ τ' ∧ zf9 (zef gn) p0 p1 n x133 = some rr) big ⟨0, _, zr9 zrV, hO, hL, hF⟩ ?_)
 clear hF hO hL
 rintro n263 e σ ⟨x133, _, hA, hO, hL, hF⟩
 rw [← zbc _ _ hA]
 cases n263 with
 | zero => exact nomatch (show none = some rr from hF)
 | succ n263 =>
 replace hF : zgM (zf9 (zef gn) p0 p1 n263) (zef gn) p0 p1 x133 = some rr := hF
 unfold zgM at hF
 refine zo (zh hO [] [(14, .bool (decide (x133 < (p0.length : Int))))] [0, 1, 5] zrX fun j => ?_)
 refine zE hF rfl (fun hF => ?_) fun hF => ?_
 ·refine zS (zY (zcD (zd hO 2 [] [(17, zsh A0 p0 c0), (18, zsa x133)] [0, 1, 5] zrY fun j => ?_)))
  obtain ⟨y265, g266, hF⟩ := zsg hF
  refine z7 (T := zC) (r0.le hL) hO.base rfl rfl g266 (by decide) fun a267 _ k268 m269 => ?_
  obtain ⟨v270, rfl, r271⟩ := zcB k268
  obtain ⟨A272, c273, rfl, -⟩ := r271.form
  refine zd hO 1 [] [(20, .pointer (some a267))] [0, 1, 5] zrX fun j => ?_
  refine zV rfl (m269.le hO.base).fst ?_
  refine zd hO 2 [] [(22, zsh A1 p1 c1), (23, zsa x133)] [0, 1, 5, 21] zrZ fun j => ?_
  obtain ⟨y274, g275, hF⟩ := zsg hF
  refine z7 (T := zC) (r1.le hL) hO.base rfl rfl g275 (by decide) fun a276 _ k277 m278 => ?_
  obtain ⟨v279, rfl, r280⟩ := zcB k277
  obtain ⟨A281, c282, rfl, -⟩ := r280.form
  refine zd hO 1 [] [(25, .pointer (some a276))] [0, 1, 5, 21] zrY fun j => ?_
  refine zV rfl (m278.le hO.base).fst ?_
  refine zd hO 2 [] [(28, .bool ((y265.Kind.toNat : Int) != (y274.Kind.toNat : Int)))] [0, 1, 5] zrX fun j => ?_
  obtain ⟨c283, h284, hF⟩ := zsg hF
  refine zcU 2 [(40, .bool c283), (0, zsh A0 p0 c0), (1, zsh A1 p1 c1), (5, zsa x133)] (fun Q hQ => ?_) fun j => ?_
  ·have hF := h284
   rcases zbD hF with ⟨hb285, hF⟩ | ⟨hb285, hF⟩
   ·refine zbw (zsd hb285) ?_
    refine zM (zsc hb285) ?_
    refine za ?_
    cases hF
    refine zj ?_
    exact hQ _ zrX
   refine zbv (zsd hb285) ?_
   refine zd hO 2 [] [(29, zsh A0 p0 c0), (30, zsa x133)] [0, 1, 5, 28] zrZ fun j => ?_
   obtain ⟨y286, g287, hF⟩ := zsg hF
   refine z7 (T := zC) (r0.le hL) hO.base rfl rfl g287 (by decide) fun a288 _ k289 m290 => ?_
   obtain ⟨v291, rfl, r292⟩ := zcB k289
   obtain ⟨A293, c294, rfl, -⟩ := r292.form
   refine zd hO 1 [] [(32, .pointer (some (a288.add 1)))] [0, 1, 5, 28] zrY fun j => ?_
   refine zV rfl ((m290.le hO.base).one 1 rfl) ?_
   refine zbE hO 2 [] [(0, zsh A0 p0 c0), (1, zsh A1 p1 c1), (5, zsa x133), (28, .bool ((y265.Kind.toNat : Int) != (y274.Kind.toNat : Int))), (33, zsa y286.Num), (34, zsh A1 p1 c1), (35, zsa x133)] zr0 fun j => ?_
   obtain ⟨y295, g296, hF⟩ := zsg hF
   refine z7 (T := zC) (r1.le hL) hO.base rfl rfl g296 (by decide) fun a297 _ k298 m299 => ?_
   obtain ⟨v300, rfl, r301⟩ := zcB k298
   obtain ⟨A302, c303, rfl, -⟩ := r301.form
   refine zd hO 1 [] [(37, .pointer (some (a297.add 1)))] [0, 1, 5, 28, 33] zrZ fun j => ?_
   refine zV rfl ((m299.le hO.base).one 1 rfl) ?_
   refine zd hO 1 [] [(39, .bool (y286.Num != y295.Num))] [0, 1, 5, 28] zrY fun j => ?_
   refine zM (zsc hb285) ?_
   refine za ?_
   cases hF
   refine zj ?_
   exact hQ _ zrX
  refine zd hO 1 [] [(41, .bool c283)] [0, 1, 5] zrX fun j => ?_
  obtain ⟨c304, h305, hF⟩ := zsg hF
  refine zcU 2 [(53, .bool c304), (0, zsh A0 p0 c0), (1, zsh A1 p1 c1), (5, zsa x133)] (fun Q hQ => ?_) fun j => ?_
  ·have hF := h305
   rcases zbD hF with ⟨hb306, hF⟩ | ⟨hb306, hF⟩
   ·refine zbw (zsd hb306) ?_
    refine zM (zsc hb306) ?_
    refine za ?_
    cases hF
    refine zj ?_
    exact hQ _ zrX
   refine zbv (zsd hb306) ?_
   refine zd hO 2 [] [(42, zsh A0 p0 c0), (43, zsa x133)] [0, 1, 5, 41] zrZ fun j => ?_
   obtain ⟨y307, g308, hF⟩ := zsg hF
   refine z7 (T := zC) (r0.le hL) hO.base rfl rfl g308 (by decide) fun a309 _ k310 m311 => ?_
   obtain ⟨v312, rfl, r313⟩ := zcB k310
   obtain ⟨A314, c315, rfl, -⟩ := r313.form
   refine zbE hO 1 [] [(0, zsh A0 p0 c0), (1, zsh A1 p1 c1), (5, zsa x133), (41, .bool c283), (45, .pointer (some (a309.add 2)))] zrY fun j => ?_
   refine zV rfl ((m311.le hO.base).one 2 rfl) ?_
   refine zd hO 2 [] [(47, zsh A1 p1 c1), (48, zsa x133)] [0, 1, 5, 41, 46] zr0 fun j => ?_
   obtain ⟨y316, g317, hF⟩ := zsg hF
   refine z7 (T := zC) (r1.le hL) hO.base rfl rfl g317 (by decide) fun a318 _ k319 m320 => ?_
   obtain ⟨v321, rfl, r322⟩ := zcB k319
   obtain ⟨A323, c324, rfl, -⟩ := r322.form
   refine zd hO 1 [] [(50, .pointer (some (a318.add 2)))] [0, 1, 5, 41, 46] zrZ fun j => ?_
   refine zV rfl ((m320.le hO.base).one 2 rfl) ?_
   refine zd hO 1 [] [(52, .bool (!(zbn y307.Name y316.Name)))] [0, 1, 5, 41] zrY fun j => ?_
   refine zM (zsc hb306) ?_
   refine za ?_
   cases hF
   refine zj ?_
   exact hQ _ zrX
  refine zd hO 1 [] [(54, .bool c304)] [0, 1, 5] zrX fun j => ?_
  obtain ⟨c325, h326, hF⟩ := zsg hF
  refine zcU 2 [(66, .bool c325), (0, zsh A0 p0 c0), (1, zsh A1 p1 c1), (5, zsa x133)] (fun Q hQ => ?_) fun j => ?_
  ·have hF := h326
   rcases zbD hF with ⟨hb327, hF⟩ | ⟨hb327, hF⟩
   ·refine zbw (zsd hb327) ?_
    refine zM (zsc hb327) ?_
    refine za ?_
    cases hF
    refine zj ?_
    exact hQ _ zrX
   refine zbv (zsd hb327) ?_
   refine zbE hO 2 [] [(0, zsh A0 p0 c0), (1, zsh A1 p1 c1), (5, zsa x133), (54, .bool c304), (55, zsh A0 p0 c0), (56, zsa x133)] zrZ fun j => ?_
   obtain ⟨y328, g329, hF⟩ := zsg hF
   refine z7 (T := zC) (r0.le hL) hO.base rfl rfl g329 (by decide) fun a330 _ k331 m332 => ?_
   obtain ⟨v333, rfl, r334⟩ := zcB k331
   obtain ⟨A335, c336, rfl, -⟩ := r334.form
   refine zd hO 1 [] [(58, .pointer (some (a330.add 3)))] [0, 1, 5, 54] zrY fun j => ?_
   refine zV rfl ((m332.le hO.base).one 3 rfl) ?_
   refine zd hO 2 [] [(60, zsh A1 p1 c1), (61, zsa x133)] [0, 1, 5, 54, 59] zr0 fun j => ?_
   obtain ⟨y337, g338, hF⟩ := zsg hF
   refine z7 (T := zC) (r1.le hL) hO.base rfl rfl g338 (by decide) fun a339 _ k340 m341 => ?_
   obtain ⟨v342, rfl, r343⟩ := zcB k340
   obtain ⟨A344, c345, rfl, -⟩ := r343.form
   refine zd hO 1 [] [(63, .pointer (some (a339.add 3)))] [0, 1, 5, 54, 59] zrZ fun j => ?_
   refine zV rfl ((m341.le hO.base).one 3 rfl) ?_
   refine zd hO 1 [] [(65, .bool (!(zbn y328.Field y337.Field)))] [0, 1, 5, 54] zrY fun j => ?_
   refine zM (zsc hb327) ?_
   refine za ?_
   cases hF
   refine zj ?_
   exact hQ _ zrX
  refine zbE hO 1 [] [(0, zsh A0 p0 c0), (1, zsh A1 p1 c1), (5, zsa x133), (67, .bool c325)] zrX fun j => ?_
  obtain ⟨c346, h347, hF⟩ := zsg hF
  refine zcU 2 [(79, .bool c346), (0, zsh A0 p0 c0), (1, zsh A1 p1 c1), (5, zsa x133)] (fun Q hQ => ?_) fun j => ?_
  ·have hF := h347
   rcases zbD hF with ⟨hb348, hF⟩ | ⟨hb348, hF⟩
   ·refine zbw (zsd hb348) ?_
    refine zM (zsc hb348) ?_
    refine za ?_
    cases hF
    refine zj ?_
    exact hQ _ zrX
   refine zbv (zsd hb348) ?_
   refine zd hO 2 [] [(68, zsh A0 p0 c0), (69, zsa x133)] [0, 1, 5, 67] zrZ fun j => ?_
   obtain ⟨y349, g350, hF⟩ := zsg hF
   refine z7 (T := zC) (r0.le hL) hO.base rfl rfl g350 (by decide) fun a351 _ k352 m353 => ?_
   obtain ⟨v354, rfl, r355⟩ := zcB k352
   obtain ⟨A356, c357, rfl, -⟩ := r355.form
   refine zd hO 1 [] [(71, .pointer (some (a351.add 4)))] [0, 1, 5, 67] zrY fun j => ?_
   refine zV rfl ((m353.le hO.base).one 4 rfl) ?_
   refine zd hO 2 [] [(73, zsh A1 p1 c1), (74, zsa x133)] [0, 1, 5, 67, 72] zr0 fun j => ?_
   obtain ⟨y358, g359, hF⟩ := zsg hF
   refine z7 (T := zC) (r1.le hL) hO.base rfl rfl g359 (by decide) fun a360 _ k361 m362 => ?_
   obtain ⟨v363, rfl, r364⟩ := zcB k361
   obtain ⟨A365, c366, rfl, -⟩ := r364.form
   refine zd hO 1 [] [(76, .pointer (some (a360.add 4)))] [0, 1, 5, 67, 72] zrZ fun j => ?_
   refine zV rfl ((m362.le hO.base).one 4 rfl) ?_
   refine zd hO 1 [] [(78, .bool (!(zbn y349.Op y358.Op)))] [0, 1, 5, 67] zrY fun j => ?_
   refine zM (zsc hb348) ?_
   refine za ?_
   cases hF
   refine zj ?_
   exact hQ _ zrX
  refine zd hO 1 [] [(80, .bool c346)] [0, 1, 5] zrX fun j => ?_
  obtain ⟨c367, h368, hF⟩ := zsg hF
  refine zcr 2 (fun e' σ' => ∃ (τ' : Hp), agr [(93, .bool c367), (0, zsh A0 p0 c0), (1, zsh A1 p1 c1), (5, zsa x133)] e' ∧ Obs τ' σ' [] ∧ Hp.le τ τ') ?_ ?_
  ·have hF := h368
   rcases zbD hF with ⟨hb369, hF⟩ | ⟨hb369, hF⟩
   ·refine zbw (zsd hb369) ?_
    refine zM (zsc hb369) ?_
    refine za ?_
    cases hF
    refine zj ?_
    exact ⟨rfl, _, zr9 zrW, hO, hL⟩
   refine zbv (zsd hb369) ?_
   refine zd hO 2 [] [(81, zsh A0 p0 c0), (82, zsa x133)] [0, 1, 5, 80] zrZ fun j => ?_
   obtain ⟨y370, g371, hF⟩ := zsg hF
   refine z7 (T := zC) (r0.le hL) hO.base rfl rfl g371 (by decide) fun a372 _ k373 m374 => ?_
   obtain ⟨v375, rfl, r376⟩ := zcB k373
   obtain ⟨A377, c378, rfl, -⟩ := r376.form
   refine zd hO 1 [] [(84, .pointer (some (a372.add 5)))] [0, 1, 5, 80] zrY fun j => ?_
   refine zV rfl ((m374.le hO.base).one 5 rfl) ?_
   refine zd hO 2 [] [(86, zsh A1 p1 c1), (87, zsa x133)] [0, 1, 5, 80, 85] zr0 fun j => ?_
   obtain ⟨y379, g380, hF⟩ := zsg hF
   refine z7 (T := zC) (r1.le hL) hO.base rfl rfl g380 (by decide) fun a381 _ k382 m383 => ?_
   obtain ⟨v384, rfl, r385⟩ := zcB k382
   obtain ⟨A386, c387, rfl, -⟩ := r385.form
   refine zd hO 1 [] [(89, .pointer (some (a381.add 5)))] [0, 1, 5, 80, 85] zrZ fun j => ?_
   refine zV rfl ((m383.le hO.base).one 5 rfl) ?_
   obtain ⟨c388, h389, hF⟩ := zsg hF
   refine zbr hO (ih_ref12_sameExps r376 r385 h389) rfl fun _ σ _ _ hO h390 h391 => ?_
   have hL := hL.trans h390
   have r376 := r376.le h390
   have m383 := m383.le h390
   have r385 := r385.le h390
   obtain ⟨rfl, rfl⟩ := h391
   have hO : Obs _ _ [] := hO
   refine zd hO 1 [] [(92, .bool (!c388))] [0, 1, 5, 80] zrY fun j => ?_
   refine zM (zsc hb369) ?_
   refine za ?_
   cases hF
   refine zj ?_
   exact ⟨rfl, _, zr9 zrW, hO, hL⟩
  rintro e σ ⟨_, hA, hO, hL⟩
  rw [← zbc _ _ hA]
  refine za (zb2 (zE hF rfl (fun hF => ?_) fun hF => ?_))
  ·refine zo (zX hO [] [(4, .bool false)] zrU fun j => ?_)
   refine zbq (zbm (zU (zU (zbm (zU ?_)))))
   cases hF
   exact hQ _ _ _ _ _ rfl hO hL ⟨rfl, rfl⟩
  refine zS (zj (zbe (zp (zbR (zh hO [] [(5, zsa (IntKind.i64.wrap (x133 + 1)))] [0, 1] zrW fun j => ?_)))))
  refine zj (zp ?_)
  exact ⟨n263, Nat.lt_succ_self _, (IntKind.i64.wrap (x133 + 1)), _, zr9 zrV, hO, hL, hF⟩
 refine zbX (zb1 (zb0 (zp (zX hO [] [(4, .bool true)] zrU fun j => ?_))))
 refine zbt ?_
 cases hF
 exact hQ _ _ _ _ _ rfl hO hL ⟨rfl, rfl⟩
theorem zrM (n : Nat) : zlq n := by
 induction n with
 | zero =>
  intro τ v0 p0 v1 p1 r0 r1 rr hF; exact nomatch (show none = some rr from hF)
 | succ n ih =>
  intro τ v0 p0 v1 p1 r0 r1 rr hF; exact zoT ih r0 r1 hF
theorem zrg : ∀ {τ : Hp} {v0 : Value} {p0 : (List zb)} {v1 : Value} {p1 : (List zb)} (r0 : RdT zC τ v0 p0) (r1 : RdT zC τ v1 p1) {rr : Bool} (hF : zkp p0 p1 = some rr), Ctr Try.prog 50 #[v0, v1] τ [] (fun v τ' vs' => v = .bool rr ∧ vs' = []) := (zrM big)
def znE (gn : Nat) : Prop := ∀ {τ : Hp} {v0 : Value} {p0 : (List zg)} {v1 : Value} {p1 : (List zg)} (r0 : RdT zJ τ v0 p0) (r1 : RdT zJ τ v1 p1) {rr : Bool} (hF : (zeh gn) p0 p1 = some rr), Ctr Try.prog 28 #[v0, v1] τ [] (fun v τ' vs' => v = .bool rr ∧ vs' = [])
theorem zoi {gn : Nat} (ih_ref12_sameStmts : znE gn) {τ : Hp} {v0 : Value} {p0 : (List zg)} {v1 : Value} {p1 : (List zg)} (r0 : RdT zJ τ v0 p0) (r1 : RdT zJ τ v1 p1) {rr : Bool} (hF : zgX (zeh gn) p0 p1 = some rr) :
  Ctr Try.prog 28 #[v0, v1] τ [] (fun v τ' vs' => v = .bool rr ∧ vs' = []) := by
 obtain ⟨A0, c0, rfl, -⟩ := r0.form
 obtain ⟨A1, c1, rfl, -⟩ := r1.form
 refine zbI (args := [.slice A0 p0.length c0, .slice A1 p1.length c1]) hm Try.func28 s28 rfl fun w0 σ hO Q hQ => ?_
 unfold zgX at hF
 have hL := Hp.le.refl τ
 show wpn _ _ a28.body _ _ _
 unfold a28
 dsimp only
 refine zh hO [] [] [0, 1] zrV fun j => ?_
 refine zo (zh hO [] [(12, .bool ((p0.length : Int) != (p1.length : Int)))] [0, 1] zrW fun j => ?_)
 refine zE hF rfl (fun hF => ?_) fun hF => ?_
 ·refine zo (zX hO [] [(4, .bool false)] zrU fun j => ?_)
  refine zbq ?_
  cases hF
  exact hQ _ _ _ _ _ rfl hO hL ⟨rfl, rfl⟩
 refine zS (zo (zh hO [] [(5, zsa 0)] [0, 1] zrW fun j => ?_))
 refine zY (zbY (fun (n : Nat) e' σ' => ∃ (x63 : Int) (τ' : Hp), agr [(0, zsh A0 p0 c0), (1, zsh A1 p1 c1), (5, zsa x63)] e' ∧ Obs τ' σ' [] ∧ Hp.le τ τ' ∧ zfG (zeh gn) p0 p1 n x63 = some rr) big ⟨0, _, zr9 zrV, hO, hL, hF⟩ ?_)
 clear hF hO hL
 rintro n123 e σ ⟨x63, _, hA, hO, hL, hF⟩
 rw [← zbc _ _ hA]
 cases n123 with
 | zero => exact nomatch (show none = some rr from hF)
 | succ n123 =>
 replace hF : zgG (zfG (zeh gn) p0 p1 n123) (zeh gn) p0 p1 x63 = some rr := hF
 unfold zgG at hF
 refine zo (zh hO [] [(16, .bool (decide (x63 < (p0.length : Int))))] [0, 1, 5] zrX fun j => ?_)
 refine zE hF rfl (fun hF => ?_) fun hF => ?_
 ·refine zS (zY (zd hO 2 [] [(19, zsh A0 p0 c0), (20, zsa x63)] [0, 1, 5] zrY fun j => ?_))
  obtain ⟨y125, g126, hF⟩ := zsg hF
  refine z7 (T := zJ) (r0.le hL) hO.base rfl rfl g126 (by decide) fun a127 _ k128 m129 => ?_
  obtain ⟨v130, v134, v138, rfl, r131, r135, r139⟩ := zgp k128
  obtain ⟨A132, c133, rfl, -⟩ := r131.form
  obtain ⟨A136, c137, rfl, -⟩ := r135.form
  obtain ⟨A140, c141, rfl, -⟩ := r139.form
  refine zV rfl ((m129.le hO.base).all rfl) ?_
  refine zbg hO fun b142 σ hO => ?_
  have hO := zsf1 hO
  refine zs hO (i := 0) rfl (off := 0) rfl rfl rfl rfl (Nat.le_of_ble_eq_true rfl) rfl fun σ hO => ?_
  have hO := zsf1 hO
  refine za (zd hO 2 [] [(23, zsh A1 p1 c1), (24, zsa x63)] [0, 1, 5, 6] zrZ fun j => ?_)
  obtain ⟨y143, g144, hF⟩ := zsg hF
  refine z7 (T := zJ) (r1.le hL) hO.base rfl rfl g144 (by decide) fun a145 _ k146 m147 => ?_
  obtain ⟨v148, v152, v156, rfl, r149, r153, r157⟩ := zgp k146
  obtain ⟨A150, c151, rfl, -⟩ := r149.form
  obtain ⟨A154, c155, rfl, -⟩ := r153.form
  obtain ⟨A158, c159, rfl, -⟩ := r157.form
  refine zV rfl ((m147.le hO.base).all rfl) ?_
  refine zbg hO fun b160 σ hO => ?_
  have hO := zsf2 hO
  refine zs hO (i := 1) rfl (off := 0) rfl rfl rfl rfl (Nat.le_of_ble_eq_true rfl) rfl fun σ hO => ?_
  have hO := zsf2 hO
  refine za (zd hO 21 [0, 1, 0, 1, 0, 1, 0, 1, 0, 1, 0, 1] [(67, .bool (((((((y125.Kind.toNat : Int) != (y143.Kind.toNat : Int)) || (y125.Line != y143.Line)) || (!(zbn y125.Name y143.Name))) || (!(zbn y125.Field y143.Field))) || (!(zbn y125.Call y143.Call))) || (!(( (y125.Type_.Kind.toNat : Int) == (y143.Type_.Kind.toNat : Int)) && (( y125.Type_.N == y143.Type_.N) && ((zbn y125.Type_.Name y143.Type_.Name) && true))))))] [0, 1, 5, 6, 7] (And.intro (And.intro rfl rfl) (And.intro (And.intro rfl rfl) (And.intro (And.intro rfl rfl) (And.intro (And.intro rfl rfl) (And.intro (And.intro rfl rfl) (fun _ => And.intro (And.intro rfl rfl) (And.intro (And.intro rfl rfl) (And.intro (And.intro rfl rfl) (fun _ => And.intro (And.intro rfl rfl) (And.intro (And.intro rfl rfl) (And.intro (And.intro rfl rfl) (fun _ => And.intro (And.intro rfl rfl) (And.intro (And.intro rfl rfl) (And.intro (And.intro rfl rfl) (fun _ => And.intro (And.intro rfl rfl) (And.intro (And.intro rfl rfl) (And.intro (And.intro rfl rfl) (fun _ => zr9 zrY)))))))))))))))))) fun j => ?_)
  obtain ⟨c161, h162, hF⟩ := zsg hF
  refine zcr 2 (fun e' σ' => ∃ (τ' : Hp), agr [(74, .bool c161), (0, zsh A0 p0 c0), (1, zsh A1 p1 c1), (5, zsa x63), (6, zsb b142), (7, zsb b160)] e' ∧ Obs τ' σ' [zb5 b142 (y125.Kind.toNat : Int) y125.Line y125.Name y125.Field y125.Call (y125.Type_.Kind.toNat : Int) y125.Type_.N y125.Type_.Name (zsh A132 y125.Kids c133) (zsh A136 y125.Body c137) (zsh A140 y125.Else c141), zb5 b160 (y143.Kind.toNat : Int) y143.Line y143.Name y143.Field y143.Call (y143.Type_.Kind.toNat : Int) y143.Type_.N y143.Type_.Name (zsh A150 y143.Kids c151) (zsh A154 y143.Body c155) (zsh A158 y143.Else c159)] ∧ Hp.le τ τ' ∧ RdT zC τ' (zsh A132 y125.Kids c133) y125.Kids ∧ RdT zJ τ' (zsh A136 y125.Body c137) y125.Body ∧ RdT zJ τ' (zsh A140 y125.Else c141) y125.Else ∧ RdT zC τ' (zsh A150 y143.Kids c151) y143.Kids ∧ RdT zJ τ' (zsh A154 y143.Body c155) y143.Body ∧ RdT zJ τ' (zsh A158 y143.Else c159) y143.Else) ?_ ?_
  ·have hF := h162
   rcases zbD hF with ⟨hb163, hF⟩ | ⟨hb163, hF⟩
   ·refine zbw (zsd hb163) ?_
    refine zM (zsc hb163) ?_
    refine za ?_
    cases hF
    refine zj ?_
    exact ⟨rfl, _, zr9 zrY, hO, hL, r131, r135, r139, r149, r153, r157⟩
   refine zbv (zsd hb163) ?_
   refine zd hO 4 [0, 1] [(69, zsh A132 y125.Kids c133), (71, zsh A150 y143.Kids c151)] [0, 1, 5, 6, 7, 67] (And.intro (And.intro rfl rfl) (And.intro (And.intro rfl rfl) zr1)) fun j => ?_
   obtain ⟨c164, h165, hF⟩ := zsg hF
   refine zbr hO (zrg r131 r149 h165) rfl fun _ σ _ _ hO h166 h167 => ?_
   have hL := hL.trans h166
   have r131 := r131.le h166
   have r149 := r149.le h166
   have r135 := r135.le h166
   have r139 := r139.le h166
   have r153 := r153.le h166
   have r157 := r157.le h166
   obtain ⟨rfl, rfl⟩ := h167
   have hO := zsf2 hO
   refine zd hO 1 [] [(73, .bool (!c164))] [0, 1, 5, 6, 7, 67] zr0 fun j => ?_
   refine zM (zsc hb163) ?_
   refine za ?_
   cases hF
   refine zj ?_
   exact ⟨rfl, _, zr9 zrY, hO, hL, r131, r135, r139, r149, r153, r157⟩
  rintro e σ ⟨_, hA, hO, hL, r131, r135, r139, r149, r153, r157⟩
  rw [← zbc _ _ hA]
  refine zd hO 1 [] [(75, .bool c161)] [0, 1, 5, 6, 7] zrZ fun j => ?_
  obtain ⟨c168, h169, hF⟩ := zsg hF
  refine zcr 2 (fun e' σ' => ∃ (τ' : Hp), agr [(82, .bool c168), (0, zsh A0 p0 c0), (1, zsh A1 p1 c1), (5, zsa x63), (6, zsb b142), (7, zsb b160)] e' ∧ Obs τ' σ' [zb5 b142 (y125.Kind.toNat : Int) y125.Line y125.Name y125.Field y125.Call (y125.Type_.Kind.toNat : Int) y125.Type_.N y125.Type_.Name (zsh A132 y125.Kids c133) (zsh A136 y125.Body c137) (zsh A140 y125.Else c141), zb5 b160 (y143.Kind.toNat : Int) y143.Line y143.Name y143.Field y143.Call (y143.Type_.Kind.toNat : Int) y143.Type_.N y143.Type_.Name (zsh A150 y143.Kids c151) (zsh A154 y143.Body c155) (zsh A158 y143.Else c159)] ∧ Hp.le τ τ' ∧ RdT zC τ' (zsh A132 y125.Kids c133) y125.Kids ∧ RdT zJ τ' (zsh A136 y125.Body c137) y125.Body ∧ RdT zJ τ' (zsh A140 y125.Else c141) y125.Else ∧ RdT zC τ' (zsh A150 y143.Kids c151) y143.Kids ∧ RdT zJ τ' (zsh A154 y143.Body c155) y143.Body ∧ RdT zJ τ' (zsh A158 y143.Else c159) y143.Else) ?_ ?_
  ·have hF := h169
   rcases zbD hF with ⟨hb170, hF⟩ | ⟨hb170, hF⟩
   ·refine zbw (zsd hb170) ?_
    refine zM (zsc hb170) ?_
    refine za ?_
    cases hF
    refine zj ?_
    exact ⟨rfl, _, zr9 zrY, hO, hL, r131, r135, r139, r149, r153, r157⟩
   refine zbv (zsd hb170) ?_
   refine zd hO 4 [0, 1] [(77, zsh A136 y125.Body c137), (79, zsh A154 y143.Body c155)] [0, 1, 5, 6, 7, 75] (And.intro (And.intro rfl rfl) (And.intro (And.intro rfl rfl) zr1)) fun j => ?_
   obtain ⟨c171, h172, hF⟩ := zsg hF
   refine zbr hO (ih_ref12_sameStmts r135 r153 h172) rfl fun _ σ _ _ hO h173 h174 => ?_
   have hL := hL.trans h173
   have r135 := r135.le h173
   have r153 := r153.le h173
   have r131 := r131.le h173
   have r139 := r139.le h173
   have r149 := r149.le h173
   have r157 := r157.le h173
   obtain ⟨rfl, rfl⟩ := h174
   have hO := zsf2 hO
   refine zd hO 1 [] [(81, .bool (!c171))] [0, 1, 5, 6, 7, 75] zr0 fun j => ?_
   refine zM (zsc hb170) ?_
   refine za ?_
   cases hF
   refine zj ?_
   exact ⟨rfl, _, zr9 zrY, hO, hL, r131, r135, r139, r149, r153, r157⟩
  rintro e σ ⟨_, hA, hO, hL, r131, r135, r139, r149, r153, r157⟩
  rw [← zbc _ _ hA]
  refine zd hO 1 [] [(83, .bool c168)] [0, 1, 5, 6, 7] zrZ fun j => ?_
  obtain ⟨c175, h176, hF⟩ := zsg hF
  refine zcr 2 (fun e' σ' => ∃ (τ' : Hp), agr [(90, .bool c175), (0, zsh A0 p0 c0), (1, zsh A1 p1 c1), (5, zsa x63)] e' ∧ Obs τ' σ' [zb5 b142 (y125.Kind.toNat : Int) y125.Line y125.Name y125.Field y125.Call (y125.Type_.Kind.toNat : Int) y125.Type_.N y125.Type_.Name (zsh A132 y125.Kids c133) (zsh A136 y125.Body c137) (zsh A140 y125.Else c141), zb5 b160 (y143.Kind.toNat : Int) y143.Line y143.Name y143.Field y143.Call (y143.Type_.Kind.toNat : Int) y143.Type_.N y143.Type_.Name (zsh A150 y143.Kids c151) (zsh A154 y143.Body c155) (zsh A158 y143.Else c159)] ∧ Hp.le τ τ' ∧ RdT zC τ' (zsh A132 y125.Kids c133) y125.Kids ∧ RdT zJ τ' (zsh A136 y125.Body c137) y125.Body ∧ RdT zJ τ' (zsh A140 y125.Else c141) y125.Else ∧ RdT zC τ' (zsh A150 y143.Kids c151) y143.Kids ∧ RdT zJ τ' (zsh A154 y143.Body c155) y143.Body ∧ RdT zJ τ' (zsh A158 y143.Else c159) y143.Else) ?_ ?_
  ·have hF := h176
   rcases zbD hF with ⟨hb177, hF⟩ | ⟨hb177, hF⟩
   ·refine zbw (zsd hb177) ?_
    refine zM (zsc hb177) ?_
    refine za ?_
    cases hF
    refine zj ?_
    exact ⟨rfl, _, zr9 zrW, hO, hL, r131, r135, r139, r149, r153, r157⟩
   refine zbv (zsd hb177) ?_
   refine zd hO 4 [0, 1] [(85, zsh A140 y125.Else c141), (87, zsh A158 y143.Else c159)] [0, 1, 5, 83] (And.intro (And.intro rfl rfl) (And.intro (And.intro rfl rfl) zrZ)) fun j => ?_
   obtain ⟨c178, h179, hF⟩ := zsg hF
   refine zbr hO (ih_ref12_sameStmts r139 r157 h179) rfl fun _ σ _ _ hO h180 h181 => ?_
   have hL := hL.trans h180
   have r139 := r139.le h180
   have r157 := r157.le h180
   have r131 := r131.le h180
   have r135 := r135.le h180
   have r149 := r149.le h180
   have r153 := r153.le h180
   obtain ⟨rfl, rfl⟩ := h181
   have hO := zsf2 hO
   refine zd hO 1 [] [(89, .bool (!c178))] [0, 1, 5, 83] zrY fun j => ?_
   refine zM (zsc hb177) ?_
   refine za ?_
   cases hF
   refine zj ?_
   exact ⟨rfl, _, zr9 zrW, hO, hL, r131, r135, r139, r149, r153, r157⟩
  rintro e σ ⟨_, hA, hO, hL, r131, r135, r139, r149, r153, r157⟩
  rw [← zbc _ _ hA]
  refine za (zb2 (zE hF rfl (fun hF => ?_) fun hF => ?_))
  ·refine zo (zX hO [] [(4, .bool false)] zrU fun j => ?_)
   refine zbq (zbm (zU (zU (zbm (zU ?_)))))
   cases hF
   have hO := hO.sel []
   exact hQ _ _ _ _ _ rfl hO hL ⟨rfl, rfl⟩
  refine zS (zj (zbe (zp (zbR (zh hO [] [(5, zsa (IntKind.i64.wrap (x63 + 1)))] [0, 1] zrW fun j => ?_)))))
  refine zj (zp ?_)
  have hO := hO.sel []
  exact ⟨n123, Nat.lt_succ_self _, (IntKind.i64.wrap (x63 + 1)), _, zr9 zrV, hO, hL, hF⟩
 refine zbX (zb1 (zb0 (zp (zX hO [] [(4, .bool true)] zrU fun j => ?_))))
 refine zbt ?_
 cases hF
 exact hQ _ _ _ _ _ rfl hO hL ⟨rfl, rfl⟩
theorem zpk (n : Nat) : znE n := by
 induction n with
 | zero =>
  intro τ v0 p0 v1 p1 r0 r1 rr hF; exact nomatch (show none = some rr from hF)
 | succ n ih =>
  intro τ v0 p0 v1 p1 r0 r1 rr hF; exact zoi ih r0 r1 hF
theorem zru : ∀ {τ : Hp} {v0 : Value} {p0 : (List zg)} {v1 : Value} {p1 : (List zg)} (r0 : RdT zJ τ v0 p0) (r1 : RdT zJ τ v1 p1) {rr : Bool} (hF : zjy p0 p1 = some rr), Ctr Try.prog 28 #[v0, v1] τ [] (fun v τ' vs' => v = .bool rr ∧ vs' = []) := (zpk big)
theorem zoV {τ : Hp} {p0 : zL} {v0_0 v0_1 : Value} {p1 : zL} {v1_0 v1_1 : Value} (r0_0 : RdT zn τ v0_0 p0.Structs) (r0_1 : RdT zk τ v0_1 p0.Funcs) (r1_0 : RdT zn τ v1_0 p1.Structs) (r1_1 : RdT zk τ v1_1 p1.Funcs) {rr : Bool} (hF : zeY p0 p1 = some rr) :
  Ctr Try.prog 11 #[.agg #[v0_0, v0_1], .agg #[v1_0, v1_1]] τ [] (fun v τ' vs' => v = .bool rr ∧ vs' = []) := by
 obtain ⟨A0_0, c0_0, rfl, -⟩ := r0_0.form
 obtain ⟨A0_1, c0_1, rfl, -⟩ := r0_1.form
 obtain ⟨A1_0, c1_0, rfl, -⟩ := r1_0.form
 obtain ⟨A1_1, c1_1, rfl, -⟩ := r1_1.form
 refine zbI (args := [.agg #[(zsh A0_0 p0.Structs c0_0), (zsh A0_1 p0.Funcs c0_1)], .agg #[(zsh A1_0 p1.Structs c1_0), (zsh A1_1 p1.Funcs c1_1)]]) hm Try.func11 s11 rfl fun w0 σ hO Q hQ => ?_
 unfold zeY at hF
 have hL := Hp.le.refl τ
 show wpn _ _ a11.body _ _ _
 unfold a11
 dsimp only
 refine zex (n := 2) hO rfl rfl fun b3 σ hO => ?_
 have hO := zsf1 hO
 refine zex (n := 2) hO rfl rfl fun b4 σ hO => ?_
 have hO := zsf2 hO
 refine zh hO [] [] [2, 3] zrV fun j => ?_
 refine zo (zh hO [0, 1, 0, 1] [(26, .bool (((p0.Structs.length : Int) != (p1.Structs.length : Int)) || ((p0.Funcs.length : Int) != (p1.Funcs.length : Int))))] [2, 3] (And.intro (And.intro rfl rfl) (And.intro (And.intro rfl rfl) (And.intro (And.intro rfl rfl) (And.intro (And.intro rfl rfl) (And.intro (And.intro rfl rfl) (fun _ => zr9 zrV)))))) fun j => ?_)
 refine zE hF rfl (fun hF => ?_) fun hF => ?_
 ·refine zo (zX hO [] [(4, .bool false)] zrU fun j => ?_)
  refine zbq ?_
  cases hF
  have hO := hO.sel []
  exact hQ _ _ _ _ _ rfl hO hL ⟨rfl, rfl⟩
 refine zS (zo (zh hO [] [(5, zsa 0)] [2, 3] zrW fun j => ?_))
 refine zY (zbY (fun (n : Nat) e' σ' => ∃ (x417 : Int) (τ' : Hp), agr [(2, zsb b3), (3, zsb b4), (5, zsa x417)] e' ∧ Obs τ' σ' [some (b3, ⟨[zsh A0_0 p0.Structs c0_0, zsh A0_1 p0.Funcs c0_1], 27, 2, true⟩), some (b4, ⟨[zsh A1_0 p1.Structs c1_0, zsh A1_1 p1.Funcs c1_1], 27, 2, true⟩)] ∧ Hp.le τ τ' ∧ zdT p0 p1 n x417 = some rr) big ⟨0, _, zr9 zrV, hO, hL, hF⟩ ?_)
 clear hF hO hL
 rintro n829 e σ ⟨x417, _, hA, hO, hL, hF⟩
 rw [← zbc _ _ hA]
 cases n829 with
 | zero => exact nomatch (show none = some rr from hF)
 | succ n829 =>
 replace hF : zgz (zdT p0 p1 n829) p0 p1 x417 = some rr := hF
 unfold zgz at hF
 refine zo (zh hO [0] [(31, .bool (decide (x417 < (p0.Structs.length : Int))))] [2, 3, 5] (And.intro (And.intro rfl rfl) zrX) fun j => ?_)
 refine zE hF rfl (fun hF => ?_) fun hF => ?_
 ·refine zS (zY (zo (zcD (zd hO 3 [0] [(35, zsh A0_0 p0.Structs c0_0), (36, zsa x417)] [2, 3, 5] (And.intro (And.intro rfl rfl) zrY) fun j => ?_))))
  obtain ⟨y831, g832, hF⟩ := zsg hF
  refine z7 (T := zn) (r0_0.le hL) hO.base rfl rfl g832 (by decide) fun a833 _ k834 m835 => ?_
  obtain ⟨v836, rfl, r837⟩ := k834
  obtain ⟨A838, c839, rfl, -⟩ := r837.form
  refine zd hO 1 [] [(38, .pointer (some a833))] [2, 3, 5] zrX fun j => ?_
  refine zV rfl (m835.le hO.base).fst ?_
  refine zd hO 3 [1] [(41, zsh A1_0 p1.Structs c1_0), (42, zsa x417)] [2, 3, 5, 39] (And.intro (And.intro rfl rfl) zrZ) fun j => ?_
  obtain ⟨y840, g841, hF⟩ := zsg hF
  refine z7 (T := zn) (r1_0.le hL) hO.base rfl rfl g841 (by decide) fun a842 _ k843 m844 => ?_
  obtain ⟨v845, rfl, r846⟩ := k843
  obtain ⟨A847, c848, rfl, -⟩ := r846.form
  refine zd hO 1 [] [(44, .pointer (some a842))] [2, 3, 5, 39] zrY fun j => ?_
  refine zV rfl (m844.le hO.base).fst ?_
  refine zd hO 2 [] [(47, .bool (!(zbn y831.Name y840.Name)))] [2, 3, 5] zrX fun j => ?_
  obtain ⟨c849, h850, hF⟩ := zsg hF
  refine zcU 2 [(63, .bool c849), (2, zsb b3), (3, zsb b4), (5, zsa x417)] (fun Q hQ => ?_) fun j => ?_
  ·have hF := h850
   rcases zbD hF with ⟨hb851, hF⟩ | ⟨hb851, hF⟩
   ·refine zbw (zsd hb851) ?_
    refine zM (zsc hb851) ?_
    refine za ?_
    cases hF
    refine zj ?_
    exact hQ _ zrX
   refine zbv (zsd hb851) ?_
   refine zd hO 3 [0] [(49, zsh A0_0 p0.Structs c0_0), (50, zsa x417)] [2, 3, 5, 47] (And.intro (And.intro rfl rfl) zrZ) fun j => ?_
   obtain ⟨y852, g853, hF⟩ := zsg hF
   refine z7 (T := zn) (r0_0.le hL) hO.base rfl rfl g853 (by decide) fun a854 _ k855 m856 => ?_
   obtain ⟨v857, rfl, r858⟩ := k855
   obtain ⟨A859, c860, rfl, -⟩ := r858.form
   refine zd hO 1 [] [(52, .pointer (some (a854.add 1)))] [2, 3, 5, 47] zrY fun j => ?_
   refine zV rfl ((m856.le hO.base).one 1 rfl) ?_
   refine zbE hO 4 [1] [(2, zsb b3), (3, zsb b4), (5, zsa x417), (47, .bool (!(zbn y831.Name y840.Name))), (54, zsa (y852.Fields.length : Int)), (56, zsh A1_0 p1.Structs c1_0), (57, zsa x417)] (And.intro (And.intro rfl rfl) zr0) fun j => ?_
   obtain ⟨y861, g862, hF⟩ := zsg hF
   refine z7 (T := zn) (r1_0.le hL) hO.base rfl rfl g862 (by decide) fun a863 _ k864 m865 => ?_
   obtain ⟨v866, rfl, r867⟩ := k864
   obtain ⟨A868, c869, rfl, -⟩ := r867.form
   refine zd hO 1 [] [(59, .pointer (some (a863.add 1)))] [2, 3, 5, 47, 54] zrZ fun j => ?_
   refine zV rfl ((m865.le hO.base).one 1 rfl) ?_
   refine zd hO 2 [] [(62, .bool ((y852.Fields.length : Int) != (y861.Fields.length : Int)))] [2, 3, 5, 47] zrY fun j => ?_
   refine zM (zsc hb851) ?_
   refine za ?_
   cases hF
   refine zj ?_
   exact hQ _ zrX
  refine za (zE hF rfl (fun hF => ?_) fun hF => ?_)
  ·refine zo (zX hO [] [(4, .bool false)] zrU fun j => ?_)
   refine zbq (zbm (zU (zU (zbm (zU ?_)))))
   cases hF
   have hO := hO.sel []
   exact hQ _ _ _ _ _ rfl hO hL ⟨rfl, rfl⟩
  refine zS (zh hO [] [(6, zsa 0)] [2, 3, 5] zrX fun j => ?_)
  refine zcF (zY (zbY (fun (n : Nat) e' σ' => ∃ (x910 : Int) (τ' : Hp), agr [(2, zsb b3), (3, zsb b4), (5, zsa x417), (6, zsa x910)] e' ∧ Obs τ' σ' [some (b3, ⟨[zsh A0_0 p0.Structs c0_0, zsh A0_1 p0.Funcs c0_1], 27, 2, true⟩), some (b4, ⟨[zsh A1_0 p1.Structs c1_0, zsh A1_1 p1.Funcs c1_1], 27, 2, true⟩)] ∧ Hp.le τ τ' ∧ zeV (zdT p0 p1 n829) p0 p1 x417 n x910 = some rr) big ⟨0, _, zr9 zrW, hO, hL, hF⟩ ?_))
  clear hF hO hL
  rintro n950 e σ ⟨x910, _, hA, hO, hL, hF⟩
  rw [← zbc _ _ hA]
  cases n950 with
  | zero => exact nomatch (show none = some rr from hF)
  | succ n950 =>
  replace hF : zgk (zeV (zdT p0 p1 n829) p0 p1 x417 n950) (zdT p0 p1 n829) p0 p1 x417 x910 = some rr := hF
  unfold zgk at hF
  refine zo (zd hO 4 [0] [(64, zsa x910), (66, zsh A0_0 p0.Structs c0_0), (67, zsa x417)] [2, 3, 5, 6] (And.intro (And.intro rfl rfl) zr0) fun j => ?_)
  obtain ⟨y951, g952, hF⟩ := zsg hF
  refine z7 (T := zn) (r0_0.le hL) hO.base rfl rfl g952 (by decide) fun a953 _ k954 m955 => ?_
  obtain ⟨v956, rfl, r957⟩ := k954
  obtain ⟨A958, c959, rfl, -⟩ := r957.form
  refine zd hO 1 [] [(69, .pointer (some (a953.add 1)))] [2, 3, 5, 6, 64] zrZ fun j => ?_
  refine zV rfl ((m955.le hO.base).one 1 rfl) ?_
  refine zh hO [] [(72, .bool (decide (x910 < (y951.Fields.length : Int))))] [2, 3, 5, 6] zrY fun j => ?_
  refine zE hF rfl (fun hF => ?_) fun hF => ?_
  ·refine zS (zY (zcD (zd hO 3 [0] [(76, zsh A0_0 p0.Structs c0_0), (77, zsa x417)] [2, 3, 5, 6] (And.intro (And.intro rfl rfl) zrZ) fun j => ?_)))
   obtain ⟨y961, g962, hF⟩ := zsg hF
   refine z7 (T := zn) (r0_0.le hL) hO.base rfl rfl g962 (by decide) fun a963 _ k964 m965 => ?_
   obtain ⟨v966, rfl, r967⟩ := k964
   obtain ⟨A968, c969, rfl, -⟩ := r967.form
   refine zd hO 1 [] [(79, .pointer (some (a963.add 1)))] [2, 3, 5, 6] zrY fun j => ?_
   refine zV rfl ((m965.le hO.base).one 1 rfl) ?_
   refine zd hO 1 [] [(81, zsa x910)] [2, 3, 5, 6, 80] zrZ fun j => ?_
   obtain ⟨y970, g971, hF⟩ := zsg hF
   refine z7 (T := Ty.str) r967 hO.base rfl rfl g971 (by decide) fun a972 _ k973 m974 => ?_
   obtain rfl : _ = ([.string y970] : List Value) := k973
   refine zV rfl (m974.le hO.base).fst ?_
   refine zd hO 3 [1] [(85, zsh A1_0 p1.Structs c1_0), (86, zsa x417)] [2, 3, 5, 6, 83] (And.intro (And.intro rfl rfl) zr0) fun j => ?_
   obtain ⟨y975, g976, hF⟩ := zsg hF
   refine z7 (T := zn) (r1_0.le hL) hO.base rfl rfl g976 (by decide) fun a977 _ k978 m979 => ?_
   obtain ⟨v980, rfl, r981⟩ := k978
   obtain ⟨A982, c983, rfl, -⟩ := r981.form
   refine zd hO 1 [] [(88, .pointer (some (a977.add 1)))] [2, 3, 5, 6, 83] zrZ fun j => ?_
   refine zV rfl ((m979.le hO.base).one 1 rfl) ?_
   refine zbE hO 1 [] [(2, zsb b3), (3, zsb b4), (5, zsa x417), (6, zsa x910), (83, .string y970), (89, zsh A982 y975.Fields c983), (90, zsa x910)] zr0 fun j => ?_
   obtain ⟨y984, g985, hF⟩ := zsg hF
   refine z7 (T := Ty.str) r981 hO.base rfl rfl g985 (by decide) fun a986 _ k987 m988 => ?_
   obtain rfl : _ = ([.string y984] : List Value) := k987
   refine zV rfl (m988.le hO.base).fst ?_
   refine zh hO [] [(93, .bool (!(zbn y970 y984)))] [2, 3, 5, 6] zrY fun j => ?_
   refine zb2 (zE hF rfl (fun hF => ?_) fun hF => ?_)
   ·refine zo (zX hO [] [(4, .bool false)] zrU fun j => ?_)
    refine zbq (zbm (zU (zU (zbm (zU (zbm ?_))))))
    refine zU (zU (zbm (zU ?_)))
    cases hF
    have hO := hO.sel []
    exact hQ _ _ _ _ _ rfl hO hL ⟨rfl, rfl⟩
   refine zS (zj (zbe (zp (zbR (zh hO [] [(6, zsa (IntKind.i64.wrap (x910 + 1)))] [2, 3, 5] zrX fun j => ?_)))))
   refine zj (zp ?_)
   exact ⟨n950, Nat.lt_succ_self _, (IntKind.i64.wrap (x910 + 1)), _, zr9 zrW, hO, hL, hF⟩
  refine zbX (zb1 (zb0 (zp (zj (zbe (zp ?_))))))
  refine zbR (zh hO [] [(5, zsa (IntKind.i64.wrap (x417 + 1)))] [2, 3] zrW fun j => ?_)
  refine zj (zp ?_)
  exact ⟨n829, Nat.lt_succ_self _, (IntKind.i64.wrap (x417 + 1)), _, zr9 zrV, hO, hL, hF⟩
 refine zbX (zb1 (zb0 (zp (zo (zh hO [] [(7, zsa 0)] [2, 3] zrW fun j => ?_)))))
 refine zY (zbY (fun (n : Nat) e' σ' => ∃ (x1073 : Int) (τ' : Hp), agr [(2, zsb b3), (3, zsb b4), (7, zsa x1073)] e' ∧ Obs τ' σ' [some (b3, ⟨[zsh A0_0 p0.Structs c0_0, zsh A0_1 p0.Funcs c0_1], 27, 2, true⟩), some (b4, ⟨[zsh A1_0 p1.Structs c1_0, zsh A1_1 p1.Funcs c1_1], 27, 2, true⟩)] ∧ Hp.le τ τ' ∧ zdB p0 p1 n x1073 = some rr) big ⟨0, _, zr9 zrV, hO, hL, hF⟩ ?_)
 clear hF hO hL
 rintro n1157 e σ ⟨x1073, _, hA, hO, hL, hF⟩
 rw [← zbc _ _ hA]
 cases n1157 with
 | zero => exact nomatch (show none = some rr from hF)
 | succ n1157 =>
 replace hF : zhB (zdB p0 p1 n1157) p0 p1 x1073 = some rr := hF
 unfold zhB at hF
 refine zo (zh hO [0] [(98, .bool (decide (x1073 < (p0.Funcs.length : Int))))] [2, 3, 7] (And.intro (And.intro rfl rfl) zrX) fun j => ?_)
 refine zE hF rfl (fun hF => ?_) fun hF => ?_
 ·refine zS (zY (zd hO 3 [0] [(102, zsh A0_1 p0.Funcs c0_1), (103, zsa x1073)] [2, 3, 7] (And.intro (And.intro rfl rfl) zrY) fun j => ?_))
  obtain ⟨y1159, g1160, hF⟩ := zsg hF
  refine z7 (T := zk) (r0_1.le hL) hO.base rfl rfl g1160 (by decide) fun a1161 _ k1162 m1163 => ?_
  obtain ⟨v1164, v1168, rfl, r1165, r1169⟩ := k1162
  obtain ⟨A1166, c1167, rfl, -⟩ := r1165.form
  obtain ⟨A1170, c1171, rfl, -⟩ := r1169.form
  refine zV rfl ((m1163.le hO.base).all rfl) ?_
  refine zbg hO fun b1172 σ hO => ?_
  have hO := zsf3 hO
  refine zs hO (i := 2) rfl (off := 0) rfl rfl rfl rfl (Nat.le_of_ble_eq_true rfl) rfl fun σ hO => ?_
  have hO := zsf3 hO
  refine za (zd hO 3 [1] [(107, zsh A1_1 p1.Funcs c1_1), (108, zsa x1073)] [2, 3, 7, 8] (And.intro (And.intro rfl rfl) zrZ) fun j => ?_)
  obtain ⟨y1173, g1174, hF⟩ := zsg hF
  refine z7 (T := zk) (r1_1.le hL) hO.base rfl rfl g1174 (by decide) fun a1175 _ k1176 m1177 => ?_
  obtain ⟨v1178, v1182, rfl, r1179, r1183⟩ := k1176
  obtain ⟨A1180, c1181, rfl, -⟩ := r1179.form
  obtain ⟨A1184, c1185, rfl, -⟩ := r1183.form
  refine zV rfl ((m1177.le hO.base).all rfl) ?_
  refine zbg hO fun b1186 σ hO => ?_
  have hO := zsf4 hO
  refine zs hO (i := 3) rfl (off := 0) rfl rfl rfl rfl (Nat.le_of_ble_eq_true rfl) rfl fun σ hO => ?_
  have hO := zsf4 hO
  refine za (zo (zd hO 15 [2, 3, 2, 3, 2, 3, 2, 3] [(139, .bool ((((!(zbn y1159.Name y1173.Name)) || (y1159.Line != y1173.Line)) || (!(( (y1159.Result.Kind.toNat : Int) == (y1173.Result.Kind.toNat : Int)) && (( y1159.Result.N == y1173.Result.N) && ((zbn y1159.Result.Name y1173.Result.Name) && true))))) || ((y1159.Params.length : Int) != (y1173.Params.length : Int))))] [2, 3, 7, 8, 9] (And.intro (And.intro rfl rfl) (And.intro (And.intro rfl rfl) (And.intro (And.intro rfl rfl) (And.intro (And.intro rfl rfl) (And.intro (And.intro rfl rfl) (fun _ => And.intro (And.intro rfl rfl) (And.intro (And.intro rfl rfl) (And.intro (And.intro rfl rfl) (fun _ => And.intro (And.intro rfl rfl) (And.intro (And.intro rfl rfl) (And.intro (And.intro rfl rfl) (fun _ => zr9 zrY)))))))))))) fun j => ?_))
  obtain ⟨c1187, h1188, hF⟩ := zsg hF
  refine zcr 2 (fun e' σ' => ∃ (τ' : Hp), agr [(146, .bool c1187), (2, zsb b3), (3, zsb b4), (7, zsa x1073), (8, zsb b1172), (9, zsb b1186)] e' ∧ Obs τ' σ' [some (b3, ⟨[zsh A0_0 p0.Structs c0_0, zsh A0_1 p0.Funcs c0_1], 27, 2, true⟩), some (b4, ⟨[zsh A1_0 p1.Structs c1_0, zsh A1_1 p1.Funcs c1_1], 27, 2, true⟩), zfP b1172 y1159.Name y1159.Line (zsh A1166 y1159.Params c1167) (y1159.Result.Kind.toNat : Int) y1159.Result.N y1159.Result.Name (zsh A1170 y1159.Body c1171), zfP b1186 y1173.Name y1173.Line (zsh A1180 y1173.Params c1181) (y1173.Result.Kind.toNat : Int) y1173.Result.N y1173.Result.Name (zsh A1184 y1173.Body c1185)] ∧ Hp.le τ τ' ∧ RdT zcW τ' (zsh A1166 y1159.Params c1167) y1159.Params ∧ RdT zJ τ' (zsh A1170 y1159.Body c1171) y1159.Body ∧ RdT zcW τ' (zsh A1180 y1173.Params c1181) y1173.Params ∧ RdT zJ τ' (zsh A1184 y1173.Body c1185) y1173.Body) ?_ ?_
  ·have hF := h1188
   rcases zbD hF with ⟨hb1189, hF⟩ | ⟨hb1189, hF⟩
   ·refine zbw (zsd hb1189) ?_
    refine zM (zsc hb1189) ?_
    refine za ?_
    cases hF
    refine zj ?_
    exact ⟨rfl, _, zr9 zrY, hO, hL, r1165, r1169, r1179, r1183⟩
   refine zbv (zsd hb1189) ?_
   refine zd hO 4 [2, 3] [(141, zsh A1170 y1159.Body c1171), (143, zsh A1184 y1173.Body c1185)] [2, 3, 7, 8, 9, 139] (And.intro (And.intro rfl rfl) (And.intro (And.intro rfl rfl) zr1)) fun j => ?_
   obtain ⟨c1190, h1191, hF⟩ := zsg hF
   refine zbr hO (zru r1169 r1183 h1191) rfl fun _ σ _ _ hO h1192 h1193 => ?_
   have hL := hL.trans h1192
   have r1169 := r1169.le h1192
   have r1183 := r1183.le h1192
   have r1165 := r1165.le h1192
   have r1179 := r1179.le h1192
   obtain ⟨rfl, rfl⟩ := h1193
   have hO := zsf4 hO
   refine zd hO 1 [] [(145, .bool (!c1190))] [2, 3, 7, 8, 9, 139] zr0 fun j => ?_
   refine zM (zsc hb1189) ?_
   refine za ?_
   cases hF
   refine zj ?_
   exact ⟨rfl, _, zr9 zrY, hO, hL, r1165, r1169, r1179, r1183⟩
  rintro e σ ⟨_, hA, hO, hL, r1165, r1169, r1179, r1183⟩
  rw [← zbc _ _ hA]
  refine za (zE hF rfl (fun hF => ?_) fun hF => ?_)
  ·refine zo (zX hO [] [(4, .bool false)] zrU fun j => ?_)
   refine zbq (zbm (zU (zU (zbm (zU ?_)))))
   cases hF
   have hO := hO.sel []
   exact hQ _ _ _ _ _ rfl hO hL ⟨rfl, rfl⟩
  refine zS (zh hO [] [(10, zsa 0)] [2, 3, 7, 8, 9] zrZ fun j => ?_)
  refine zcF (zY (zbY (fun (n : Nat) e' σ' => ∃ (x1215 : Int) (τ' : Hp), agr [(2, zsb b3), (3, zsb b4), (7, zsa x1073), (8, zsb b1172), (9, zsb b1186), (10, zsa x1215)] e' ∧ Obs τ' σ' [some (b3, ⟨[zsh A0_0 p0.Structs c0_0, zsh A0_1 p0.Funcs c0_1], 27, 2, true⟩), some (b4, ⟨[zsh A1_0 p1.Structs c1_0, zsh A1_1 p1.Funcs c1_1], 27, 2, true⟩), zfP b1172 y1159.Name y1159.Line (zsh A1166 y1159.Params c1167) (y1159.Result.Kind.toNat : Int) y1159.Result.N y1159.Result.Name (zsh A1170 y1159.Body c1171), zfP b1186 y1173.Name y1173.Line (zsh A1180 y1173.Params c1181) (y1173.Result.Kind.toNat : Int) y1173.Result.N y1173.Result.Name (zsh A1184 y1173.Body c1185)] ∧ Hp.le τ τ' ∧ RdT zcW τ' (zsh A1166 y1159.Params c1167) y1159.Params ∧ RdT zJ τ' (zsh A1170 y1159.Body c1171) y1159.Body ∧ RdT zcW τ' (zsh A1180 y1173.Params c1181) y1173.Params ∧ RdT zJ τ' (zsh A1184 y1173.Body c1185) y1173.Body ∧ zfn (zdB p0 p1 n1157) x1073 y1159 y1173 n x1215 = some rr) big ⟨0, _, zr9 zrY, hO, hL, r1165, r1169, r1179, r1183, hF⟩ ?_))
  clear hF hO hL
  rintro n1228 e σ ⟨x1215, _, hA, hO, hL, r1211, r1212, r1213, r1214, hF⟩
  rw [← zbc _ _ hA]
  cases n1228 with
  | zero => exact nomatch (show none = some rr from hF)
  | succ n1228 =>
  replace hF : zhH (zfn (zdB p0 p1 n1157) x1073 y1159 y1173 n1228) (zdB p0 p1 n1157) x1073 y1159 y1173 x1215 = some rr := hF
  unfold zhH at hF
  refine zo (zh hO [2] [(151, .bool (decide (x1215 < (y1159.Params.length : Int))))] [2, 3, 7, 8, 9, 10] (And.intro (And.intro rfl rfl) zr0) fun j => ?_)
  refine zE hF rfl (fun hF => ?_) fun hF => ?_
  ·refine zS (zY (zcD (zd hO 3 [2] [(155, zsh A1166 y1159.Params c1167), (156, zsa x1215)] [2, 3, 7, 8, 9, 10] (And.intro (And.intro rfl rfl) zr1) fun j => ?_)))
   obtain ⟨y1230, g1231, hF⟩ := zsg hF
   refine z7 (T := zcW) r1211 hO.base rfl rfl g1231 (by decide) fun a1232 _ k1233 m1234 => ?_
   obtain rfl : _ = ([.string y1230.Name, .int .u8 y1230.Type_.Kind.toNat, .int .i64 y1230.Type_.N, .string y1230.Type_.Name] : List Value) := k1233
   refine zV rfl ((m1234.le hO.base).all rfl) ?_
   refine zd hO 3 [3] [(160, zsh A1180 y1173.Params c1181), (161, zsa x1215)] [2, 3, 7, 8, 9, 10, 158] (And.intro (And.intro rfl rfl) zr2) fun j => ?_
   obtain ⟨y1235, g1236, hF⟩ := zsg hF
   refine z7 (T := zcW) r1213 hO.base rfl rfl g1236 (by decide) fun a1237 _ k1238 m1239 => ?_
   obtain rfl : _ = ([.string y1235.Name, .int .u8 y1235.Type_.Kind.toNat, .int .i64 y1235.Type_.N, .string y1235.Type_.Name] : List Value) := k1238
   refine zV rfl ((m1239.le hO.base).all rfl) ?_
   refine zh hO [] [(164, .bool (!((zbn y1230.Name y1235.Name) && (( (y1230.Type_.Kind.toNat : Int) == (y1235.Type_.Kind.toNat : Int)) && (( y1230.Type_.N == y1235.Type_.N) && ((zbn y1230.Type_.Name y1235.Type_.Name) && true))))))] [2, 3, 7, 8, 9, 10] zr0 fun j => ?_
   refine zb2 (zE hF rfl (fun hF => ?_) fun hF => ?_)
   ·refine zo (zX hO [] [(4, .bool false)] zrU fun j => ?_)
    refine zbq (zbm (zU (zU (zbm (zU (zbm ?_))))))
    refine zU (zU (zbm (zU ?_)))
    cases hF
    have hO := hO.sel []
    exact hQ _ _ _ _ _ rfl hO hL ⟨rfl, rfl⟩
   refine zS (zj (zbe (zp (zbR (zh hO [] [(10, zsa (IntKind.i64.wrap (x1215 + 1)))] [2, 3, 7, 8, 9] zrZ fun j => ?_)))))
   refine zj (zp ?_)
   exact ⟨n1228, Nat.lt_succ_self _, (IntKind.i64.wrap (x1215 + 1)), _, zr9 zrY, hO, hL, r1211, r1212, r1213, r1214, hF⟩
  refine zbX (zb1 (zb0 (zp (zj (zbe (zp ?_))))))
  refine zbR (zh hO [] [(7, zsa (IntKind.i64.wrap (x1073 + 1)))] [2, 3] zrW fun j => ?_)
  refine zj (zp ?_)
  have hO := hO.sel [0, 1]
  exact ⟨n1157, Nat.lt_succ_self _, (IntKind.i64.wrap (x1073 + 1)), _, zr9 zrV, hO, hL, hF⟩
 refine zbX (zb1 (zb0 (zp (zX hO [] [(4, .bool true)] zrU fun j => ?_))))
 refine zbt ?_
 cases hF
 have hO := hO.sel []
 exact hQ _ _ _ _ _ rfl hO hL ⟨rfl, rfl⟩
end Go.Proofs.Ytnhboaaikehpoaa
