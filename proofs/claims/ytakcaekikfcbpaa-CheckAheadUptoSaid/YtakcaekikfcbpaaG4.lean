import Derived.Test.YtakcaekikfcbpaaG3
namespace Go.Proofs.Ytakcaekikfcbpaa
open Go.Ab Go.RowKit
set_option linter.unusedVariables false
set_option linter.unusedSimpArgs false
set_option maxRecDepth 10000
set_option maxHeartbeats 1000000
def zkM (gn : Nat) : Prop := ∀ {τ : Hp} {v0 : Value} {p0 : (List zl)} {p1 : ByteArray} (r0 : RdT z9 τ v0 p0) {rr : Bool} (hF : (zdL gn) p0 p1 = some rr), Ctr Try.prog 16 #[v0, .string p1] τ [] (fun v τ' vs' => v = .bool rr ∧ vs' = [])
theorem zmR {gn : Nat} (ih_law13_calls : zkM gn) {τ : Hp} {v0 : Value} {p0 : (List zl)} {p1 : ByteArray} (W : RdT z9 τ v0 p0) {rr : Bool} (hF : ziL (zdL gn) p0 p1 = some rr) :
  Ctr Try.prog 16 #[v0, .string p1] τ [] (fun v τ' vs' => v = .bool rr ∧ vs' = []) := by
 obtain ⟨G, I, rfl, -⟩ := W.form
 refine zbl (args := [.slice G p0.length I, .string p1]) hm Try.func16 s16 rfl fun w0 σ hO Q hQ => ?_
 unfold ziL at hF
 have hL := Hp.le.refl τ
 show wpn _ _ a16.body _ _ _
 unfold a16
 dsimp only
 refine ze hO [] [] [0, 1] zqM fun j => ?_
 refine zj (ze hO [] [(5, zq1 0)] [0, 1] zqN fun j => ?_)
 refine zba (zbP (fun (n : Nat) e' σ' => ∃ (g : Int) (τ' : Hp), agr [(0, zq8 G p0 I), (1, .string p1), (5, zq1 g)] e' ∧ Obs τ' σ' [] ∧ Hp.le τ τ' ∧ zem (zdL gn) p0 p1 n g = some rr) big ⟨0, _, zq0 zqM, hO, hL, hF⟩ ?_)
 clear hF hO hL
 rintro q e σ ⟨g, _, hA, hO, hL, hF⟩
 rw [← zQ _ _ hA]
 cases q with
 | zero => exact nomatch (show none = some rr from hF)
 | succ q =>
 replace hF : zfN (zem (zdL gn) p0 p1 q) (zdL gn) p0 p1 g = some rr := hF
 unfold zfN at hF
 refine zj (ze hO [] [(9, .bool (decide (g < (p0.length : Int))))] [0, 1, 5] zqO fun j => ?_)
 refine zw hF rfl (fun hF => ?_) fun hF => ?_
 ·refine zF (zba (zd hO 2 [] [(12, zq8 G p0 I), (13, zq1 g)] [0, 1, 5] zqP fun j => ?_))
  obtain ⟨X, Y, hF⟩ := zq7 hF
  refine zV (T := z9) (W.le hL) hO.base rfl rfl Y (by decide) fun a142 _ Z b0 => ?_
  obtain ⟨d7, d8, d9, rfl, b1, b2, b3⟩ := zdX Z
  obtain ⟨f0, f1, rfl, -⟩ := b1.form
  obtain ⟨f2, f3, rfl, -⟩ := b2.form
  obtain ⟨f4, f5, rfl, -⟩ := b3.form
  refine zd hO 1 [] [(15, .pointer (some (a142.add 4)))] [0, 1, 5] zqO fun j => ?_
  refine zI rfl ((b0.le hO.base).one 4 rfl) ?_
  refine zd hO 3 [] [(19, .bool (zG X.Call p1))] [0, 1, 5] zqO fun j => ?_
  obtain ⟨S, b4, hF⟩ := zq7 hF
  refine zb5 2 (fun e' σ' => ∃ (τ' : Hp), agr [(27, .bool S), (0, zq8 G p0 I), (1, .string p1), (5, zq1 g)] e' ∧ Obs τ' σ' [] ∧ Hp.le τ τ') ?_ ?_
  ·have hF := b4
   rcases zbA hF with ⟨h, hF⟩ | ⟨h, hF⟩
   ·refine zbt (zq4 h) ?_
    refine zM (zq3 h) ?_
    refine zf ?_
    cases hF
    refine zg ?_
    exact ⟨rfl, _, zq0 zqN, hO, hL⟩
   refine zbm (zq4 h) ?_
   refine zd hO 2 [] [(20, zq8 G p0 I), (21, zq1 g)] [0, 1, 5, 19] zqQ fun j => ?_
   obtain ⟨f6, b5, hF⟩ := zq7 hF
   refine zV (T := z9) (W.le hL) hO.base rfl rfl b5 (by decide) fun a162 _ b6 b7 => ?_
   obtain ⟨f7, f8, f9, rfl, b8, z, b9⟩ := zdX b6
   obtain ⟨g0, g1, rfl, -⟩ := b8.form
   obtain ⟨g2, g3, rfl, -⟩ := z.form
   obtain ⟨g4, g5, rfl, -⟩ := b9.form
   refine zd hO 1 [] [(23, .pointer (some (a162.add 9)))] [0, 1, 5, 19] zqP fun j => ?_
   refine zI rfl ((b7.le hO.base).one 9 rfl) ?_
   refine zd hO 1 [] [(25, .string p1)] [0, 1, 5, 19, 24] zqQ fun j => ?_
   obtain ⟨g6, c1, hF⟩ := zq7 hF
   refine zO hO (ih_law13_calls z c1) rfl fun _ σ _ _ hO U c2 => ?_
   have hL := hL.trans U
   have z := z.le U
   obtain ⟨rfl, rfl⟩ := c2
   have hO : Obs _ _ [] := hO
   refine zM (zq3 h) ?_
   refine zf ?_
   cases hF
   refine zg ?_
   exact ⟨rfl, _, zq0 zqN, hO, hL⟩
  rintro e σ ⟨_, hA, hO, hL⟩
  rw [← zQ _ _ hA]
  refine zd hO 1 [] [(28, .bool S)] [0, 1, 5] zqO fun j => ?_
  obtain ⟨c3, c4, hF⟩ := zq7 hF
  refine zb5 2 (fun e' σ' => ∃ (τ' : Hp), agr [(36, .bool c3), (0, zq8 G p0 I), (1, .string p1), (5, zq1 g)] e' ∧ Obs τ' σ' [] ∧ Hp.le τ τ') ?_ ?_
  ·have hF := c4
   rcases zbA hF with ⟨o, hF⟩ | ⟨o, hF⟩
   ·refine zbt (zq4 o) ?_
    refine zM (zq3 o) ?_
    refine zf ?_
    cases hF
    refine zg ?_
    exact ⟨rfl, _, zq0 zqN, hO, hL⟩
   refine zbm (zq4 o) ?_
   refine zd hO 2 [] [(29, zq8 G p0 I), (30, zq1 g)] [0, 1, 5, 28] zqQ fun j => ?_
   obtain ⟨g7, c5, hF⟩ := zq7 hF
   refine zV (T := z9) (W.le hL) hO.base rfl rfl c5 (by decide) fun a186 _ c6 c7 => ?_
   obtain ⟨g8, g9, h0, rfl, c8, c9, D⟩ := zdX c6
   obtain ⟨h1, h2, rfl, -⟩ := c8.form
   obtain ⟨h3, h4, rfl, -⟩ := c9.form
   obtain ⟨h5, h6, rfl, -⟩ := D.form
   refine zd hO 1 [] [(32, .pointer (some (a186.add 10)))] [0, 1, 5, 28] zqP fun j => ?_
   refine zI rfl ((c7.le hO.base).one 10 rfl) ?_
   refine zd hO 1 [] [(34, .string p1)] [0, 1, 5, 28, 33] zqQ fun j => ?_
   obtain ⟨h7, d0, hF⟩ := zq7 hF
   refine zO hO (ih_law13_calls D d0) rfl fun _ σ _ _ hO V d5 => ?_
   have hL := hL.trans V
   have D := D.le V
   obtain ⟨rfl, rfl⟩ := d5
   have hO : Obs _ _ [] := hO
   refine zM (zq3 o) ?_
   refine zf ?_
   cases hF
   refine zg ?_
   exact ⟨rfl, _, zq0 zqN, hO, hL⟩
  rintro e σ ⟨_, hA, hO, hL⟩
  rw [← zQ _ _ hA]
  refine zf (zbz (zw hF rfl (fun hF => ?_) fun hF => ?_))
  ·refine zj (zz hO [] [(4, .bool true)] zqL fun j => ?_)
   refine zbq (zbo (zX (zX (zbo (zX ?_)))))
   cases hF
   exact hQ _ _ _ _ _ rfl hO hL ⟨rfl, rfl⟩
  refine zF (zg (z8 (zk (zbf (ze hO [] [(5, zq1 (IntKind.i64.wrap (g + 1)))] [0, 1] zqN fun j => ?_)))))
  refine zg (zk ?_)
  exact ⟨q, Nat.lt_succ_self _, (IntKind.i64.wrap (g + 1)), _, zq0 zqM, hO, hL, hF⟩
 refine zbK (zbC (zbG (zk (zz hO [] [(4, .bool false)] zqL fun j => ?_))))
 refine zbb ?_
 cases hF
 exact hQ _ _ _ _ _ rfl hO hL ⟨rfl, rfl⟩
theorem zp1 (n : Nat) : zkM n := by
 induction n with
 | zero =>
  intro τ h p0 p1 g rr hF; exact nomatch (show none = some rr from hF)
 | succ n ih =>
  intro τ h p0 p1 g rr hF; exact zmR ih g hF
theorem zpP : ∀ {τ : Hp} {g : Value} {p0 : (List zl)} {p1 : ByteArray} (h : RdT z9 τ g p0) {rr : Bool} (hF : zhY p0 p1 = some rr), Ctr Try.prog 16 #[g, .string p1] τ [] (fun v τ' vs' => v = .bool rr ∧ vs' = []) := (zp1 big)
theorem znf {τ : Hp} {p0 : zm} {k2 k3 : Value} {p1 : zm} {k4 k5 : Value} (i2 : RdT zu τ k2 p0.Structs) (d0 : RdT zp τ k3 p0.Funcs) (k6 : RdT zu τ k4 p1.Structs) (d5 : RdT zp τ k5 p1.Funcs) {rr : Bool} (hF : zgF p0 p1 = some rr) :
  Ctr Try.prog 4 #[.agg #[k2, k3], .agg #[k4, k5]] τ [] (fun v τ' vs' => v = .bool rr ∧ vs' = []) := by
 obtain ⟨D, G, rfl, -⟩ := i2.form
 obtain ⟨b2, b5, rfl, -⟩ := d0.form
 obtain ⟨g1, g2, rfl, -⟩ := k6.form
 obtain ⟨b8, b9, rfl, -⟩ := d5.form
 refine zbl (args := [.agg #[(zq8 D p0.Structs G), (zq8 b2 p0.Funcs b5)], .agg #[(zq8 g1 p1.Structs g2), (zq8 b8 p1.Funcs b9)]]) hm Try.func4 s4 rfl fun w0 σ hO Q hQ => ?_
 unfold zgF at hF
 have hL := Hp.le.refl τ
 show wpn _ _ a4.body _ _ _
 unfold a4
 dsimp only
 refine zbQ (n := 2) hO rfl rfl fun b3 σ hO => ?_
 have hO := zq61 hO
 refine zbQ (n := 2) hO rfl rfl fun b4 σ hO => ?_
 have hO := zq62 hO
 refine ze hO [] [] [2, 3] zqM fun j => ?_
 refine zj (zd hO 1 [0] [(16, .agg #[(zq8 D p0.Structs G), (zq8 b2 p0.Funcs b5)])] [2, 3] (And.intro (And.intro rfl rfl) zqN) fun j => ?_)
 obtain ⟨c5, h6, hF⟩ := zq7 hF
 refine zO hO (zj9 (i2.le hL) (d0.le hL) h6) rfl fun _ σ _ _ hO h7 h8 => ?_
 have hL := hL.trans h7
 obtain ⟨rfl, rfl⟩ := h8
 have hO := zq62 hO
 refine zd hO 2 [] [(19, .bool (decide (c5 > 3000)))] [2, 3] zqN fun j => ?_
 obtain ⟨c9, r8, hF⟩ := zq7 hF
 refine zb5 2 (fun e' σ' => ∃ (τ' : Hp), agr [(23, .bool c9), (2, zq2 b3), (3, zq2 b4)] e' ∧ Obs τ' σ' [some (b3, ⟨[zq8 D p0.Structs G, zq8 b2 p0.Funcs b5], 25, 2, true⟩), some (b4, ⟨[zq8 g1 p1.Structs g2, zq8 b8 p1.Funcs b9], 25, 2, true⟩)] ∧ Hp.le τ τ') ?_ ?_
 ·have hF := r8
  rcases zbA hF with ⟨h9, hF⟩ | ⟨h9, hF⟩
  ·refine zbt (zq4 h9) ?_
   refine zM (zq3 h9) ?_
   refine zf ?_
   cases hF
   refine zg ?_
   exact ⟨rfl, _, zq0 zqM, hO, hL⟩
  refine zbm (zq4 h9) ?_
  refine zd hO 1 [1] [(20, .agg #[(zq8 g1 p1.Structs g2), (zq8 b8 p1.Funcs b9)])] [2, 3, 19] (And.intro (And.intro rfl rfl) zqO) fun j => ?_
  obtain ⟨r9, t0, hF⟩ := zq7 hF
  refine zO hO (zj9 (k6.le hL) (d5.le hL) t0) rfl fun _ σ _ _ hO t1 t2 => ?_
  have hL := hL.trans t1
  obtain ⟨rfl, rfl⟩ := t2
  have hO := zq62 hO
  refine zd hO 1 [] [(22, .bool (decide (r9 > 3000)))] [2, 3, 19] zqO fun j => ?_
  refine zM (zq3 h9) ?_
  refine zf ?_
  cases hF
  refine zg ?_
  exact ⟨rfl, _, zq0 zqM, hO, hL⟩
 rintro e σ ⟨_, hA, hO, hL⟩
 rw [← zQ _ _ hA]
 refine ze hO [1] [(29, .bool (c9 || (decide ((p1.Structs.length : Int) > 0))))] [2, 3] (And.intro (And.intro rfl rfl) (And.intro (And.intro rfl rfl) (fun _ => zq0 zqM))) fun j => ?_
 refine zw hF rfl (fun hF => ?_) fun hF => ?_
 ·refine zj ?_
  obtain ⟨t3, t4, hF⟩ := zq7 hF
  refine zO hO (zgn t4) rfl fun _ σ _ _ hO t5 t6 => ?_
  have hL := hL.trans t5
  obtain ⟨rfl, rfl⟩ := t6
  have hO := zq62 hO
  refine zz hO [] [(4, .bool t3)] zqL fun j => ?_
  refine zbq ?_
  cases hF
  have hO := hO.sel []
  exact hQ _ _ _ _ _ rfl hO hL ⟨rfl, rfl⟩
 refine zF (zj (ze hO [] [(5, zq1 0)] [2, 3] zqN fun j => ?_))
 refine zba (zbP (fun (n : Nat) e' σ' => ∃ (I : Int) (τ' : Hp), agr [(2, zq2 b3), (3, zq2 b4), (5, zq1 I)] e' ∧ Obs τ' σ' [some (b3, ⟨[zq8 D p0.Structs G, zq8 b2 p0.Funcs b5], 25, 2, true⟩), some (b4, ⟨[zq8 g1 p1.Structs g2, zq8 b8 p1.Funcs b9], 25, 2, true⟩)] ∧ Hp.le τ τ' ∧ zdp p0 p1 n I = some rr) big ⟨0, _, zq0 zqM, hO, hL, hF⟩ ?_)
 clear hF hO hL
 rintro c0 e σ ⟨I, _, hA, hO, hL, hF⟩
 rw [← zQ _ _ hA]
 cases c0 with
 | zero => exact nomatch (show none = some rr from hF)
 | succ c0 =>
 replace hF : zfK (zdp p0 p1 c0) p0 p1 I = some rr := hF
 unfold zfK at hF
 refine zj (ze hO [1] [(35, .bool (decide (I < (p1.Funcs.length : Int))))] [2, 3, 5] (And.intro (And.intro rfl rfl) zqO) fun j => ?_)
 refine zw hF rfl (fun hF => ?_) fun hF => ?_
 ·refine zF (zba (ze hO [] [(6, zq1 0)] [2, 3, 5] zqO fun j => ?_))
  refine zkt (zba (zbP (fun (n : Nat) e' σ' => ∃ (S : Int) (τ' : Hp), agr [(2, zq2 b3), (3, zq2 b4), (5, zq1 I), (6, zq1 S)] e' ∧ Obs τ' σ' [some (b3, ⟨[zq8 D p0.Structs G, zq8 b2 p0.Funcs b5], 25, 2, true⟩), some (b4, ⟨[zq8 g1 p1.Structs g2, zq8 b8 p1.Funcs b9], 25, 2, true⟩)] ∧ Hp.le τ τ' ∧ zeD (zdp p0 p1 c0) p0 p1 I n S = some rr) big ⟨0, _, zq0 zqN, hO, hL, hF⟩ ?_))
  clear hF hO hL
  rintro g4 e σ ⟨S, _, hA, hO, hL, hF⟩
  rw [← zQ _ _ hA]
  cases g4 with
  | zero => exact nomatch (show none = some rr from hF)
  | succ g4 =>
  replace hF : zf4 (zeD (zdp p0 p1 c0) p0 p1 I g4) (zdp p0 p1 c0) p0 p1 I S = some rr := hF
  unfold zf4 at hF
  refine zj (ze hO [0] [(42, .bool (decide (S < (p0.Funcs.length : Int))))] [2, 3, 5, 6] (And.intro (And.intro rfl rfl) zqP) fun j => ?_)
  refine zw hF rfl (fun hF => ?_) fun hF => ?_
  ·refine zF (zba (zco (zd hO 3 [1] [(46, zq8 b8 p1.Funcs b9), (47, zq1 I)] [2, 3, 5, 6] (And.intro (And.intro rfl rfl) zqQ) fun j => ?_)))
   obtain ⟨j4, k7, hF⟩ := zq7 hF
   refine zV (T := zp) (d5.le hL) hO.base rfl rfl k7 (by decide) fun a1145 _ k8 k9 => ?_
   obtain ⟨t7, t8, rfl, l0, l1⟩ := k8
   obtain ⟨t9, u0, rfl, -⟩ := l0.form
   obtain ⟨u1, u2, rfl, -⟩ := l1.form
   refine zd hO 1 [] [(49, .pointer (some a1145))] [2, 3, 5, 6] zqP fun j => ?_
   refine zI rfl (k9.le hO.base).fst ?_
   refine zd hO 3 [0] [(52, zq8 b2 p0.Funcs b5), (53, zq1 S)] [2, 3, 5, 6, 50] (And.intro (And.intro rfl rfl) zqR) fun j => ?_
   obtain ⟨j5, l2, hF⟩ := zq7 hF
   refine zV (T := zp) (d0.le hL) hO.base rfl rfl l2 (by decide) fun a1158 _ l3 l4 => ?_
   obtain ⟨u3, u4, rfl, l5, l6⟩ := l3
   obtain ⟨u5, u6, rfl, -⟩ := l5.form
   obtain ⟨u7, u8, rfl, -⟩ := l6.form
   refine zd hO 1 [] [(55, .pointer (some a1158))] [2, 3, 5, 6, 50] zqQ fun j => ?_
   refine zI rfl (l4.le hO.base).fst ?_
   refine zd hO 2 [] [(58, .bool (zG j4.Name j5.Name))] [2, 3, 5, 6] zqP fun j => ?_
   obtain ⟨l7, l8, hF⟩ := zq7 hF
   refine zb5 2 (fun e' σ' => ∃ (τ' : Hp), agr [(72, .bool l7), (2, zq2 b3), (3, zq2 b4), (5, zq1 I), (6, zq1 S)] e' ∧ Obs τ' σ' [some (b3, ⟨[zq8 D p0.Structs G, zq8 b2 p0.Funcs b5], 25, 2, true⟩), some (b4, ⟨[zq8 g1 p1.Structs g2, zq8 b8 p1.Funcs b9], 25, 2, true⟩)] ∧ Hp.le τ τ') ?_ ?_
   ·have hF := l8
    rcases zbA hF with ⟨d6, hF⟩ | ⟨d6, hF⟩
    ·refine zbt (zq4 d6) ?_
     refine zM (zq3 d6) ?_
     refine zf ?_
     cases hF
     refine zg ?_
     exact ⟨rfl, _, zq0 zqO, hO, hL⟩
    refine zbm (zq4 d6) ?_
    refine zd hO 3 [0] [(60, zq8 b2 p0.Funcs b5), (61, zq1 S)] [2, 3, 5, 6, 58] (And.intro (And.intro rfl rfl) zqR) fun j => ?_
    obtain ⟨l9, m0, hF⟩ := zq7 hF
    refine zV (T := zp) (d0.le hL) hO.base rfl rfl m0 (by decide) fun a1174 _ m1 m2 => ?_
    obtain ⟨u9, v0, rfl, m3, g5⟩ := m1
    obtain ⟨v1, v2, rfl, -⟩ := m3.form
    obtain ⟨m4, m5, rfl, -⟩ := g5.form
    refine zd hO 1 [] [(63, .pointer (some (a1174.add 6)))] [2, 3, 5, 6, 58] zqQ fun j => ?_
    refine zI rfl ((m2.le hO.base).one 6 rfl) ?_
    refine zN hO 3 [1] [(2, zq2 b3), (3, zq2 b4), (5, zq1 I), (6, zq1 S), (58, .bool (zG j4.Name j5.Name)), (64, zq8 m4 l9.Body m5), (66, zq8 b8 p1.Funcs b9), (67, zq1 I)] (And.intro (And.intro rfl rfl) zqS) fun j => ?_
    obtain ⟨v3, m6, hF⟩ := zq7 hF
    refine zV (T := zp) (d5.le hL) hO.base rfl rfl m6 (by decide) fun a1187 _ m7 i3 => ?_
    obtain ⟨v4, v5, rfl, i4, i5⟩ := m7
    obtain ⟨v6, v7, rfl, -⟩ := i4.form
    obtain ⟨v8, v9, rfl, -⟩ := i5.form
    refine zd hO 1 [] [(69, .pointer (some a1187))] [2, 3, 5, 6, 58, 64] zqR fun j => ?_
    refine zI rfl (i3.le hO.base).fst ?_
    obtain ⟨w2, m8, hF⟩ := zq7 hF
    refine zO hO (zpP g5 m8) rfl fun _ σ _ _ hO f3 m9 => ?_
    have hL := hL.trans f3
    have g5 := g5.le f3
    have i3 := i3.le f3
    have i4 := i4.le f3
    have i5 := i5.le f3
    obtain ⟨rfl, rfl⟩ := m9
    have hO := zq62 hO
    refine zM (zq3 d6) ?_
    refine zf ?_
    cases hF
    refine zg ?_
    exact ⟨rfl, _, zq0 zqO, hO, hL⟩
   rintro e σ ⟨_, hA, hO, hL⟩
   rw [← zQ _ _ hA]
   refine zf (zbz (zw hF rfl (fun hF => ?_) fun hF => ?_))
   ·refine zj ?_
    obtain ⟨n0, n1, hF⟩ := zq7 hF
    refine zO hO (zgn n1) rfl fun _ σ _ _ hO n2 n3 => ?_
    have hL := hL.trans n2
    obtain ⟨rfl, rfl⟩ := n3
    have hO := zq62 hO
    refine zz hO [] [(4, .bool n0)] zqL fun j => ?_
    refine zbq (zbo (zX (zX (zbo (zX (zbo ?_))))))
    refine zX (zX (zbo (zX ?_)))
    cases hF
    have hO := hO.sel []
    exact hQ _ _ _ _ _ rfl hO hL ⟨rfl, rfl⟩
   refine zF (zg (z8 (zk (zbf (ze hO [] [(6, zq1 (IntKind.i64.wrap (S + 1)))] [2, 3, 5] zqO fun j => ?_)))))
   refine zg (zk ?_)
   exact ⟨g4, Nat.lt_succ_self _, (IntKind.i64.wrap (S + 1)), _, zq0 zqN, hO, hL, hF⟩
  refine zbK (zbC (zbG (zk (zg (z8 (zk ?_))))))
  refine zbf (ze hO [] [(5, zq1 (IntKind.i64.wrap (I + 1)))] [2, 3] zqN fun j => ?_)
  refine zg (zk ?_)
  exact ⟨c0, Nat.lt_succ_self _, (IntKind.i64.wrap (I + 1)), _, zq0 zqM, hO, hL, hF⟩
 refine zbK (zbC (zbG (zk (zdq (ze hO [] [(74, zq2 b3)] [2, 3] zqN fun j => ?_)))))
 refine zdq (ze hO [0] [(75, zq8 D p0.Structs G)] [2, 3, 74] (And.intro (And.intro rfl rfl) zqO) fun j => ?_)
 refine zdq (ze hO [] [(77, .pointer (some ⟨b3, 1, none⟩))] [2, 3, 74, 75] zqP fun j => ?_)
 refine zdq (ze hO [0] [(78, zq8 b2 p0.Funcs b5)] [2, 3, 74, 75, 77] (And.intro (And.intro rfl rfl) zqQ) fun j => ?_)
 refine zdq (ze hO [] [(80, .pointer (some ⟨b4, 1, none⟩))] [2, 74, 75, 77, 78] zqQ fun j => ?_)
 refine zdq (ze hO [1] [(81, zq8 b8 p1.Funcs b9)] [2, 74, 75, 77, 78, 80] (And.intro (And.intro rfl rfl) zqR) fun j => ?_)
 refine zdi (fun e' σ' => ∃ (i6 : Nat) (g6 : Option Addr) (g7 : Nat) (i7 : Ob) (c1 : List zH) (τ' : Hp), agr [(2, zq2 b3), (7, zq2 i6)] e' ∧ Obs τ' σ' [some (b3, ⟨[zq8 D p0.Structs G, zq8 b2 p0.Funcs b5], 25, 2, true⟩), some (i6, ⟨[zq8 D p0.Structs G, zq8 g6 c1 g7], 25, 2, true⟩), i7] ∧ Hp.le τ τ' ∧ za zp 53 τ' (zq8 g6 c1 g7) c1 i7 ∧ zfM p0 c1 = some rr) ?_ ?_
 ·refine znR ?_
  obtain ⟨_, i0, hF⟩ := zq7 hF
  obtain ⟨_, f4, hF⟩ := zq7 hF
  refine zid ?_ ?_
  ·refine zcp (zbJ (zbD (T := zp) (l := ([] : List zH)) (cs := []) hO rfl rfl rfl (by decide) fun _ σ n4 d9 hO => ?_))
   obtain ⟨n5, n6, rfl, -⟩ := d9.form
   have hO := zq63 hO
   refine zf (zbH ⟨(zY rfl (hO.val (i := 1) (off := 1) (agg := false) (n := 1) rfl rfl) rfl), (zY rfl (hO.val (i := 0) (off := 1) (agg := false) (n := 1) rfl rfl) rfl), (zY rfl (hO.val (i := 0) (off := 0) (agg := false) (n := 1) rfl rfl) rfl), trivial⟩ ?_)
   refine zf (zid ?_ ?_)
   ·refine zcp (zbJ (zcW (T := zp) hO d9 (i := 2) rfl rfl rfl (d0.le hL) i0 (by decide) fun _ σ j6 Z hO => ?_))
    obtain ⟨j7, j8, rfl, -⟩ := Z.form
    have hO := zq63 hO
    refine zf (zbH ⟨(zY rfl (hO.val (i := 1) (off := 1) (agg := false) (n := 1) rfl rfl) rfl), (zY rfl (hO.val (i := 0) (off := 0) (agg := false) (n := 1) rfl rfl) rfl), trivial⟩ ?_)
    refine zf (zid ?_ ?_)
    ·refine zcp (zbJ (zcW (T := zp) hO Z (i := 2) rfl rfl rfl (d5.le hL) f4 (by decide) fun _ σ c2 U hO => ?_))
     obtain ⟨V, W, rfl, -⟩ := U.form
     have hO := zq63 hO
     refine zf (zbH ⟨(zY rfl (hO.val (i := 0) (off := 0) (agg := false) (n := 1) rfl rfl) rfl), trivial⟩ ?_)
     refine zf (zdq (ze hO [] [(83, .agg #[(zq8 D p0.Structs G), (zq8 V ((([] : List zH) ++ p0.Funcs) ++ p1.Funcs) W)])] [2, 74, 75, 77, 78, 80, 81] zqS fun j => ?_))
     refine zcp (zbJ (zbn hO fun c3 σ hO => ?_))
     have hO := zq64 hO
     refine zf (zbH ⟨(zY rfl (hO.val (i := 1) (off := 1) (agg := false) (n := 1) rfl rfl) rfl), (zY rfl (hO.val (i := 0) (off := 1) (agg := false) (n := 1) rfl rfl) rfl), (zY rfl (hO.val (i := 0) (off := 0) (agg := false) (n := 1) rfl rfl) rfl), trivial⟩ ?_)
     refine zf (zcp (zE hO (i := 3) rfl (off := 0) rfl rfl rfl rfl (Nat.le_of_ble_eq_true rfl) rfl fun σ hO => ?_))
     have hO := zq64 hO
     refine zf (zhF (zg (zk ?_)))
     have hO := hO.sel [0, 3, 2]
     exact ⟨c3, V, W, c2, ((([] : List zH) ++ p0.Funcs) ++ p1.Funcs), _, zq0 zqL, hO, hL, U, hF⟩
    refine zcp (zbJ (zbn hO fun c3 σ hO => ?_))
    have hO := zq64 hO
    refine zf (zbH ⟨(zY rfl (hO.val (i := 1) (off := 1) (agg := false) (n := 1) rfl rfl) rfl), (zY rfl (hO.val (i := 0) (off := 1) (agg := false) (n := 1) rfl rfl) rfl), (zY rfl (hO.val (i := 0) (off := 0) (agg := false) (n := 1) rfl rfl) rfl), trivial⟩ ?_)
    refine zf (zcp (zbJ (zcW (T := zp) hO Z (i := 2) rfl rfl rfl (d5.le hL) f4 (by decide) fun _ σ c2 U hO => ?_)))
    obtain ⟨V, W, rfl, -⟩ := U.form
    have hO := zq64 hO
    refine zf (zbH ⟨(zY rfl (hO.val (i := 0) (off := 0) (agg := false) (n := 1) rfl rfl) rfl), trivial⟩ ?_)
    refine zf (zdq (ze hO [] [(83, .agg #[(zq8 D p0.Structs G), (zq8 V ((([] : List zH) ++ p0.Funcs) ++ p1.Funcs) W)])] [2, 7] zqN fun j => ?_))
    refine zcp (zE hO (i := 3) rfl (off := 0) rfl rfl rfl rfl (Nat.le_of_ble_eq_true rfl) rfl fun σ hO => ?_)
    have hO := zq64 hO
    refine zf (zhF (zg (zk ?_)))
    have hO := hO.sel [0, 3, 2]
    exact ⟨c3, V, W, c2, ((([] : List zH) ++ p0.Funcs) ++ p1.Funcs), _, zq0 zqL, hO, hL, U, hF⟩
   refine zcp (zbJ (zbn hO fun c3 σ hO => ?_))
   have hO := zq64 hO
   refine zf (zbH ⟨(zY rfl (hO.val (i := 1) (off := 1) (agg := false) (n := 1) rfl rfl) rfl), (zY rfl (hO.val (i := 0) (off := 1) (agg := false) (n := 1) rfl rfl) rfl), (zY rfl (hO.val (i := 0) (off := 0) (agg := false) (n := 1) rfl rfl) rfl), trivial⟩ ?_)
   refine zf (zcp (zbJ (zcW (T := zp) hO d9 (i := 2) rfl rfl rfl (d0.le hL) i0 (by decide) fun _ σ j6 Z hO => ?_)))
   obtain ⟨j7, j8, rfl, -⟩ := Z.form
   have hO := zq64 hO
   refine zf (zbH ⟨(zY rfl (hO.val (i := 1) (off := 1) (agg := false) (n := 1) rfl rfl) rfl), (zY rfl (hO.val (i := 0) (off := 0) (agg := false) (n := 1) rfl rfl) rfl), trivial⟩ ?_)
   refine zf (zcp (zbJ (zcW (T := zp) hO Z (i := 2) rfl rfl rfl (d5.le hL) f4 (by decide) fun _ σ c2 U hO => ?_)))
   obtain ⟨V, W, rfl, -⟩ := U.form
   have hO := zq64 hO
   refine zf (zbH ⟨(zY rfl (hO.val (i := 0) (off := 0) (agg := false) (n := 1) rfl rfl) rfl), trivial⟩ ?_)
   refine zf (zdq (ze hO [] [(83, .agg #[(zq8 D p0.Structs G), (zq8 V ((([] : List zH) ++ p0.Funcs) ++ p1.Funcs) W)])] [2, 7] zqN fun j => ?_))
   refine zcp (zE hO (i := 3) rfl (off := 0) rfl rfl rfl rfl (Nat.le_of_ble_eq_true rfl) rfl fun σ hO => ?_)
   have hO := zq64 hO
   refine zf (zhF (zg (zk ?_)))
   have hO := hO.sel [0, 3, 2]
   exact ⟨c3, V, W, c2, ((([] : List zH) ++ p0.Funcs) ++ p1.Funcs), _, zq0 zqL, hO, hL, U, hF⟩
  refine zcp (zbJ (zbn hO fun c3 σ hO => ?_))
  have hO := zq63 hO
  refine zf (zbH ⟨(zY rfl (hO.val (i := 1) (off := 1) (agg := false) (n := 1) rfl rfl) rfl), (zY rfl (hO.val (i := 0) (off := 1) (agg := false) (n := 1) rfl rfl) rfl), (zY rfl (hO.val (i := 0) (off := 0) (agg := false) (n := 1) rfl rfl) rfl), trivial⟩ ?_)
  refine zf (zcp (zbJ (zbD (T := zp) (l := ([] : List zH)) (cs := []) hO rfl rfl rfl (by decide) fun _ σ n4 d9 hO => ?_)))
  obtain ⟨n5, n6, rfl, -⟩ := d9.form
  have hO := zq64 hO
  refine zf (zbH ⟨(zY rfl (hO.val (i := 1) (off := 1) (agg := false) (n := 1) rfl rfl) rfl), (zY rfl (hO.val (i := 0) (off := 1) (agg := false) (n := 1) rfl rfl) rfl), (zY rfl (hO.val (i := 0) (off := 0) (agg := false) (n := 1) rfl rfl) rfl), trivial⟩ ?_)
  refine zf (zcp (zbJ (zcW (T := zp) hO d9 (i := 3) rfl rfl rfl (d0.le hL) i0 (by decide) fun _ σ j6 Z hO => ?_)))
  obtain ⟨j7, j8, rfl, -⟩ := Z.form
  have hO := zq64 hO
  refine zf (zbH ⟨(zY rfl (hO.val (i := 1) (off := 1) (agg := false) (n := 1) rfl rfl) rfl), (zY rfl (hO.val (i := 0) (off := 0) (agg := false) (n := 1) rfl rfl) rfl), trivial⟩ ?_)
  refine zf (zcp (zbJ (zcW (T := zp) hO Z (i := 3) rfl rfl rfl (d5.le hL) f4 (by decide) fun _ σ c2 U hO => ?_)))
  obtain ⟨V, W, rfl, -⟩ := U.form
  have hO := zq64 hO
  refine zf (zbH ⟨(zY rfl (hO.val (i := 0) (off := 0) (agg := false) (n := 1) rfl rfl) rfl), trivial⟩ ?_)
  refine zf (zdq (ze hO [] [(83, .agg #[(zq8 D p0.Structs G), (zq8 V ((([] : List zH) ++ p0.Funcs) ++ p1.Funcs) W)])] [2, 7] zqN fun j => ?_))
  refine zcp (zE hO (i := 2) rfl (off := 0) rfl rfl rfl rfl (Nat.le_of_ble_eq_true rfl) rfl fun σ hO => ?_)
  have hO := zq64 hO
  refine zf (zhF (zg (zk ?_)))
  have hO := hO.sel [0, 2, 3]
  exact ⟨c3, V, W, c2, ((([] : List zH) ++ p0.Funcs) ++ p1.Funcs), _, zq0 zqL, hO, hL, U, hF⟩
 rintro e σ ⟨i6, g6, g7, i7, c1, _, hA, hO, hL, i8, hF⟩
 rw [← zQ _ _ hA]
 unfold zfM at hF
 refine zd hO 1 [0] [(85, .agg #[(zq8 D p0.Structs G), (zq8 b2 p0.Funcs b5)])] [2, 7] (And.intro (And.intro rfl rfl) zqN) fun j => ?_
 obtain ⟨g, n7, hF⟩ := zq7 hF
 refine zO hO (zeQ (i2.le hL) (d0.le hL) n7) rfl fun _ σ _ _ hO j9 n8 => ?_
 have hL := hL.trans j9
 have i8 := i8.le j9
 obtain ⟨w3, w4, rfl, rfl, b6, b7⟩ := n8
 obtain ⟨c4, c6, rfl, -⟩ := b6.form
 obtain ⟨f5, f6, rfl, -⟩ := b7.form
 have hO := zq63 hO
 refine zd hO 4 [] [(87, .agg #[(zq8 c4 g.1.Bodies c6), (.int .i64 g.1.Main), (zq8 f5 g.1.Points f6)]), (88, zq1 g.2.1), (89, zq1 g.2.2)] [2, 7] zqP fun j => ?_
 refine zbn hO fun f0 σ hO => ?_
 have hO := zq64 hO
 refine zE hO (i := 3) rfl (off := 0) rfl rfl rfl rfl (Nat.le_of_ble_eq_true rfl) rfl fun σ hO => ?_
 have hO := zq64 hO
 refine ze hO [] [(9, zq1 g.2.1), (10, zq1 g.2.2)] [2, 7, 8] zqP fun j => ?_
 refine zd hO 1 [1] [(91, .agg #[(zq8 D p0.Structs G), (zq8 g6 c1 g7)])] [2, 8, 9, 10] (And.intro (And.intro rfl rfl) zqP) fun j => ?_
 obtain ⟨_, i9, f7, hO⟩ := i8.share hO (i := 2) rfl
 have hL := hL.trans i9
 have b6 := b6.le i9
 have b7 := b7.le i9
 have hO := zq64 hO
 obtain ⟨h, n9, hF⟩ := zq7 hF
 refine zO hO (zeQ (p0 := (⟨p0.Structs, c1⟩ : zm)) (i2.le hL) f7 n9) rfl fun _ σ _ _ hO g8 o0 => ?_
 have hL := hL.trans g8
 have f7 := f7.le g8
 have b6 := b6.le g8
 have b7 := b7.le g8
 obtain ⟨w5, w6, rfl, rfl, g9, h0⟩ := o0
 obtain ⟨c7, c8, rfl, -⟩ := g9.form
 obtain ⟨f8, f9, rfl, -⟩ := h0.form
 have hO := zq64 hO
 refine zd hO 4 [] [(93, .agg #[(zq8 c7 h.1.Bodies c8), (.int .i64 h.1.Main), (zq8 f8 h.1.Points f9)]), (94, zq1 h.2.1), (95, zq1 h.2.2)] [2, 8, 9, 10] zqR fun j => ?_
 refine zbn hO fun f1 σ hO => ?_
 have hO := zq65 hO
 refine zE hO (i := 4) rfl (off := 0) rfl rfl rfl rfl (Nat.le_of_ble_eq_true rfl) rfl fun σ hO => ?_
 have hO := zq65 hO
 refine ze hO [] [(12, zq1 h.2.1), (13, zq1 h.2.2)] [2, 8, 9, 10, 11] zqR fun j => ?_
 refine ze hO [0, 0] [(14, zq1 (IntKind.i64.wrap ((p0.Structs.length : Int) + (p0.Funcs.length : Int))))] [8, 9, 10, 11, 12, 13] (And.intro (And.intro rfl rfl) (And.intro (And.intro rfl rfl) zqR)) fun j => ?_
 refine zj (ze hO [] [(113, .bool (((g.2.2 != 0) && (g.2.2 != 11)) && (decide (g.2.1 < (IntKind.i64.wrap ((p0.Structs.length : Int) + (p0.Funcs.length : Int)))))))] [8, 9, 10, 11, 12, 13] (And.intro (And.intro rfl rfl) (fun _ => And.intro (And.intro rfl rfl) (fun _ => zq0 zqQ))) fun j => ?_)
 refine zw hF rfl (fun hF => ?_) fun hF => ?_
 ·refine zj (zN hO 7 [] [(122, .bool ((h.2.1 == g.2.1) && (h.2.2 == g.2.2)))] (And.intro (And.intro rfl rfl) (fun _ => zq0 trivial)) fun j => ?_)
  have hO := hO.sel []
  have hO : Obs _ _ [] := hO
  obtain ⟨k0, o1, hF⟩ := zq7 hF
  refine zb5 2 (fun e' σ' => ∃ (τ' : Hp), agr [(124, .bool k0)] e' ∧ Obs τ' σ' [] ∧ Hp.le τ τ') ?_ ?_
  ·have hF := o1
   rcases zbA hF with ⟨d7, hF⟩ | ⟨d7, hF⟩
   ·refine zbm (zq5 d7) ?_
    obtain ⟨w7, o2, hF⟩ := zq7 hF
    refine zO hO (zgn o2) rfl fun _ σ _ _ hO o3 o4 => ?_
    have hL := hL.trans o3
    obtain ⟨rfl, rfl⟩ := o4
    have hO : Obs _ _ [] := hO
    refine zM (zq3 d7) ?_
    refine zf ?_
    cases hF
    refine zg ?_
    exact ⟨rfl, _, zq0 (trivial), hO, hL⟩
   refine zbt (zq5 d7) ?_
   refine zM (zq3 d7) ?_
   refine zf ?_
   cases hF
   refine zg ?_
   exact ⟨rfl, _, zq0 (trivial), hO, hL⟩
  rintro e σ ⟨_, hA, hO, hL⟩
  rw [← zQ _ _ hA]
  refine zz hO [] [(4, .bool k0)] zqL fun j => ?_
  refine zbq ?_
  cases hF
  exact hQ _ _ _ _ _ rfl hO hL ⟨rfl, rfl⟩
 refine zF (zj (zz hO [] [(8, zq2 f0), (11, zq2 f1), (130, .bool ((g.2.2 != 0) || (h.2.2 != 0)))] (And.intro (And.intro rfl rfl) (fun _ => zq0 zqM)) fun j => ?_))
 refine zw hF rfl (fun hF => ?_) fun hF => ?_
 ·refine zj ?_
  obtain ⟨o5, o6, hF⟩ := zq7 hF
  refine zO hO (zgn o6) rfl fun _ σ _ _ hO f2 o7 => ?_
  have hL := hL.trans f2
  have f7 := f7.le f2
  have b6 := b6.le f2
  have b7 := b7.le f2
  have g9 := g9.le f2
  have h0 := h0.le f2
  obtain ⟨rfl, rfl⟩ := o7
  have hO := zq65 hO
  refine zz hO [] [(4, .bool o5)] zqL fun j => ?_
  refine zbq ?_
  cases hF
  have hO := hO.sel []
  exact hQ _ _ _ _ _ rfl hO hL ⟨rfl, rfl⟩
 refine zF (zj (ze hO [4, 3] [(138, .bool (decide ((h.1.Bodies.length : Int) < (g.1.Bodies.length : Int))))] [8, 11] (And.intro (And.intro rfl rfl) (And.intro (And.intro rfl rfl) zqN)) fun j => ?_))
 refine zw hF rfl (fun hF => ?_) fun hF => ?_
 ·refine zj (zz hO [] [(4, .bool false)] zqL fun j => ?_)
  refine zbq ?_
  cases hF
  have hO := hO.sel []
  exact hQ _ _ _ _ _ rfl hO hL ⟨rfl, rfl⟩
 refine zF (zj (ze hO [] [(15, zq1 0)] [8, 11] zqN fun j => ?_))
 refine zba ?_
 have hO := hO.sel [3, 4]
 refine zbP (fun (n : Nat) e' σ' => ∃ (o : Int) (τ' : Hp), agr [(8, zq2 f0), (11, zq2 f1), (15, zq1 o)] e' ∧ Obs τ' σ' [zgG f0 (zq8 c4 g.1.Bodies c6) g.1.Main (zq8 f5 g.1.Points f6), zgG f1 (zq8 c7 h.1.Bodies c8) h.1.Main (zq8 f8 h.1.Points f9)] ∧ Hp.le τ τ' ∧ RdT zq τ' (zq8 c4 g.1.Bodies c6) g.1.Bodies ∧ RdT zr τ' (zq8 f5 g.1.Points f6) g.1.Points ∧ RdT zq τ' (zq8 c7 h.1.Bodies c8) h.1.Bodies ∧ RdT zr τ' (zq8 f8 h.1.Points f9) h.1.Points ∧ zer g h n o = some rr) big ⟨0, _, zq0 zqM, hO, hL, b6, b7, g9, h0, hF⟩ ?_
 clear hF hO hL
 rintro h1 e σ ⟨o, _, hA, hO, hL, q, X, z, Y, hF⟩
 rw [← zQ _ _ hA]
 cases h1 with
 | zero => exact nomatch (show none = some rr from hF)
 | succ h1 =>
 replace hF : zex (zer g h h1) g h o = some rr := hF
 unfold zex at hF
 refine zj (ze hO [0] [(143, .bool (decide (o < (g.1.Bodies.length : Int))))] [8, 11, 15] (And.intro (And.intro rfl rfl) zqO) fun j => ?_)
 refine zw hF rfl (fun hF => ?_) fun hF => ?_
 ·refine zF (zba (zco (zd hO 3 [0] [(147, zq8 c4 g.1.Bodies c6), (148, zq1 o)] [8, 11, 15] (And.intro (And.intro rfl rfl) zqP) fun j => ?_)))
  obtain ⟨w8, o8, hF⟩ := zq7 hF
  refine zV (T := zq) q hO.base rfl rfl o8 (by decide) fun a1421 _ o9 p2 => ?_
  obtain ⟨w9, x0, rfl, p3, h2⟩ := o9
  obtain ⟨x1, x2, rfl, -⟩ := p3.form
  obtain ⟨x3, x4, rfl, -⟩ := h2.form
  refine zd hO 1 [] [(150, .pointer (some (a1421.add 4)))] [8, 11, 15] zqO fun j => ?_
  refine zI rfl ((p2.le hO.base).one 4 rfl) ?_
  refine zd hO 3 [1] [(153, zq8 c7 h.1.Bodies c8), (154, zq1 o)] [8, 11, 15, 151] (And.intro (And.intro rfl rfl) zqQ) fun j => ?_
  obtain ⟨x5, p4, hF⟩ := zq7 hF
  refine zV (T := zq) z hO.base rfl rfl p4 (by decide) fun a1434 _ p5 j0 => ?_
  obtain ⟨x6, x7, rfl, j1, h3⟩ := p5
  obtain ⟨x8, x9, rfl, -⟩ := j1.form
  obtain ⟨y0, y1, rfl, -⟩ := h3.form
  refine zd hO 1 [] [(156, .pointer (some (a1434.add 4)))] [8, 11, 15, 151] zqP fun j => ?_
  refine zI rfl ((j0.le hO.base).one 4 rfl) ?_
  obtain ⟨k1, p6, hF⟩ := zq7 hF
  refine zO hO (zoe h2 h3 p6) rfl fun _ σ _ _ hO b0 p7 => ?_
  have hL := hL.trans b0
  have h2 := h2.le b0
  have j0 := j0.le b0
  have j1 := j1.le b0
  have h3 := h3.le b0
  have q := q.le b0
  have X := X.le b0
  have z := z.le b0
  have Y := Y.le b0
  obtain ⟨rfl, rfl⟩ := p7
  have hO := zq62 hO
  refine zd hO 2 [] [(160, .bool (!k1))] [8, 11, 15] zqO fun j => ?_
  obtain ⟨p8, p9, hF⟩ := zq7 hF
  refine zb5 2 (fun e' σ' => ∃ (τ' : Hp), agr [(175, .bool p8), (8, zq2 f0), (11, zq2 f1), (15, zq1 o)] e' ∧ Obs τ' σ' [zgG f0 (zq8 c4 g.1.Bodies c6) g.1.Main (zq8 f5 g.1.Points f6), zgG f1 (zq8 c7 h.1.Bodies c8) h.1.Main (zq8 f8 h.1.Points f9)] ∧ Hp.le τ τ' ∧ RdT zq τ' (zq8 c4 g.1.Bodies c6) g.1.Bodies ∧ RdT zr τ' (zq8 f5 g.1.Points f6) g.1.Points ∧ RdT zq τ' (zq8 c7 h.1.Bodies c8) h.1.Bodies ∧ RdT zr τ' (zq8 f8 h.1.Points f9) h.1.Points) ?_ ?_
  ·have hF := p9
   rcases zbA hF with ⟨d8, hF⟩ | ⟨d8, hF⟩
   ·refine zbt (zq4 d8) ?_
    refine zM (zq3 d8) ?_
    refine zf ?_
    cases hF
    refine zg ?_
    exact ⟨rfl, _, zq0 zqN, hO, hL, q, X, z, Y⟩
   refine zbm (zq4 d8) ?_
   refine zd hO 3 [0] [(162, zq8 c4 g.1.Bodies c6), (163, zq1 o)] [8, 11, 15, 160] (And.intro (And.intro rfl rfl) zqQ) fun j => ?_
   obtain ⟨q2, q3, hF⟩ := zq7 hF
   refine zV (T := zq) q hO.base rfl rfl q3 (by decide) fun a1454 _ q4 q5 => ?_
   obtain ⟨y2, y3, rfl, h4, q6⟩ := q4
   obtain ⟨q7, q8, rfl, -⟩ := h4.form
   obtain ⟨y4, y5, rfl, -⟩ := q6.form
   refine zd hO 1 [] [(165, .pointer (some (a1454.add 3)))] [8, 11, 15, 160] zqP fun j => ?_
   refine zI rfl ((q5.le hO.base).one 3 rfl) ?_
   refine zN hO 3 [1] [(8, zq2 f0), (11, zq2 f1), (15, zq1 o), (160, .bool (!k1)), (166, zq8 q7 q2.Vars q8), (168, zq8 c7 h.1.Bodies c8), (169, zq1 o)] (And.intro (And.intro rfl rfl) zqR) fun j => ?_
   obtain ⟨y6, q9, hF⟩ := zq7 hF
   refine zV (T := zq) z hO.base rfl rfl q9 (by decide) fun a1467 _ r0 j2 => ?_
   obtain ⟨y7, y8, rfl, h5, j3⟩ := r0
   obtain ⟨y9, A0, rfl, -⟩ := h5.form
   obtain ⟨A1, A2, rfl, -⟩ := j3.form
   refine zd hO 1 [] [(171, .pointer (some (a1467.add 3)))] [8, 11, 15, 160, 166] zqQ fun j => ?_
   refine zI rfl ((j2.le hO.base).one 3 rfl) ?_
   obtain ⟨r1, r2, hF⟩ := zq7 hF
   refine zO hO (zmY h4 h5 r2) rfl fun _ σ _ _ hO b1 r3 => ?_
   have hL := hL.trans b1
   have h4 := h4.le b1
   have j2 := j2.le b1
   have h5 := h5.le b1
   have j3 := j3.le b1
   have q := q.le b1
   have X := X.le b1
   have z := z.le b1
   have Y := Y.le b1
   obtain ⟨rfl, rfl⟩ := r3
   have hO := zq62 hO
   refine zd hO 1 [] [(174, .bool (!r1))] [8, 11, 15, 160] zqP fun j => ?_
   refine zM (zq3 d8) ?_
   refine zf ?_
   cases hF
   refine zg ?_
   exact ⟨rfl, _, zq0 zqN, hO, hL, q, X, z, Y⟩
  rintro e σ ⟨_, hA, hO, hL, q, X, z, Y⟩
  rw [← zQ _ _ hA]
  refine zf (zbz (zw hF rfl (fun hF => ?_) fun hF => ?_))
  ·refine zj (zz hO [] [(4, .bool false)] zqL fun j => ?_)
   refine zbq (zbo (zX (zX (zbo (zX ?_)))))
   cases hF
   have hO := hO.sel []
   exact hQ _ _ _ _ _ rfl hO hL ⟨rfl, rfl⟩
  refine zF (zg (z8 (zk (zbf (ze hO [] [(15, zq1 (IntKind.i64.wrap (o + 1)))] [8, 11] zqN fun j => ?_)))))
  refine zg (zk ?_)
  exact ⟨h1, Nat.lt_succ_self _, (IntKind.i64.wrap (o + 1)), _, zq0 zqM, hO, hL, q, X, z, Y, hF⟩
 refine zbK (zbC (zbG (zk ?_)))
 obtain ⟨r4, r5, hF⟩ := zq7 hF
 refine zO hO (zgn r5) rfl fun _ σ _ _ hO g0 r6 => ?_
 have hL := hL.trans g0
 have q := q.le g0
 have X := X.le g0
 have z := z.le g0
 have Y := Y.le g0
 obtain ⟨rfl, rfl⟩ := r6
 have hO := zq62 hO
 refine zz hO [] [(4, .bool r4)] zqL fun j => ?_
 refine zbb ?_
 cases hF
 have hO := hO.sel []
 exact hQ _ _ _ _ _ rfl hO hL ⟨rfl, rfl⟩
end Go.Proofs.Ytakcaekikfcbpaa
