import Derived.Test.YtnhboaaikehpoaaG3
namespace Go.Proofs.Ytnhboaaikehpoaa
open Go.Ab Go.RowKit
set_option linter.unusedVariables false
set_option linter.unusedSimpArgs false
set_option maxRecDepth 10000
set_option maxHeartbeats 1000000
def znY (gn : Nat) : Prop := ∀ {τ : Hp} {v0 : Value} {p0 : (List zb)} {v1 : Value} {p1 : (List zb)} (r0 : RdT zu τ v0 p0) (r1 : RdT zu τ v1 p1) {rr : Bool} (hF : (zes gn) p0 p1 = some rr), Ctr Try.prog 50 #[v0, v1] τ [] (fun v τ' vs' => v = .bool rr ∧ vs' = [])
theorem zqX {gn : Nat} (ih_ref12_sameExps : znY gn) {τ : Hp} {v0 : Value} {p0 : (List zb)} {v1 : Value} {p1 : (List zb)} (V : RdT zu τ v0 p0) (X : RdT zu τ v1 p1) {rr : Bool} (hF : zhF (zes gn) p0 p1 = some rr) :
  Ctr Try.prog 50 #[v0, v1] τ [] (fun v τ' vs' => v = .bool rr ∧ vs' = []) := by
 obtain ⟨h, o, rfl, -⟩ := V.form
 obtain ⟨t, w, rfl, -⟩ := X.form
 refine zbl (args := [.slice h p0.length o, .slice t p1.length w]) hm Try.func50 s50 rfl fun w0 σ hO Q hQ => ?_
 unfold zhF at hF
 have hL := Hp.le.refl τ
 show wpn _ _ a50.body _ _ _
 unfold a50
 dsimp only
 refine zd hO [] [] [0, 1] ztL fun j => ?_
 refine zi (zd hO [] [(10, .bool ((p0.length : Int) != (p1.length : Int)))] [0, 1] ztM fun j => ?_)
 refine zn hF rfl (fun hF => ?_) fun hF => ?_
 ·refine zi (zU hO [] [(4, .bool false)] ztK fun j => ?_)
  refine zbi ?_
  cases hF
  exact hQ _ _ _ _ _ rfl hO hL ⟨rfl, rfl⟩
 refine zA (zi (zd hO [] [(5, zt0 0)] [0, 1] ztM fun j => ?_))
 refine zH (zbo (fun (n : Nat) e' σ' => ∃ (g : Int) (τ' : Hp), agr [(0, zt7 h p0 o), (1, zt7 t p1 w), (5, zt0 g)] e' ∧ Obs τ' σ' [] ∧ Hp.le τ τ' ∧ zgl (zes gn) p0 p1 n g = some rr) big ⟨0, _, ztZ ztL, hO, hL, hF⟩ ?_)
 clear hF hO hL
 rintro M e σ ⟨g, _, hA, hO, hL, hF⟩
 rw [← zM _ _ hA]
 cases M with
 | zero => exact nomatch (show none = some rr from hF)
 | succ M =>
 replace hF : zgJ (zgl (zes gn) p0 p1 M) (zes gn) p0 p1 g = some rr := hF
 unfold zgJ at hF
 refine zi (zd hO [] [(14, .bool (decide (g < (p0.length : Int))))] [0, 1, 5] ztN fun j => ?_)
 refine zn hF rfl (fun hF => ?_) fun hF => ?_
 ·refine zA (zH (zb9 (za hO 2 [] [(17, zt7 h p0 o), (18, zt0 g)] [0, 1, 5] ztO fun j => ?_)))
  obtain ⟨b3, b8, hF⟩ := zt6 hF
  refine zN (T := zu) (V.le hL) hO.base rfl rfl b8 (by decide) fun a267 _ b9 c2 => ?_
  obtain ⟨i6, rfl, i7⟩ := zbH b9
  refine za hO 1 [] [(20, .pointer (some a267))] [0, 1, 5] ztN fun j => ?_
  refine zG rfl (c2.le hO.base).fst ?_
  refine za hO 2 [] [(22, zt7 t p1 w), (23, zt0 g)] [0, 1, 5, 21] ztP fun j => ?_
  obtain ⟨b4, c3, hF⟩ := zt6 hF
  refine zN (T := zu) (X.le hL) hO.base rfl rfl c3 (by decide) fun a276 _ c4 c5 => ?_
  obtain ⟨i8, rfl, i9⟩ := zbH c4
  refine za hO 1 [] [(25, .pointer (some a276))] [0, 1, 5, 21] ztO fun j => ?_
  refine zG rfl (c5.le hO.base).fst ?_
  refine za hO 2 [] [(28, .bool ((b3.Kind.toNat : Int) != (b4.Kind.toNat : Int)))] [0, 1, 5] ztN fun j => ?_
  obtain ⟨Y, c6, hF⟩ := zt6 hF
  refine zbQ 2 [(40, .bool Y), (0, zt7 h p0 o), (1, zt7 t p1 w), (5, zt0 g)] (fun Q hQ => ?_) fun j => ?_
  ·have hF := c6
   rcases z1 hF with ⟨z, hF⟩ | ⟨z, hF⟩
   ·refine zI (zt3 z) ?_
    refine zp (zt2 z) ?_
    refine zc ?_
    cases hF
    refine zg ?_
    exact hQ _ ztN
   refine zF (zt3 z) ?_
   refine za hO 2 [] [(29, zt7 h p0 o), (30, zt0 g)] [0, 1, 5, 28] ztP fun j => ?_
   obtain ⟨b5, c7, hF⟩ := zt6 hF
   refine zN (T := zu) (V.le hL) hO.base rfl rfl c7 (by decide) fun a288 _ c8 c9 => ?_
   obtain ⟨j0, rfl, j1⟩ := zbH c8
   refine za hO 1 [] [(32, .pointer (some (a288.add 1)))] [0, 1, 5, 28] ztO fun j => ?_
   refine zG rfl ((c9.le hO.base).one 1 rfl) ?_
   refine zbk hO 2 [] [(0, zt7 h p0 o), (1, zt7 t p1 w), (5, zt0 g), (28, .bool ((b3.Kind.toNat : Int) != (b4.Kind.toNat : Int))), (33, zt0 b5.Num), (34, zt7 t p1 w), (35, zt0 g)] ztQ fun j => ?_
   obtain ⟨d0, d4, hF⟩ := zt6 hF
   refine zN (T := zu) (X.le hL) hO.base rfl rfl d4 (by decide) fun a297 _ d5 d6 => ?_
   obtain ⟨j2, rfl, j3⟩ := zbH d5
   refine za hO 1 [] [(37, .pointer (some (a297.add 1)))] [0, 1, 5, 28, 33] ztP fun j => ?_
   refine zG rfl ((d6.le hO.base).one 1 rfl) ?_
   refine za hO 1 [] [(39, .bool (b5.Num != d0.Num))] [0, 1, 5, 28] ztO fun j => ?_
   refine zp (zt2 z) ?_
   refine zc ?_
   cases hF
   refine zg ?_
   exact hQ _ ztN
  refine za hO 1 [] [(41, .bool Y)] [0, 1, 5] ztN fun j => ?_
  obtain ⟨Z, d7, hF⟩ := zt6 hF
  refine zbQ 2 [(53, .bool Z), (0, zt7 h p0 o), (1, zt7 t p1 w), (5, zt0 g)] (fun Q hQ => ?_) fun j => ?_
  ·have hF := d7
   rcases z1 hF with ⟨B, hF⟩ | ⟨B, hF⟩
   ·refine zI (zt3 B) ?_
    refine zp (zt2 B) ?_
    refine zc ?_
    cases hF
    refine zg ?_
    exact hQ _ ztN
   refine zF (zt3 B) ?_
   refine za hO 2 [] [(42, zt7 h p0 o), (43, zt0 g)] [0, 1, 5, 41] ztP fun j => ?_
   obtain ⟨d8, d9, hF⟩ := zt6 hF
   refine zN (T := zu) (V.le hL) hO.base rfl rfl d9 (by decide) fun a309 _ f0 f1 => ?_
   obtain ⟨j4, rfl, j5⟩ := zbH f0
   refine zbk hO 1 [] [(0, zt7 h p0 o), (1, zt7 t p1 w), (5, zt0 g), (41, .bool Y), (45, .pointer (some (a309.add 2)))] ztO fun j => ?_
   refine zG rfl ((f1.le hO.base).one 2 rfl) ?_
   refine za hO 2 [] [(47, zt7 t p1 w), (48, zt0 g)] [0, 1, 5, 41, 46] ztQ fun j => ?_
   obtain ⟨f2, f3, hF⟩ := zt6 hF
   refine zN (T := zu) (X.le hL) hO.base rfl rfl f3 (by decide) fun a318 _ f4 f5 => ?_
   obtain ⟨j6, rfl, j7⟩ := zbH f4
   refine za hO 1 [] [(50, .pointer (some (a318.add 2)))] [0, 1, 5, 41, 46] ztP fun j => ?_
   refine zG rfl ((f5.le hO.base).one 2 rfl) ?_
   refine za hO 1 [] [(52, .bool (!(zV d8.Name f2.Name)))] [0, 1, 5, 41] ztO fun j => ?_
   refine zp (zt2 B) ?_
   refine zc ?_
   cases hF
   refine zg ?_
   exact hQ _ ztN
  refine za hO 1 [] [(54, .bool Z)] [0, 1, 5] ztN fun j => ?_
  obtain ⟨b6, f6, hF⟩ := zt6 hF
  refine zbQ 2 [(66, .bool b6), (0, zt7 h p0 o), (1, zt7 t p1 w), (5, zt0 g)] (fun Q hQ => ?_) fun j => ?_
  ·have hF := f6
   rcases z1 hF with ⟨E, hF⟩ | ⟨E, hF⟩
   ·refine zI (zt3 E) ?_
    refine zp (zt2 E) ?_
    refine zc ?_
    cases hF
    refine zg ?_
    exact hQ _ ztN
   refine zF (zt3 E) ?_
   refine zbk hO 2 [] [(0, zt7 h p0 o), (1, zt7 t p1 w), (5, zt0 g), (54, .bool Z), (55, zt7 h p0 o), (56, zt0 g)] ztP fun j => ?_
   obtain ⟨f7, f8, hF⟩ := zt6 hF
   refine zN (T := zu) (V.le hL) hO.base rfl rfl f8 (by decide) fun a330 _ f9 g0 => ?_
   obtain ⟨j8, rfl, j9⟩ := zbH f9
   refine za hO 1 [] [(58, .pointer (some (a330.add 3)))] [0, 1, 5, 54] ztO fun j => ?_
   refine zG rfl ((g0.le hO.base).one 3 rfl) ?_
   refine za hO 2 [] [(60, zt7 t p1 w), (61, zt0 g)] [0, 1, 5, 54, 59] ztQ fun j => ?_
   obtain ⟨g1, g2, hF⟩ := zt6 hF
   refine zN (T := zu) (X.le hL) hO.base rfl rfl g2 (by decide) fun a339 _ g3 g4 => ?_
   obtain ⟨k0, rfl, k1⟩ := zbH g3
   refine za hO 1 [] [(63, .pointer (some (a339.add 3)))] [0, 1, 5, 54, 59] ztP fun j => ?_
   refine zG rfl ((g4.le hO.base).one 3 rfl) ?_
   refine za hO 1 [] [(65, .bool (!(zV f7.Field g1.Field)))] [0, 1, 5, 54] ztO fun j => ?_
   refine zp (zt2 E) ?_
   refine zc ?_
   cases hF
   refine zg ?_
   exact hQ _ ztN
  refine zbk hO 1 [] [(0, zt7 h p0 o), (1, zt7 t p1 w), (5, zt0 g), (67, .bool b6)] ztN fun j => ?_
  obtain ⟨b7, g5, hF⟩ := zt6 hF
  refine zbQ 2 [(79, .bool b7), (0, zt7 h p0 o), (1, zt7 t p1 w), (5, zt0 g)] (fun Q hQ => ?_) fun j => ?_
  ·have hF := g5
   rcases z1 hF with ⟨G, hF⟩ | ⟨G, hF⟩
   ·refine zI (zt3 G) ?_
    refine zp (zt2 G) ?_
    refine zc ?_
    cases hF
    refine zg ?_
    exact hQ _ ztN
   refine zF (zt3 G) ?_
   refine za hO 2 [] [(68, zt7 h p0 o), (69, zt0 g)] [0, 1, 5, 67] ztP fun j => ?_
   obtain ⟨g6, g7, hF⟩ := zt6 hF
   refine zN (T := zu) (V.le hL) hO.base rfl rfl g7 (by decide) fun a351 _ g8 g9 => ?_
   obtain ⟨k4, rfl, k5⟩ := zbH g8
   refine za hO 1 [] [(71, .pointer (some (a351.add 4)))] [0, 1, 5, 67] ztO fun j => ?_
   refine zG rfl ((g9.le hO.base).one 4 rfl) ?_
   refine za hO 2 [] [(73, zt7 t p1 w), (74, zt0 g)] [0, 1, 5, 67, 72] ztQ fun j => ?_
   obtain ⟨h0, h1, hF⟩ := zt6 hF
   refine zN (T := zu) (X.le hL) hO.base rfl rfl h1 (by decide) fun a360 _ h2 h3 => ?_
   obtain ⟨k6, rfl, k7⟩ := zbH h2
   refine za hO 1 [] [(76, .pointer (some (a360.add 4)))] [0, 1, 5, 67, 72] ztP fun j => ?_
   refine zG rfl ((h3.le hO.base).one 4 rfl) ?_
   refine za hO 1 [] [(78, .bool (!(zV g6.Op h0.Op)))] [0, 1, 5, 67] ztO fun j => ?_
   refine zp (zt2 G) ?_
   refine zc ?_
   cases hF
   refine zg ?_
   exact hQ _ ztN
  refine za hO 1 [] [(80, .bool b7)] [0, 1, 5] ztN fun j => ?_
  obtain ⟨h4, h5, hF⟩ := zt6 hF
  refine zb2 2 (fun e' σ' => ∃ (τ' : Hp), agr [(93, .bool h4), (0, zt7 h p0 o), (1, zt7 t p1 w), (5, zt0 g)] e' ∧ Obs τ' σ' [] ∧ Hp.le τ τ') ?_ ?_
  ·have hF := h5
   rcases z1 hF with ⟨I, hF⟩ | ⟨I, hF⟩
   ·refine zI (zt3 I) ?_
    refine zp (zt2 I) ?_
    refine zc ?_
    cases hF
    refine zg ?_
    exact ⟨rfl, _, ztZ ztM, hO, hL⟩
   refine zF (zt3 I) ?_
   refine za hO 2 [] [(81, zt7 h p0 o), (82, zt0 g)] [0, 1, 5, 80] ztP fun j => ?_
   obtain ⟨k8, h6, hF⟩ := zt6 hF
   refine zN (T := zu) (V.le hL) hO.base rfl rfl h6 (by decide) fun a372 _ h7 h8 => ?_
   obtain ⟨l0, rfl, b0⟩ := zbH h7
   refine za hO 1 [] [(84, .pointer (some (a372.add 5)))] [0, 1, 5, 80] ztO fun j => ?_
   refine zG rfl ((h8.le hO.base).one 5 rfl) ?_
   refine za hO 2 [] [(86, zt7 t p1 w), (87, zt0 g)] [0, 1, 5, 80, 85] ztQ fun j => ?_
   obtain ⟨l1, h9, hF⟩ := zt6 hF
   refine zN (T := zu) (X.le hL) hO.base rfl rfl h9 (by decide) fun a381 _ i0 b1 => ?_
   obtain ⟨l2, rfl, b2⟩ := zbH i0
   refine za hO 1 [] [(89, .pointer (some (a381.add 5)))] [0, 1, 5, 80, 85] ztP fun j => ?_
   refine zG rfl ((b1.le hO.base).one 5 rfl) ?_
   obtain ⟨i1, i2, hF⟩ := zt6 hF
   refine z5 hO (ih_ref12_sameExps b0 b2 i2) rfl fun _ σ _ _ hO U i3 => ?_
   have hL := hL.trans U
   have b0 := b0.le U
   have b1 := b1.le U
   have b2 := b2.le U
   obtain ⟨rfl, rfl⟩ := i3
   have hO : Obs _ _ [] := hO
   refine za hO 1 [] [(92, .bool (!i1))] [0, 1, 5, 80] ztO fun j => ?_
   refine zp (zt2 I) ?_
   refine zc ?_
   cases hF
   refine zg ?_
   exact ⟨rfl, _, ztZ ztM, hO, hL⟩
  rintro e σ ⟨_, hA, hO, hL⟩
  rw [← zM _ _ hA]
  refine zc (zbm (zn hF rfl (fun hF => ?_) fun hF => ?_))
  ·refine zi (zU hO [] [(4, .bool false)] ztK fun j => ?_)
   refine zbi (z6 (zQ (zQ (z6 (zQ ?_)))))
   cases hF
   exact hQ _ _ _ _ _ rfl hO hL ⟨rfl, rfl⟩
  refine zA (zg (zC (zj (z3 (zd hO [] [(5, zt0 (IntKind.i64.wrap (g + 1)))] [0, 1] ztM fun j => ?_)))))
  refine zg (zj ?_)
  exact ⟨M, Nat.lt_succ_self _, (IntKind.i64.wrap (g + 1)), _, ztZ ztL, hO, hL, hF⟩
 refine zbs (zbp (zbr (zj (zU hO [] [(4, .bool true)] ztK fun j => ?_))))
 refine z9 ?_
 cases hF
 exact hQ _ _ _ _ _ rfl hO hL ⟨rfl, rfl⟩
theorem zpk (n : Nat) : znY n := by
 induction n with
 | zero =>
  intro τ o p0 t p1 g h rr hF; exact nomatch (show none = some rr from hF)
 | succ n ih =>
  intro τ o p0 t p1 g h rr hF; exact zqX ih g h hF
theorem zqn : ∀ {τ : Hp} {g : Value} {p0 : (List zb)} {h : Value} {p1 : (List zb)} (o : RdT zu τ g p0) (t : RdT zu τ h p1) {rr : Bool} (hF : zjZ p0 p1 = some rr), Ctr Try.prog 50 #[g, h] τ [] (fun v τ' vs' => v = .bool rr ∧ vs' = []) := (zpk big)
def zmV (gn : Nat) : Prop := ∀ {τ : Hp} {g : Value} {p0 : (List zh)} {h : Value} {p1 : (List zh)} (o : RdT zy τ g p0) (t : RdT zy τ h p1) {rr : Bool} (hF : (zen gn) p0 p1 = some rr), Ctr Try.prog 28 #[g, h] τ [] (fun v τ' vs' => v = .bool rr ∧ vs' = [])
theorem zrp {gn : Nat} (ih_ref12_sameStmts : zmV gn) {τ : Hp} {v0 : Value} {p0 : (List zh)} {v1 : Value} {p1 : (List zh)} (r0 : RdT zy τ v0 p0) (r1 : RdT zy τ v1 p1) {rr : Bool} (hF : zg3 (zen gn) p0 p1 = some rr) :
  Ctr Try.prog 28 #[v0, v1] τ [] (fun v τ' vs' => v = .bool rr ∧ vs' = []) := by
 obtain ⟨A0, c0, rfl, -⟩ := r0.form
 obtain ⟨A1, c1, rfl, -⟩ := r1.form
 refine zbl (args := [.slice A0 p0.length c0, .slice A1 p1.length c1]) hm Try.func28 s28 rfl fun w0 σ hO Q hQ => ?_
 unfold zg3 at hF
 have hL := Hp.le.refl τ
 show wpn _ _ a28.body _ _ _
 unfold a28
 dsimp only
 refine zd hO [] [] [0, 1] ztL fun j => ?_
 refine zi (zd hO [] [(12, .bool ((p0.length : Int) != (p1.length : Int)))] [0, 1] ztM fun j => ?_)
 refine zn hF rfl (fun hF => ?_) fun hF => ?_
 ·refine zi (zU hO [] [(4, .bool false)] ztK fun j => ?_)
  refine zbi ?_
  cases hF
  exact hQ _ _ _ _ _ rfl hO hL ⟨rfl, rfl⟩
 refine zA (zi (zd hO [] [(5, zt0 0)] [0, 1] ztM fun j => ?_))
 refine zH (zbo (fun (n : Nat) e' σ' => ∃ (G : Int) (τ' : Hp), agr [(0, zt7 A0 p0 c0), (1, zt7 A1 p1 c1), (5, zt0 G)] e' ∧ Obs τ' σ' [] ∧ Hp.le τ τ' ∧ zfW (zen gn) p0 p1 n G = some rr) big ⟨0, _, ztZ ztL, hO, hL, hF⟩ ?_)
 clear hF hO hL
 rintro c5 e σ ⟨G, _, hA, hO, hL, hF⟩
 rw [← zM _ _ hA]
 cases c5 with
 | zero => exact nomatch (show none = some rr from hF)
 | succ c5 =>
 replace hF : zib (zfW (zen gn) p0 p1 c5) (zen gn) p0 p1 G = some rr := hF
 unfold zib at hF
 refine zi (zd hO [] [(16, .bool (decide (G < (p0.length : Int))))] [0, 1, 5] ztN fun j => ?_)
 refine zn hF rfl (fun hF => ?_) fun hF => ?_
 ·refine zA (zH (za hO 2 [] [(19, zt7 A0 p0 c0), (20, zt0 G)] [0, 1, 5] ztO fun j => ?_))
  obtain ⟨g, d5, hF⟩ := zt6 hF
  refine zN (T := zy) (r0.le hL) hO.base rfl rfl d5 (by decide) fun a127 _ d6 d7 => ?_
  obtain ⟨g8, g9, h0, rfl, o, t, w⟩ := zc4 d6
  obtain ⟨I, M, rfl, -⟩ := o.form
  obtain ⟨U, V, rfl, -⟩ := t.form
  obtain ⟨X, Y, rfl, -⟩ := w.form
  refine zG rfl ((d7.le hO.base).all rfl) ?_
  refine zbC hO fun c3 σ hO => ?_
  have hO := zt51 hO
  refine zx hO (i := 0) rfl (off := 0) rfl rfl rfl rfl (Nat.le_of_ble_eq_true rfl) rfl fun σ hO => ?_
  have hO := zt51 hO
  refine zc (za hO 2 [] [(23, zt7 A1 p1 c1), (24, zt0 G)] [0, 1, 5, 6] ztP fun j => ?_)
  obtain ⟨h, d8, hF⟩ := zt6 hF
  refine zN (T := zy) (r1.le hL) hO.base rfl rfl d8 (by decide) fun a145 _ d9 f0 => ?_
  obtain ⟨h1, h2, h3, rfl, z, B, E⟩ := zc4 d9
  obtain ⟨Z, b0, rfl, -⟩ := z.form
  obtain ⟨b1, b2, rfl, -⟩ := B.form
  obtain ⟨b3, b4, rfl, -⟩ := E.form
  refine zG rfl ((f0.le hO.base).all rfl) ?_
  refine zbC hO fun c4 σ hO => ?_
  have hO := zt52 hO
  refine zx hO (i := 1) rfl (off := 0) rfl rfl rfl rfl (Nat.le_of_ble_eq_true rfl) rfl fun σ hO => ?_
  have hO := zt52 hO
  refine zc (za hO 21 [0, 1, 0, 1, 0, 1, 0, 1, 0, 1, 0, 1] [(67, .bool (((((((g.Kind.toNat : Int) != (h.Kind.toNat : Int)) || (g.Line != h.Line)) || (!(zV g.Name h.Name))) || (!(zV g.Field h.Field))) || (!(zV g.Call h.Call))) || (!(( (g.Type_.Kind.toNat : Int) == (h.Type_.Kind.toNat : Int)) && (( g.Type_.N == h.Type_.N) && ((zV g.Type_.Name h.Type_.Name) && true))))))] [0, 1, 5, 6, 7] (And.intro (And.intro rfl rfl) (And.intro (And.intro rfl rfl) (And.intro (And.intro rfl rfl) (And.intro (And.intro rfl rfl) (And.intro (And.intro rfl rfl) (fun _ => And.intro (And.intro rfl rfl) (And.intro (And.intro rfl rfl) (And.intro (And.intro rfl rfl) (fun _ => And.intro (And.intro rfl rfl) (And.intro (And.intro rfl rfl) (And.intro (And.intro rfl rfl) (fun _ => And.intro (And.intro rfl rfl) (And.intro (And.intro rfl rfl) (And.intro (And.intro rfl rfl) (fun _ => And.intro (And.intro rfl rfl) (And.intro (And.intro rfl rfl) (And.intro (And.intro rfl rfl) (fun _ => ztZ ztO)))))))))))))))))) fun j => ?_)
  obtain ⟨d0, f1, hF⟩ := zt6 hF
  refine zb2 2 (fun e' σ' => ∃ (τ' : Hp), agr [(74, .bool d0), (0, zt7 A0 p0 c0), (1, zt7 A1 p1 c1), (5, zt0 G), (6, zt1 c3), (7, zt1 c4)] e' ∧ Obs τ' σ' [zby c3 (g.Kind.toNat : Int) g.Line g.Name g.Field g.Call (g.Type_.Kind.toNat : Int) g.Type_.N g.Type_.Name (zt7 I g.Kids M) (zt7 U g.Body V) (zt7 X g.Else Y), zby c4 (h.Kind.toNat : Int) h.Line h.Name h.Field h.Call (h.Type_.Kind.toNat : Int) h.Type_.N h.Type_.Name (zt7 Z h.Kids b0) (zt7 b1 h.Body b2) (zt7 b3 h.Else b4)] ∧ Hp.le τ τ' ∧ RdT zu τ' (zt7 I g.Kids M) g.Kids ∧ RdT zy τ' (zt7 U g.Body V) g.Body ∧ RdT zy τ' (zt7 X g.Else Y) g.Else ∧ RdT zu τ' (zt7 Z h.Kids b0) h.Kids ∧ RdT zy τ' (zt7 b1 h.Body b2) h.Body ∧ RdT zy τ' (zt7 b3 h.Else b4) h.Else) ?_ ?_
  ·have hF := f1
   rcases z1 hF with ⟨b8, hF⟩ | ⟨b8, hF⟩
   ·refine zI (zt3 b8) ?_
    refine zp (zt2 b8) ?_
    refine zc ?_
    cases hF
    refine zg ?_
    exact ⟨rfl, _, ztZ ztO, hO, hL, o, t, w, z, B, E⟩
   refine zF (zt3 b8) ?_
   refine za hO 4 [0, 1] [(69, zt7 I g.Kids M), (71, zt7 Z h.Kids b0)] [0, 1, 5, 6, 7, 67] (And.intro (And.intro rfl rfl) (And.intro (And.intro rfl rfl) ztR)) fun j => ?_
   obtain ⟨f2, f3, hF⟩ := zt6 hF
   refine z5 hO (zqn o z f3) rfl fun _ σ _ _ hO b5 f4 => ?_
   have hL := hL.trans b5
   have o := o.le b5
   have z := z.le b5
   have t := t.le b5
   have w := w.le b5
   have B := B.le b5
   have E := E.le b5
   obtain ⟨rfl, rfl⟩ := f4
   have hO := zt52 hO
   refine za hO 1 [] [(73, .bool (!f2))] [0, 1, 5, 6, 7, 67] ztQ fun j => ?_
   refine zp (zt2 b8) ?_
   refine zc ?_
   cases hF
   refine zg ?_
   exact ⟨rfl, _, ztZ ztO, hO, hL, o, t, w, z, B, E⟩
  rintro e σ ⟨_, hA, hO, hL, o, t, w, z, B, E⟩
  rw [← zM _ _ hA]
  refine za hO 1 [] [(75, .bool d0)] [0, 1, 5, 6, 7] ztP fun j => ?_
  obtain ⟨d4, f5, hF⟩ := zt6 hF
  refine zb2 2 (fun e' σ' => ∃ (τ' : Hp), agr [(82, .bool d4), (0, zt7 A0 p0 c0), (1, zt7 A1 p1 c1), (5, zt0 G), (6, zt1 c3), (7, zt1 c4)] e' ∧ Obs τ' σ' [zby c3 (g.Kind.toNat : Int) g.Line g.Name g.Field g.Call (g.Type_.Kind.toNat : Int) g.Type_.N g.Type_.Name (zt7 I g.Kids M) (zt7 U g.Body V) (zt7 X g.Else Y), zby c4 (h.Kind.toNat : Int) h.Line h.Name h.Field h.Call (h.Type_.Kind.toNat : Int) h.Type_.N h.Type_.Name (zt7 Z h.Kids b0) (zt7 b1 h.Body b2) (zt7 b3 h.Else b4)] ∧ Hp.le τ τ' ∧ RdT zu τ' (zt7 I g.Kids M) g.Kids ∧ RdT zy τ' (zt7 U g.Body V) g.Body ∧ RdT zy τ' (zt7 X g.Else Y) g.Else ∧ RdT zu τ' (zt7 Z h.Kids b0) h.Kids ∧ RdT zy τ' (zt7 b1 h.Body b2) h.Body ∧ RdT zy τ' (zt7 b3 h.Else b4) h.Else) ?_ ?_
  ·have hF := f5
   rcases z1 hF with ⟨b9, hF⟩ | ⟨b9, hF⟩
   ·refine zI (zt3 b9) ?_
    refine zp (zt2 b9) ?_
    refine zc ?_
    cases hF
    refine zg ?_
    exact ⟨rfl, _, ztZ ztO, hO, hL, o, t, w, z, B, E⟩
   refine zF (zt3 b9) ?_
   refine za hO 4 [0, 1] [(77, zt7 U g.Body V), (79, zt7 b1 h.Body b2)] [0, 1, 5, 6, 7, 75] (And.intro (And.intro rfl rfl) (And.intro (And.intro rfl rfl) ztR)) fun j => ?_
   obtain ⟨f6, f7, hF⟩ := zt6 hF
   refine z5 hO (ih_ref12_sameStmts t B f7) rfl fun _ σ _ _ hO b6 f8 => ?_
   have hL := hL.trans b6
   have t := t.le b6
   have B := B.le b6
   have o := o.le b6
   have w := w.le b6
   have z := z.le b6
   have E := E.le b6
   obtain ⟨rfl, rfl⟩ := f8
   have hO := zt52 hO
   refine za hO 1 [] [(81, .bool (!f6))] [0, 1, 5, 6, 7, 75] ztQ fun j => ?_
   refine zp (zt2 b9) ?_
   refine zc ?_
   cases hF
   refine zg ?_
   exact ⟨rfl, _, ztZ ztO, hO, hL, o, t, w, z, B, E⟩
  rintro e σ ⟨_, hA, hO, hL, o, t, w, z, B, E⟩
  rw [← zM _ _ hA]
  refine za hO 1 [] [(83, .bool d4)] [0, 1, 5, 6, 7] ztP fun j => ?_
  obtain ⟨f9, g0, hF⟩ := zt6 hF
  refine zb2 2 (fun e' σ' => ∃ (τ' : Hp), agr [(90, .bool f9), (0, zt7 A0 p0 c0), (1, zt7 A1 p1 c1), (5, zt0 G)] e' ∧ Obs τ' σ' [zby c3 (g.Kind.toNat : Int) g.Line g.Name g.Field g.Call (g.Type_.Kind.toNat : Int) g.Type_.N g.Type_.Name (zt7 I g.Kids M) (zt7 U g.Body V) (zt7 X g.Else Y), zby c4 (h.Kind.toNat : Int) h.Line h.Name h.Field h.Call (h.Type_.Kind.toNat : Int) h.Type_.N h.Type_.Name (zt7 Z h.Kids b0) (zt7 b1 h.Body b2) (zt7 b3 h.Else b4)] ∧ Hp.le τ τ' ∧ RdT zu τ' (zt7 I g.Kids M) g.Kids ∧ RdT zy τ' (zt7 U g.Body V) g.Body ∧ RdT zy τ' (zt7 X g.Else Y) g.Else ∧ RdT zu τ' (zt7 Z h.Kids b0) h.Kids ∧ RdT zy τ' (zt7 b1 h.Body b2) h.Body ∧ RdT zy τ' (zt7 b3 h.Else b4) h.Else) ?_ ?_
  ·have hF := g0
   rcases z1 hF with ⟨c2, hF⟩ | ⟨c2, hF⟩
   ·refine zI (zt3 c2) ?_
    refine zp (zt2 c2) ?_
    refine zc ?_
    cases hF
    refine zg ?_
    exact ⟨rfl, _, ztZ ztM, hO, hL, o, t, w, z, B, E⟩
   refine zF (zt3 c2) ?_
   refine za hO 4 [0, 1] [(85, zt7 X g.Else Y), (87, zt7 b3 h.Else b4)] [0, 1, 5, 83] (And.intro (And.intro rfl rfl) (And.intro (And.intro rfl rfl) ztP)) fun j => ?_
   obtain ⟨g1, g2, hF⟩ := zt6 hF
   refine z5 hO (ih_ref12_sameStmts w E g2) rfl fun _ σ _ _ hO b7 g3 => ?_
   have hL := hL.trans b7
   have w := w.le b7
   have E := E.le b7
   have o := o.le b7
   have t := t.le b7
   have z := z.le b7
   have B := B.le b7
   obtain ⟨rfl, rfl⟩ := g3
   have hO := zt52 hO
   refine za hO 1 [] [(89, .bool (!g1))] [0, 1, 5, 83] ztO fun j => ?_
   refine zp (zt2 c2) ?_
   refine zc ?_
   cases hF
   refine zg ?_
   exact ⟨rfl, _, ztZ ztM, hO, hL, o, t, w, z, B, E⟩
  rintro e σ ⟨_, hA, hO, hL, o, t, w, z, B, E⟩
  rw [← zM _ _ hA]
  refine zc (zbm (zn hF rfl (fun hF => ?_) fun hF => ?_))
  ·refine zi (zU hO [] [(4, .bool false)] ztK fun j => ?_)
   refine zbi (z6 (zQ (zQ (z6 (zQ ?_)))))
   cases hF
   have hO := hO.sel []
   exact hQ _ _ _ _ _ rfl hO hL ⟨rfl, rfl⟩
  refine zA (zg (zC (zj (z3 (zd hO [] [(5, zt0 (IntKind.i64.wrap (G + 1)))] [0, 1] ztM fun j => ?_)))))
  refine zg (zj ?_)
  have hO := hO.sel []
  exact ⟨c5, Nat.lt_succ_self _, (IntKind.i64.wrap (G + 1)), _, ztZ ztL, hO, hL, hF⟩
 refine zbs (zbp (zbr (zj (zU hO [] [(4, .bool true)] ztK fun j => ?_))))
 refine z9 ?_
 cases hF
 exact hQ _ _ _ _ _ rfl hO hL ⟨rfl, rfl⟩
theorem zqD (n : Nat) : zmV n := by
 induction n with
 | zero =>
  intro τ o p0 t p1 g h rr hF; exact nomatch (show none = some rr from hF)
 | succ n ih =>
  intro τ o p0 t p1 g h rr hF; exact zrp ih g h hF
theorem zsu : ∀ {τ : Hp} {g : Value} {p0 : (List zh)} {h : Value} {p1 : (List zh)} (o : RdT zy τ g p0) (t : RdT zy τ h p1) {rr : Bool} (hF : zlh p0 p1 = some rr), Ctr Try.prog 28 #[g, h] τ [] (fun v τ' vs' => v = .bool rr ∧ vs' = []) := (zqD big)
theorem zmB {τ : Hp} {p0 : zB} {f3 f4 : Value} {p1 : zB} {f5 f6 : Value} (d7 : RdT zs τ f3 p0.Structs) (f7 : RdT zr τ f4 p0.Funcs) (d8 : RdT zs τ f5 p1.Structs) (f8 : RdT zr τ f6 p1.Funcs) {rr : Bool} (hF : zeN p0 p1 = some rr) :
  Ctr Try.prog 11 #[.agg #[f3, f4], .agg #[f5, f6]] τ [] (fun v τ' vs' => v = .bool rr ∧ vs' = []) := by
 obtain ⟨M, U, rfl, -⟩ := d7.form
 obtain ⟨b2, b5, rfl, -⟩ := f7.form
 obtain ⟨V, X, rfl, -⟩ := d8.form
 obtain ⟨b6, b7, rfl, -⟩ := f8.form
 refine zbl (args := [.agg #[(zt7 M p0.Structs U), (zt7 b2 p0.Funcs b5)], .agg #[(zt7 V p1.Structs X), (zt7 b6 p1.Funcs b7)]]) hm Try.func11 s11 rfl fun w0 σ hO Q hQ => ?_
 unfold zeN at hF
 have hL := Hp.le.refl τ
 show wpn _ _ a11.body _ _ _
 unfold a11
 dsimp only
 refine zct (n := 2) hO rfl rfl fun b3 σ hO => ?_
 have hO := zt51 hO
 refine zct (n := 2) hO rfl rfl fun b4 σ hO => ?_
 have hO := zt52 hO
 refine zd hO [] [] [2, 3] ztL fun j => ?_
 refine zi (zd hO [0, 1, 0, 1] [(26, .bool (((p0.Structs.length : Int) != (p1.Structs.length : Int)) || ((p0.Funcs.length : Int) != (p1.Funcs.length : Int))))] [2, 3] (And.intro (And.intro rfl rfl) (And.intro (And.intro rfl rfl) (And.intro (And.intro rfl rfl) (And.intro (And.intro rfl rfl) (And.intro (And.intro rfl rfl) (fun _ => ztZ ztL)))))) fun j => ?_)
 refine zn hF rfl (fun hF => ?_) fun hF => ?_
 ·refine zi (zU hO [] [(4, .bool false)] ztK fun j => ?_)
  refine zbi ?_
  cases hF
  have hO := hO.sel []
  exact hQ _ _ _ _ _ rfl hO hL ⟨rfl, rfl⟩
 refine zA (zi (zd hO [] [(5, zt0 0)] [2, 3] ztM fun j => ?_))
 refine zH (zbo (fun (n : Nat) e' σ' => ∃ (o : Int) (τ' : Hp), agr [(2, zt1 b3), (3, zt1 b4), (5, zt0 o)] e' ∧ Obs τ' σ' [some (b3, ⟨[zt7 M p0.Structs U, zt7 b2 p0.Funcs b5], 27, 2, true⟩), some (b4, ⟨[zt7 V p1.Structs X, zt7 b6 p1.Funcs b7], 27, 2, true⟩)] ∧ Hp.le τ τ' ∧ zdC p0 p1 n o = some rr) big ⟨0, _, ztZ ztL, hO, hL, hF⟩ ?_)
 clear hF hO hL
 rintro b8 e σ ⟨o, _, hA, hO, hL, hF⟩
 rw [← zM _ _ hA]
 cases b8 with
 | zero => exact nomatch (show none = some rr from hF)
 | succ b8 =>
 replace hF : zhk (zdC p0 p1 b8) p0 p1 o = some rr := hF
 unfold zhk at hF
 refine zi (zd hO [0] [(31, .bool (decide (o < (p0.Structs.length : Int))))] [2, 3, 5] (And.intro (And.intro rfl rfl) ztN) fun j => ?_)
 refine zn hF rfl (fun hF => ?_) fun hF => ?_
 ·refine zA (zH (zi (zb9 (za hO 3 [0] [(35, zt7 M p0.Structs U), (36, zt0 o)] [2, 3, 5] (And.intro (And.intro rfl rfl) ztO) fun j => ?_))))
  obtain ⟨f9, i3, hF⟩ := zt6 hF
  refine zN (T := zs) (d7.le hL) hO.base rfl rfl i3 (by decide) fun a833 _ i4 i5 => ?_
  obtain ⟨m9, rfl, n0⟩ := i4
  refine za hO 1 [] [(38, .pointer (some a833))] [2, 3, 5] ztN fun j => ?_
  refine zG rfl (i5.le hO.base).fst ?_
  refine za hO 3 [1] [(41, zt7 V p1.Structs X), (42, zt0 o)] [2, 3, 5, 39] (And.intro (And.intro rfl rfl) ztP) fun j => ?_
  obtain ⟨g0, i6, hF⟩ := zt6 hF
  refine zN (T := zs) (d8.le hL) hO.base rfl rfl i6 (by decide) fun a842 _ i7 i8 => ?_
  obtain ⟨n1, rfl, n2⟩ := i7
  refine za hO 1 [] [(44, .pointer (some a842))] [2, 3, 5, 39] ztO fun j => ?_
  refine zG rfl (i8.le hO.base).fst ?_
  refine za hO 2 [] [(47, .bool (!(zV f9.Name g0.Name)))] [2, 3, 5] ztN fun j => ?_
  obtain ⟨i9, j0, hF⟩ := zt6 hF
  refine zbQ 2 [(63, .bool i9), (2, zt1 b3), (3, zt1 b4), (5, zt0 o)] (fun Q hQ => ?_) fun j => ?_
  ·have hF := j0
   rcases z1 hF with ⟨b9, hF⟩ | ⟨b9, hF⟩
   ·refine zI (zt3 b9) ?_
    refine zp (zt2 b9) ?_
    refine zc ?_
    cases hF
    refine zg ?_
    exact hQ _ ztN
   refine zF (zt3 b9) ?_
   refine za hO 3 [0] [(49, zt7 M p0.Structs U), (50, zt0 o)] [2, 3, 5, 47] (And.intro (And.intro rfl rfl) ztP) fun j => ?_
   obtain ⟨g1, j1, hF⟩ := zt6 hF
   refine zN (T := zs) (d7.le hL) hO.base rfl rfl j1 (by decide) fun a854 _ j2 j3 => ?_
   obtain ⟨n3, rfl, j4⟩ := j2
   obtain ⟨n4, n5, rfl, -⟩ := j4.form
   refine za hO 1 [] [(52, .pointer (some (a854.add 1)))] [2, 3, 5, 47] ztO fun j => ?_
   refine zG rfl ((j3.le hO.base).one 1 rfl) ?_
   refine zbk hO 4 [1] [(2, zt1 b3), (3, zt1 b4), (5, zt0 o), (47, .bool (!(zV f9.Name g0.Name))), (54, zt0 (g1.Fields.length : Int)), (56, zt7 V p1.Structs X), (57, zt0 o)] (And.intro (And.intro rfl rfl) ztQ) fun j => ?_
   obtain ⟨j5, j6, hF⟩ := zt6 hF
   refine zN (T := zs) (d8.le hL) hO.base rfl rfl j6 (by decide) fun a863 _ j7 j8 => ?_
   obtain ⟨n6, rfl, j9⟩ := j7
   obtain ⟨n7, n8, rfl, -⟩ := j9.form
   refine za hO 1 [] [(59, .pointer (some (a863.add 1)))] [2, 3, 5, 47, 54] ztP fun j => ?_
   refine zG rfl ((j8.le hO.base).one 1 rfl) ?_
   refine za hO 2 [] [(62, .bool ((g1.Fields.length : Int) != (j5.Fields.length : Int)))] [2, 3, 5, 47] ztO fun j => ?_
   refine zp (zt2 b9) ?_
   refine zc ?_
   cases hF
   refine zg ?_
   exact hQ _ ztN
  refine zc (zn hF rfl (fun hF => ?_) fun hF => ?_)
  ·refine zi (zU hO [] [(4, .bool false)] ztK fun j => ?_)
   refine zbi (z6 (zQ (zQ (z6 (zQ ?_)))))
   cases hF
   have hO := hO.sel []
   exact hQ _ _ _ _ _ rfl hO hL ⟨rfl, rfl⟩
  refine zA (zd hO [] [(6, zt0 0)] [2, 3, 5] ztN fun j => ?_)
  refine zbU (zH (zbo (fun (n : Nat) e' σ' => ∃ (z : Int) (τ' : Hp), agr [(2, zt1 b3), (3, zt1 b4), (5, zt0 o), (6, zt0 z)] e' ∧ Obs τ' σ' [some (b3, ⟨[zt7 M p0.Structs U, zt7 b2 p0.Funcs b5], 27, 2, true⟩), some (b4, ⟨[zt7 V p1.Structs X, zt7 b6 p1.Funcs b7], 27, 2, true⟩)] ∧ Hp.le τ τ' ∧ zfz (zdC p0 p1 b8) p0 p1 o n z = some rr) big ⟨0, _, ztZ ztM, hO, hL, hF⟩ ?_))
  clear hF hO hL
  rintro d9 e σ ⟨z, _, hA, hO, hL, hF⟩
  rw [← zM _ _ hA]
  cases d9 with
  | zero => exact nomatch (show none = some rr from hF)
  | succ d9 =>
  replace hF : zgZ (zfz (zdC p0 p1 b8) p0 p1 o d9) (zdC p0 p1 b8) p0 p1 o z = some rr := hF
  unfold zgZ at hF
  refine zi (za hO 4 [0] [(64, zt0 z), (66, zt7 M p0.Structs U), (67, zt0 o)] [2, 3, 5, 6] (And.intro (And.intro rfl rfl) ztQ) fun j => ?_)
  obtain ⟨k0, k1, hF⟩ := zt6 hF
  refine zN (T := zs) (d7.le hL) hO.base rfl rfl k1 (by decide) fun a953 _ k4 k5 => ?_
  obtain ⟨n9, rfl, k6⟩ := k4
  obtain ⟨o0, o1, rfl, -⟩ := k6.form
  refine za hO 1 [] [(69, .pointer (some (a953.add 1)))] [2, 3, 5, 6, 64] ztP fun j => ?_
  refine zG rfl ((k5.le hO.base).one 1 rfl) ?_
  refine zd hO [] [(72, .bool (decide (z < (k0.Fields.length : Int))))] [2, 3, 5, 6] ztO fun j => ?_
  refine zn hF rfl (fun hF => ?_) fun hF => ?_
  ·refine zA (zH (zb9 (za hO 3 [0] [(76, zt7 M p0.Structs U), (77, zt0 o)] [2, 3, 5, 6] (And.intro (And.intro rfl rfl) ztP) fun j => ?_)))
   obtain ⟨o2, k7, hF⟩ := zt6 hF
   refine zN (T := zs) (d7.le hL) hO.base rfl rfl k7 (by decide) fun a963 _ k8 l0 => ?_
   obtain ⟨o3, rfl, l1⟩ := k8
   refine za hO 1 [] [(79, .pointer (some (a963.add 1)))] [2, 3, 5, 6] ztO fun j => ?_
   refine zG rfl ((l0.le hO.base).one 1 rfl) ?_
   refine za hO 1 [] [(81, zt0 z)] [2, 3, 5, 6, 80] ztP fun j => ?_
   obtain ⟨f0, l2, hF⟩ := zt6 hF
   refine zN (T := Ty.str) l1 hO.base rfl rfl l2 (by decide) fun a972 _ l3 l4 => ?_
   obtain rfl : _ = ([.string f0] : List Value) := l3
   refine zG rfl (l4.le hO.base).fst ?_
   refine za hO 3 [1] [(85, zt7 V p1.Structs X), (86, zt0 o)] [2, 3, 5, 6, 83] (And.intro (And.intro rfl rfl) ztQ) fun j => ?_
   obtain ⟨l5, l6, hF⟩ := zt6 hF
   refine zN (T := zs) (d8.le hL) hO.base rfl rfl l6 (by decide) fun a977 _ l7 l8 => ?_
   obtain ⟨o4, rfl, g2⟩ := l7
   obtain ⟨l9, m0, rfl, -⟩ := g2.form
   refine za hO 1 [] [(88, .pointer (some (a977.add 1)))] [2, 3, 5, 6, 83] ztP fun j => ?_
   refine zG rfl ((l8.le hO.base).one 1 rfl) ?_
   refine zbk hO 1 [] [(2, zt1 b3), (3, zt1 b4), (5, zt0 o), (6, zt0 z), (83, .string f0), (89, zt7 l9 l5.Fields m0), (90, zt0 z)] ztQ fun j => ?_
   obtain ⟨g3, m1, hF⟩ := zt6 hF
   refine zN (T := Ty.str) g2 hO.base rfl rfl m1 (by decide) fun a986 _ m2 m3 => ?_
   obtain rfl : _ = ([.string g3] : List Value) := m2
   refine zG rfl (m3.le hO.base).fst ?_
   refine zd hO [] [(93, .bool (!(zV f0 g3)))] [2, 3, 5, 6] ztO fun j => ?_
   refine zbm (zn hF rfl (fun hF => ?_) fun hF => ?_)
   ·refine zi (zU hO [] [(4, .bool false)] ztK fun j => ?_)
    refine zbi (z6 (zQ (zQ (z6 (zQ (z6 ?_))))))
    refine zQ (zQ (z6 (zQ ?_)))
    cases hF
    have hO := hO.sel []
    exact hQ _ _ _ _ _ rfl hO hL ⟨rfl, rfl⟩
   refine zA (zg (zC (zj (z3 (zd hO [] [(6, zt0 (IntKind.i64.wrap (z + 1)))] [2, 3, 5] ztN fun j => ?_)))))
   refine zg (zj ?_)
   exact ⟨d9, Nat.lt_succ_self _, (IntKind.i64.wrap (z + 1)), _, ztZ ztM, hO, hL, hF⟩
  refine zbs (zbp (zbr (zj (zg (zC (zj ?_))))))
  refine z3 (zd hO [] [(5, zt0 (IntKind.i64.wrap (o + 1)))] [2, 3] ztM fun j => ?_)
  refine zg (zj ?_)
  exact ⟨b8, Nat.lt_succ_self _, (IntKind.i64.wrap (o + 1)), _, ztZ ztL, hO, hL, hF⟩
 refine zbs (zbp (zbr (zj (zi (zd hO [] [(7, zt0 0)] [2, 3] ztM fun j => ?_)))))
 refine zH (zbo (fun (n : Nat) e' σ' => ∃ (t : Int) (τ' : Hp), agr [(2, zt1 b3), (3, zt1 b4), (7, zt0 t)] e' ∧ Obs τ' σ' [some (b3, ⟨[zt7 M p0.Structs U, zt7 b2 p0.Funcs b5], 27, 2, true⟩), some (b4, ⟨[zt7 V p1.Structs X, zt7 b6 p1.Funcs b7], 27, 2, true⟩)] ∧ Hp.le τ τ' ∧ zdG p0 p1 n t = some rr) big ⟨0, _, ztZ ztL, hO, hL, hF⟩ ?_)
 clear hF hO hL
 rintro Y e σ ⟨t, _, hA, hO, hL, hF⟩
 rw [← zM _ _ hA]
 cases Y with
 | zero => exact nomatch (show none = some rr from hF)
 | succ Y =>
 replace hF : zhO (zdG p0 p1 Y) p0 p1 t = some rr := hF
 unfold zhO at hF
 refine zi (zd hO [0] [(98, .bool (decide (t < (p0.Funcs.length : Int))))] [2, 3, 7] (And.intro (And.intro rfl rfl) ztN) fun j => ?_)
 refine zn hF rfl (fun hF => ?_) fun hF => ?_
 ·refine zA (zH (za hO 3 [0] [(102, zt7 b2 p0.Funcs b5), (103, zt0 t)] [2, 3, 7] (And.intro (And.intro rfl rfl) ztO) fun j => ?_))
  obtain ⟨g, g4, hF⟩ := zt6 hF
  refine zN (T := zr) (f7.le hL) hO.base rfl rfl g4 (by decide) fun a1161 _ g5 g6 => ?_
  obtain ⟨m5, m6, rfl, Z, B⟩ := g5
  obtain ⟨c0, c1, rfl, -⟩ := Z.form
  obtain ⟨c2, c3, rfl, -⟩ := B.form
  refine zG rfl ((g6.le hO.base).all rfl) ?_
  refine zbC hO fun d4 σ hO => ?_
  have hO := zt53 hO
  refine zx hO (i := 2) rfl (off := 0) rfl rfl rfl rfl (Nat.le_of_ble_eq_true rfl) rfl fun σ hO => ?_
  have hO := zt53 hO
  refine zc (za hO 3 [1] [(107, zt7 b6 p1.Funcs b7), (108, zt0 t)] [2, 3, 7, 8] (And.intro (And.intro rfl rfl) ztP) fun j => ?_)
  obtain ⟨h, g7, hF⟩ := zt6 hF
  refine zN (T := zr) (f8.le hL) hO.base rfl rfl g7 (by decide) fun a1175 _ g8 g9 => ?_
  obtain ⟨m7, m8, rfl, b0, E⟩ := g8
  obtain ⟨c4, c5, rfl, -⟩ := b0.form
  obtain ⟨c6, c7, rfl, -⟩ := E.form
  refine zG rfl ((g9.le hO.base).all rfl) ?_
  refine zbC hO fun d5 σ hO => ?_
  have hO := zt54 hO
  refine zx hO (i := 3) rfl (off := 0) rfl rfl rfl rfl (Nat.le_of_ble_eq_true rfl) rfl fun σ hO => ?_
  have hO := zt54 hO
  refine zc (zi (za hO 15 [2, 3, 2, 3, 2, 3, 2, 3] [(139, .bool ((((!(zV g.Name h.Name)) || (g.Line != h.Line)) || (!(( (g.Result.Kind.toNat : Int) == (h.Result.Kind.toNat : Int)) && (( g.Result.N == h.Result.N) && ((zV g.Result.Name h.Result.Name) && true))))) || ((g.Params.length : Int) != (h.Params.length : Int))))] [2, 3, 7, 8, 9] (And.intro (And.intro rfl rfl) (And.intro (And.intro rfl rfl) (And.intro (And.intro rfl rfl) (And.intro (And.intro rfl rfl) (And.intro (And.intro rfl rfl) (fun _ => And.intro (And.intro rfl rfl) (And.intro (And.intro rfl rfl) (And.intro (And.intro rfl rfl) (fun _ => And.intro (And.intro rfl rfl) (And.intro (And.intro rfl rfl) (And.intro (And.intro rfl rfl) (fun _ => ztZ ztO)))))))))))) fun j => ?_))
  obtain ⟨h0, h1, hF⟩ := zt6 hF
  refine zb2 2 (fun e' σ' => ∃ (τ' : Hp), agr [(146, .bool h0), (2, zt1 b3), (3, zt1 b4), (7, zt0 t), (8, zt1 d4), (9, zt1 d5)] e' ∧ Obs τ' σ' [some (b3, ⟨[zt7 M p0.Structs U, zt7 b2 p0.Funcs b5], 27, 2, true⟩), some (b4, ⟨[zt7 V p1.Structs X, zt7 b6 p1.Funcs b7], 27, 2, true⟩), zed d4 g.Name g.Line (zt7 c0 g.Params c1) (g.Result.Kind.toNat : Int) g.Result.N g.Result.Name (zt7 c2 g.Body c3), zed d5 h.Name h.Line (zt7 c4 h.Params c5) (h.Result.Kind.toNat : Int) h.Result.N h.Result.Name (zt7 c6 h.Body c7)] ∧ Hp.le τ τ' ∧ RdT zbY τ' (zt7 c0 g.Params c1) g.Params ∧ RdT zy τ' (zt7 c2 g.Body c3) g.Body ∧ RdT zbY τ' (zt7 c4 h.Params c5) h.Params ∧ RdT zy τ' (zt7 c6 h.Body c7) h.Body) ?_ ?_
  ·have hF := h1
   rcases z1 hF with ⟨b1, hF⟩ | ⟨b1, hF⟩
   ·refine zI (zt3 b1) ?_
    refine zp (zt2 b1) ?_
    refine zc ?_
    cases hF
    refine zg ?_
    exact ⟨rfl, _, ztZ ztO, hO, hL, Z, B, b0, E⟩
   refine zF (zt3 b1) ?_
   refine za hO 4 [2, 3] [(141, zt7 c2 g.Body c3), (143, zt7 c6 h.Body c7)] [2, 3, 7, 8, 9, 139] (And.intro (And.intro rfl rfl) (And.intro (And.intro rfl rfl) ztR)) fun j => ?_
   obtain ⟨h2, h3, hF⟩ := zt6 hF
   refine z5 hO (zsu B E h3) rfl fun _ σ _ _ hO c8 h4 => ?_
   have hL := hL.trans c8
   have B := B.le c8
   have E := E.le c8
   have Z := Z.le c8
   have b0 := b0.le c8
   obtain ⟨rfl, rfl⟩ := h4
   have hO := zt54 hO
   refine za hO 1 [] [(145, .bool (!h2))] [2, 3, 7, 8, 9, 139] ztQ fun j => ?_
   refine zp (zt2 b1) ?_
   refine zc ?_
   cases hF
   refine zg ?_
   exact ⟨rfl, _, ztZ ztO, hO, hL, Z, B, b0, E⟩
  rintro e σ ⟨_, hA, hO, hL, Z, B, b0, E⟩
  rw [← zM _ _ hA]
  refine zc (zn hF rfl (fun hF => ?_) fun hF => ?_)
  ·refine zi (zU hO [] [(4, .bool false)] ztK fun j => ?_)
   refine zbi (z6 (zQ (zQ (z6 (zQ ?_)))))
   cases hF
   have hO := hO.sel []
   exact hQ _ _ _ _ _ rfl hO hL ⟨rfl, rfl⟩
  refine zA (zd hO [] [(10, zt0 0)] [2, 3, 7, 8, 9] ztP fun j => ?_)
  refine zbU (zH (zbo (fun (n : Nat) e' σ' => ∃ (w : Int) (τ' : Hp), agr [(2, zt1 b3), (3, zt1 b4), (7, zt0 t), (8, zt1 d4), (9, zt1 d5), (10, zt0 w)] e' ∧ Obs τ' σ' [some (b3, ⟨[zt7 M p0.Structs U, zt7 b2 p0.Funcs b5], 27, 2, true⟩), some (b4, ⟨[zt7 V p1.Structs X, zt7 b6 p1.Funcs b7], 27, 2, true⟩), zed d4 g.Name g.Line (zt7 c0 g.Params c1) (g.Result.Kind.toNat : Int) g.Result.N g.Result.Name (zt7 c2 g.Body c3), zed d5 h.Name h.Line (zt7 c4 h.Params c5) (h.Result.Kind.toNat : Int) h.Result.N h.Result.Name (zt7 c6 h.Body c7)] ∧ Hp.le τ τ' ∧ RdT zbY τ' (zt7 c0 g.Params c1) g.Params ∧ RdT zy τ' (zt7 c2 g.Body c3) g.Body ∧ RdT zbY τ' (zt7 c4 h.Params c5) h.Params ∧ RdT zy τ' (zt7 c6 h.Body c7) h.Body ∧ zfn (zdG p0 p1 Y) t g h n w = some rr) big ⟨0, _, ztZ ztO, hO, hL, Z, B, b0, E, hF⟩ ?_))
  clear hF hO hL
  rintro d6 e σ ⟨w, _, hA, hO, hL, f1, h5, f2, h6, hF⟩
  rw [← zM _ _ hA]
  cases d6 with
  | zero => exact nomatch (show none = some rr from hF)
  | succ d6 =>
  replace hF : zht (zfn (zdG p0 p1 Y) t g h d6) (zdG p0 p1 Y) t g h w = some rr := hF
  unfold zht at hF
  refine zi (zd hO [2] [(151, .bool (decide (w < (g.Params.length : Int))))] [2, 3, 7, 8, 9, 10] (And.intro (And.intro rfl rfl) ztQ) fun j => ?_)
  refine zn hF rfl (fun hF => ?_) fun hF => ?_
  ·refine zA (zH (zb9 (za hO 3 [2] [(155, zt7 c0 g.Params c1), (156, zt0 w)] [2, 3, 7, 8, 9, 10] (And.intro (And.intro rfl rfl) ztR) fun j => ?_)))
   obtain ⟨G, h7, hF⟩ := zt6 hF
   refine zN (T := zbY) f1 hO.base rfl rfl h7 (by decide) fun a1232 _ h8 h9 => ?_
   obtain rfl : _ = ([.string G.Name, .int .u8 G.Type_.Kind.toNat, .int .i64 G.Type_.N, .string G.Type_.Name] : List Value) := h8
   refine zG rfl ((h9.le hO.base).all rfl) ?_
   refine za hO 3 [3] [(160, zt7 c4 h.Params c5), (161, zt0 w)] [2, 3, 7, 8, 9, 10, 158] (And.intro (And.intro rfl rfl) ztS) fun j => ?_
   obtain ⟨I, i0, hF⟩ := zt6 hF
   refine zN (T := zbY) f2 hO.base rfl rfl i0 (by decide) fun a1237 _ i1 i2 => ?_
   obtain rfl : _ = ([.string I.Name, .int .u8 I.Type_.Kind.toNat, .int .i64 I.Type_.N, .string I.Type_.Name] : List Value) := i1
   refine zG rfl ((i2.le hO.base).all rfl) ?_
   refine zd hO [] [(164, .bool (!((zV G.Name I.Name) && (( (G.Type_.Kind.toNat : Int) == (I.Type_.Kind.toNat : Int)) && (( G.Type_.N == I.Type_.N) && ((zV G.Type_.Name I.Type_.Name) && true))))))] [2, 3, 7, 8, 9, 10] ztQ fun j => ?_
   refine zbm (zn hF rfl (fun hF => ?_) fun hF => ?_)
   ·refine zi (zU hO [] [(4, .bool false)] ztK fun j => ?_)
    refine zbi (z6 (zQ (zQ (z6 (zQ (z6 ?_))))))
    refine zQ (zQ (z6 (zQ ?_)))
    cases hF
    have hO := hO.sel []
    exact hQ _ _ _ _ _ rfl hO hL ⟨rfl, rfl⟩
   refine zA (zg (zC (zj (z3 (zd hO [] [(10, zt0 (IntKind.i64.wrap (w + 1)))] [2, 3, 7, 8, 9] ztP fun j => ?_)))))
   refine zg (zj ?_)
   exact ⟨d6, Nat.lt_succ_self _, (IntKind.i64.wrap (w + 1)), _, ztZ ztO, hO, hL, f1, h5, f2, h6, hF⟩
  refine zbs (zbp (zbr (zj (zg (zC (zj ?_))))))
  refine z3 (zd hO [] [(7, zt0 (IntKind.i64.wrap (t + 1)))] [2, 3] ztM fun j => ?_)
  refine zg (zj ?_)
  have hO := hO.sel [0, 1]
  exact ⟨Y, Nat.lt_succ_self _, (IntKind.i64.wrap (t + 1)), _, ztZ ztL, hO, hL, hF⟩
 refine zbs (zbp (zbr (zj (zU hO [] [(4, .bool true)] ztK fun j => ?_))))
 refine z9 ?_
 cases hF
 have hO := hO.sel []
 exact hQ _ _ _ _ _ rfl hO hL ⟨rfl, rfl⟩
def zmI (gn : Nat) : Prop := ∀ {τ : Hp} {v0 : Value} {p0 : (List zb)} {p1 : Int} (r0 : RdT zu τ v0 p0) {rr : Int} (hF : (zet gn) p0 p1 = some rr), Ctr Try.prog 57 #[v0, .int .i64 p1] τ [] (fun v τ' vs' => v = .int .i64 rr ∧ vs' = [])
theorem zq8 {gn : Nat} (ih_law12_exps : zmI gn) {τ : Hp} {G : Value} {p0 : (List zb)} {p1 : Int} (I : RdT zu τ G p0) {rr : Int} (hF : zkP (zet gn) p0 p1 = some rr) :
  Ctr Try.prog 57 #[G, .int .i64 p1] τ [] (fun v τ' vs' => v = .int .i64 rr ∧ vs' = []) := by
 obtain ⟨B, E, rfl, -⟩ := I.form
 refine zbl (args := [.slice B p0.length E, .int .i64 p1]) hm Try.func57 s57 rfl fun w0 σ hO Q hQ => ?_
 unfold zkP at hF
 have hL := Hp.le.refl τ
 show wpn _ _ a57.body _ _ _
 unfold a57
 dsimp only
 refine zd hO [] [] [0, 1] ztL fun j => ?_
 refine zd hO [] [(5, zt0 (p0.length : Int))] [0, 1] ztM fun j => ?_
 refine zi (zd hO [] [(6, zt0 0)] [0, 1, 5] ztN fun j => ?_)
 refine zH (zbo (fun (n : Nat) e' σ' => ∃ (g h : Int) (τ' : Hp), agr [(0, zt7 B p0 E), (1, zt0 p1), (5, zt0 g), (6, zt0 h)] e' ∧ Obs τ' σ' [] ∧ Hp.le τ τ' ∧ zgk (zet gn) p0 p1 n g h = some rr) big ⟨(p0.length : Int), 0, _, ztZ ztM, hO, hL, hF⟩ ?_)
 clear hF hO hL
 rintro o e σ ⟨g, h, _, hA, hO, hL, hF⟩
 rw [← zM _ _ hA]
 cases o with
 | zero => exact nomatch (show none = some rr from hF)
 | succ o =>
 replace hF : zgO (zgk (zet gn) p0 p1 o) (zet gn) p0 p1 g h = some rr := hF
 unfold zgO at hF
 refine zi (zd hO [] [(17, .bool ((decide (h < (p0.length : Int))) && (decide (g ≤ p1))))] [0, 1, 5, 6] (And.intro (And.intro rfl rfl) (fun _ => ztZ ztN)) fun j => ?_)
 refine zn hF rfl (fun hF => ?_) fun hF => ?_
 ·refine zA (zH (z3 (za hO 3 [] [(20, zt0 g), (21, zt7 B p0 E), (22, zt0 h)] [0, 1, 5, 6] ztQ fun j => ?_)))
  obtain ⟨Z, M, hF⟩ := zt6 hF
  refine zN (T := zu) (I.le hL) hO.base rfl rfl M (by decide) fun a37 _ U V => ?_
  obtain ⟨b0, rfl, t⟩ := zbH U
  refine za hO 1 [] [(24, .pointer (some (a37.add 5)))] [0, 1, 5, 6, 20] ztP fun j => ?_
  refine zG rfl ((V.le hO.base).one 5 rfl) ?_
  refine za hO 3 [] [(28, zt0 (IntKind.i64.wrap (p1 - g)))] [0, 1, 6, 20, 25] ztP fun j => ?_
  obtain ⟨w, X, hF⟩ := zt6 hF
  refine z5 hO (ih_law12_exps t X) rfl fun _ σ _ _ hO z Y => ?_
  have hL := hL.trans z
  have t := t.le z
  obtain ⟨rfl, rfl⟩ := Y
  have hO : Obs _ _ [] := hO
  refine zd hO [] [(5, zt0 (IntKind.i64.wrap (g + w)))] [0, 1, 6] ztN fun j => ?_
  refine zg (zC (zj (z3 (zd hO [] [(6, zt0 (IntKind.i64.wrap (h + 1)))] [0, 1, 5] ztN fun j => ?_))))
  refine zg (zj ?_)
  exact ⟨o, Nat.lt_succ_self _, (IntKind.i64.wrap (g + w)), (IntKind.i64.wrap (h + 1)), _, ztZ ztM, hO, hL, hF⟩
 refine zbs (zbp (zbr (zj (zU hO [] [(4, zt0 (zdK g (IntKind.i64.wrap (p1 + 1))))] ztK fun j => ?_))))
 refine z9 ?_
 cases hF
 exact hQ _ _ _ _ _ rfl hO hL ⟨rfl, rfl⟩
theorem zpb (n : Nat) : zmI n := by
 induction n with
 | zero =>
  intro τ h p0 p1 g rr hF; exact nomatch (show none = some rr from hF)
 | succ n ih =>
  intro τ h p0 p1 g rr hF; exact zq8 ih g hF
theorem zq2 : ∀ {τ : Hp} {g : Value} {p0 : (List zb)} {p1 : Int} (h : RdT zu τ g p0) {rr : Int} (hF : zkG p0 p1 = some rr), Ctr Try.prog 57 #[g, .int .i64 p1] τ [] (fun v τ' vs' => v = .int .i64 rr ∧ vs' = []) := (zpb big)
def zlq (gn : Nat) : Prop := ∀ {τ : Hp} {g : Value} {p0 : (List zh)} {p1 : Int} (h : RdT zy τ g p0) {rr : Int} (hF : (zdN gn) p0 p1 = some rr), Ctr Try.prog 31 #[g, .int .i64 p1] τ [] (fun v τ' vs' => v = .int .i64 rr ∧ vs' = [])
theorem zsS {gn : Nat} (ih_law12_stmts : zlq gn) {τ : Hp} {v0 : Value} {p0 : (List zh)} {p1 : Int} (Z : RdT zy τ v0 p0) {rr : Int} (hF : zjE (zdN gn) p0 p1 = some rr) :
  Ctr Try.prog 31 #[v0, .int .i64 p1] τ [] (fun v τ' vs' => v = .int .i64 rr ∧ vs' = []) := by
 obtain ⟨B, E, rfl, -⟩ := Z.form
 refine zbl (args := [.slice B p0.length E, .int .i64 p1]) hm Try.func31 s31 rfl fun w0 σ hO Q hQ => ?_
 unfold zjE at hF
 have hL := Hp.le.refl τ
 show wpn _ _ a31.body _ _ _
 unfold a31
 dsimp only
 refine zd hO [] [] [0, 1] ztL fun j => ?_
 refine zd hO [] [(5, zt0 (p0.length : Int))] [0, 1] ztM fun j => ?_
 refine zi (zd hO [] [(6, zt0 0)] [0, 1, 5] ztN fun j => ?_)
 refine zH (zbo (fun (n : Nat) e' σ' => ∃ (g h : Int) (τ' : Hp), agr [(0, zt7 B p0 E), (1, zt0 p1), (5, zt0 g), (6, zt0 h)] e' ∧ Obs τ' σ' [] ∧ Hp.le τ τ' ∧ zel (zdN gn) p0 p1 n g h = some rr) big ⟨(p0.length : Int), 0, _, ztZ ztM, hO, hL, hF⟩ ?_)
 clear hF hO hL
 rintro w e σ ⟨g, h, _, hA, hO, hL, hF⟩
 rw [← zM _ _ hA]
 cases w with
 | zero => exact nomatch (show none = some rr from hF)
 | succ w =>
 replace hF : ziv (zel (zdN gn) p0 p1 w) (zdN gn) p0 p1 g h = some rr := hF
 unfold ziv at hF
 refine zi (zd hO [] [(17, .bool ((decide (h < (p0.length : Int))) && (decide (g ≤ p1))))] [0, 1, 5, 6] (And.intro (And.intro rfl rfl) (fun _ => ztZ ztN)) fun j => ?_)
 refine zn hF rfl (fun hF => ?_) fun hF => ?_
 ·refine zA (zH (za hO 3 [] [(20, zt0 g), (21, zt7 B p0 E), (22, zt0 h)] [0, 1, 5, 6] ztQ fun j => ?_))
  obtain ⟨d0, b0, hF⟩ := zt6 hF
  refine zN (T := zy) (Z.le hL) hO.base rfl rfl b0 (by decide) fun a187 _ b1 b2 => ?_
  obtain ⟨d4, d5, d6, rfl, G, d7, d8⟩ := zc4 b1
  refine za hO 1 [] [(24, .pointer (some (a187.add 8)))] [0, 1, 5, 6, 20] ztP fun j => ?_
  refine zG rfl ((b2.le hO.base).one 8 rfl) ?_
  refine za hO 3 [] [(28, zt0 (IntKind.i64.wrap (p1 - g)))] [0, 1, 6, 20, 25] ztP fun j => ?_
  obtain ⟨t, b3, hF⟩ := zt6 hF
  refine z5 hO (zq2 G b3) rfl fun _ σ _ _ hO M b4 => ?_
  have hL := hL.trans M
  have G := G.le M
  obtain ⟨rfl, rfl⟩ := b4
  have hO : Obs _ _ [] := hO
  refine zd hO [] [(5, zt0 (IntKind.i64.wrap (g + t)))] [0, 1, 6] ztN fun j => ?_
  refine zi (zd hO [] [(33, .bool (decide ((IntKind.i64.wrap (g + t)) ≤ p1)))] [0, 1, 5, 6] ztO fun j => ?_)
  refine zcO (fun e' σ' => ∃ (o : Int) (τ' : Hp), agr [(0, zt7 B p0 E), (1, zt0 p1), (5, zt0 o), (6, zt0 h)] e' ∧ Obs τ' σ' [] ∧ Hp.le τ τ' ∧ zil (zdN gn) (zel (zdN gn) p0 p1 w) p0 p1 h o = some rr) ?_ ?_
  ·refine zbm (zn hF rfl (fun hF => ?_) fun hF => ?_)
   ·refine za hO 3 [] [(34, zt0 (IntKind.i64.wrap (g + t))), (35, zt7 B p0 E), (36, zt0 h)] [0, 1, 5, 6] ztQ fun j => ?_
    obtain ⟨b5, b6, hF⟩ := zt6 hF
    refine zN (T := zy) (Z.le hL) hO.base rfl rfl b6 (by decide) fun a254 _ b7 b8 => ?_
    obtain ⟨d9, f0, f1, rfl, f2, z, f3⟩ := zc4 b7
    obtain ⟨b9, c1, rfl, -⟩ := z.form
    refine za hO 1 [] [(38, .pointer (some (a254.add 9)))] [0, 1, 5, 6, 34] ztP fun j => ?_
    refine zG rfl ((b8.le hO.base).one 9 rfl) ?_
    refine zbk hO 3 [] [(0, zt7 B p0 E), (1, zt0 p1), (6, zt0 h), (34, zt0 (IntKind.i64.wrap (g + t))), (39, zt7 b9 b5.Body c1), (42, zt0 (IntKind.i64.wrap (p1 - (IntKind.i64.wrap (g + t)))))] ztP fun j => ?_
    obtain ⟨U, c2, hF⟩ := zt6 hF
    refine z5 hO (ih_law12_stmts z c2) rfl fun _ σ _ _ hO V c3 => ?_
    have hL := hL.trans V
    have z := z.le V
    obtain ⟨rfl, rfl⟩ := c3
    have hO : Obs _ _ [] := hO
    refine zd hO [] [(5, zt0 (IntKind.i64.wrap ((IntKind.i64.wrap (g + t)) + U)))] [0, 1, 6] ztN fun j => ?_
    refine zg (zj ?_)
    exact ⟨(IntKind.i64.wrap ((IntKind.i64.wrap (g + t)) + U)), _, ztZ ztM, hO, hL, hF⟩
   refine zA (zg (zj ?_))
   exact ⟨(IntKind.i64.wrap (g + t)), _, ztZ ztM, hO, hL, hF⟩
  rintro e σ ⟨o, _, hA, hO, hL, hF⟩
  rw [← zM _ _ hA]
  unfold zil at hF
  refine zd hO [] [(47, .bool (decide (o ≤ p1)))] [0, 1, 5, 6] ztO fun j => ?_
  refine zbm (zn hF rfl (fun hF => ?_) fun hF => ?_)
  ·refine za hO 3 [] [(48, zt0 o), (49, zt7 B p0 E), (50, zt0 h)] [0, 1, 5, 6] ztQ fun j => ?_
   obtain ⟨f4, c4, hF⟩ := zt6 hF
   refine zN (T := zy) (Z.le hL) hO.base rfl rfl c4 (by decide) fun a232 _ c5 c6 => ?_
   obtain ⟨f5, f6, f7, rfl, f8, f9, I⟩ := zc4 c5
   refine za hO 1 [] [(52, .pointer (some (a232.add 10)))] [0, 1, 5, 6, 48] ztP fun j => ?_
   refine zG rfl ((c6.le hO.base).one 10 rfl) ?_
   refine za hO 3 [] [(56, zt0 (IntKind.i64.wrap (p1 - o)))] [0, 1, 6, 48, 53] ztP fun j => ?_
   obtain ⟨X, c7, hF⟩ := zt6 hF
   refine z5 hO (ih_law12_stmts I c7) rfl fun _ σ _ _ hO Y c8 => ?_
   have hL := hL.trans Y
   have I := I.le Y
   obtain ⟨rfl, rfl⟩ := c8
   have hO : Obs _ _ [] := hO
   refine zd hO [] [(5, zt0 (IntKind.i64.wrap (o + X)))] [0, 1, 6] ztN fun j => ?_
   refine zg (zC (zj (z3 (zd hO [] [(6, zt0 (IntKind.i64.wrap (h + 1)))] [0, 1, 5] ztN fun j => ?_))))
   refine zg (zj ?_)
   exact ⟨w, Nat.lt_succ_self _, (IntKind.i64.wrap (o + X)), (IntKind.i64.wrap (h + 1)), _, ztZ ztM, hO, hL, hF⟩
  refine zA (zg (zC (zj (z3 (zd hO [] [(6, zt0 (IntKind.i64.wrap (h + 1)))] [0, 1, 5] ztN fun j => ?_)))))
  refine zg (zj ?_)
  exact ⟨w, Nat.lt_succ_self _, o, (IntKind.i64.wrap (h + 1)), _, ztZ ztM, hO, hL, hF⟩
 refine zbs (zbp (zbr (zj (zU hO [] [(4, zt0 (zdK g (IntKind.i64.wrap (p1 + 1))))] ztK fun j => ?_))))
 refine z9 ?_
 cases hF
 exact hQ _ _ _ _ _ rfl hO hL ⟨rfl, rfl⟩
theorem zo9 (n : Nat) : zlq n := by
 induction n with
 | zero =>
  intro τ h p0 p1 g rr hF; exact nomatch (show none = some rr from hF)
 | succ n ih =>
  intro τ h p0 p1 g rr hF; exact zsS ih g hF
theorem zq6 : ∀ {τ : Hp} {g : Value} {p0 : (List zh)} {p1 : Int} (h : RdT zy τ g p0) {rr : Int} (hF : zjL p0 p1 = some rr), Ctr Try.prog 31 #[g, .int .i64 p1] τ [] (fun v τ' vs' => v = .int .i64 rr ∧ vs' = []) := (zo9 big)
theorem zrX {τ : Hp} {p0 : zB} {X Y : Value} (Z : RdT zs τ X p0.Structs) (U : RdT zr τ Y p0.Funcs) {rr : Bool} (hF : zjo p0 = some rr) :
  Ctr Try.prog 14 #[.agg #[X, Y]] τ [] (fun v τ' vs' => v = .bool rr ∧ vs' = []) := by
 obtain ⟨G, I, rfl, -⟩ := Z.form
 obtain ⟨z, B, rfl, -⟩ := U.form
 refine zbl (args := [.agg #[(zt7 G p0.Structs I), (zt7 z p0.Funcs B)]]) hm Try.func14 s14 rfl fun w0 σ hO Q hQ => ?_
 unfold zjo at hF
 have hL := Hp.le.refl τ
 show wpn _ _ a14.body _ _ _
 unfold a14
 dsimp only
 refine zct (n := 2) hO rfl rfl fun b2 σ hO => ?_
 have hO := zt51 hO
 refine zd hO [] [] [1] ztK fun j => ?_
 refine zd hO [] [(3, zt0 0)] [1] ztL fun j => ?_
 refine zi (zd hO [] [(4, zt0 0)] [1, 3] ztM fun j => ?_)
 refine zH (zbo (fun (n : Nat) e' σ' => ∃ (o t : Int) (τ' : Hp), agr [(1, zt1 b2), (3, zt0 o), (4, zt0 t)] e' ∧ Obs τ' σ' [some (b2, ⟨[zt7 G p0.Structs I, zt7 z p0.Funcs B], 27, 2, true⟩)] ∧ Hp.le τ τ' ∧ zgg p0 n o t = some rr) big ⟨0, 0, _, ztZ ztL, hO, hL, hF⟩ ?_)
 clear hF hO hL
 rintro M e σ ⟨o, t, _, hA, hO, hL, hF⟩
 rw [← zM _ _ hA]
 cases M with
 | zero => exact nomatch (show none = some rr from hF)
 | succ M =>
 replace hF : zhA (zgg p0 M) p0 o t = some rr := hF
 unfold zhA at hF
 refine zi (zd hO [0] [(14, .bool ((decide (t < (p0.Structs.length : Int))) && (decide (o ≤ 1500))))] [1, 3, 4] (And.intro (And.intro rfl rfl) (And.intro (And.intro rfl rfl) (fun _ => ztZ ztM))) fun j => ?_)
 refine zn hF rfl (fun hF => ?_) fun hF => ?_
 ·refine zA (zH (z3 (za hO 5 [0] [(18, zt0 (IntKind.i64.wrap (o + 1))), (20, zt7 G p0.Structs I), (21, zt0 t)] [1, 4] (And.intro (And.intro rfl rfl) ztO) fun j => ?_)))
  obtain ⟨b1, b5, hF⟩ := zt6 hF
  refine zN (T := zs) (Z.le hL) hO.base rfl rfl b5 (by decide) fun a227 _ b6 b7 => ?_
  obtain ⟨c8, rfl, b8⟩ := b6
  obtain ⟨c9, d0, rfl, -⟩ := b8.form
  refine za hO 1 [] [(23, .pointer (some (a227.add 1)))] [1, 4, 18] ztN fun j => ?_
  refine zG rfl ((b7.le hO.base).one 1 rfl) ?_
  refine zd hO [] [(3, zt0 (IntKind.i64.wrap ((IntKind.i64.wrap (o + 1)) + (b1.Fields.length : Int))))] [1, 4] ztM fun j => ?_
  refine zg (zC (zj (z3 (zd hO [] [(4, zt0 (IntKind.i64.wrap (t + 1)))] [1, 3] ztM fun j => ?_))))
  refine zg (zj ?_)
  exact ⟨M, Nat.lt_succ_self _, (IntKind.i64.wrap ((IntKind.i64.wrap (o + 1)) + (b1.Fields.length : Int))), (IntKind.i64.wrap (t + 1)), _, ztZ ztL, hO, hL, hF⟩
 refine zbs (zbp (zbr (zj (zi (zd hO [] [(5, zt0 0)] [1, 3] ztM fun j => ?_)))))
 refine zH (zbo (fun (n : Nat) e' σ' => ∃ (g h : Int) (τ' : Hp), agr [(1, zt1 b2), (3, zt0 g), (5, zt0 h)] e' ∧ Obs τ' σ' [some (b2, ⟨[zt7 G p0.Structs I, zt7 z p0.Funcs B], 27, 2, true⟩)] ∧ Hp.le τ τ' ∧ zfg p0 n g h = some rr) big ⟨o, 0, _, ztZ ztL, hO, hL, hF⟩ ?_)
 clear hF hO hL
 rintro E e σ ⟨g, h, _, hA, hO, hL, hF⟩
 rw [← zM _ _ hA]
 cases E with
 | zero => exact nomatch (show none = some rr from hF)
 | succ E =>
 replace hF : zh0 (zfg p0 E) p0 g h = some rr := hF
 unfold zh0 at hF
 refine zi (zd hO [0] [(35, .bool ((decide (h < (p0.Funcs.length : Int))) && (decide (g ≤ 1500))))] [1, 3, 5] (And.intro (And.intro rfl rfl) (And.intro (And.intro rfl rfl) (fun _ => ztZ ztM))) fun j => ?_)
 refine zn hF rfl (fun hF => ?_) fun hF => ?_
 ·refine zA (zH (za hO 5 [0] [(39, zt0 (IntKind.i64.wrap (g + 1))), (41, zt7 z p0.Funcs B), (42, zt0 h)] [1, 5] (And.intro (And.intro rfl rfl) ztO) fun j => ?_))
  obtain ⟨w, b9, hF⟩ := zt6 hF
  refine zN (T := zr) (U.le hL) hO.base rfl rfl b9 (by decide) fun a304 _ c0 c1 => ?_
  obtain ⟨d4, d5, rfl, c2, d6⟩ := c0
  obtain ⟨d7, d8, rfl, -⟩ := c2.form
  refine za hO 1 [] [(44, .pointer (some (a304.add 2)))] [1, 5, 39] ztN fun j => ?_
  refine zG rfl ((c1.le hO.base).one 2 rfl) ?_
  refine zd hO [] [(3, zt0 (IntKind.i64.wrap ((IntKind.i64.wrap (g + 1)) + (w.Params.length : Int))))] [1, 5] ztM fun j => ?_
  refine zd hO [] [(49, .bool (decide ((IntKind.i64.wrap ((IntKind.i64.wrap (g + 1)) + (w.Params.length : Int))) ≤ 1500)))] [1, 3, 5] ztN fun j => ?_
  refine zbm (zn hF rfl (fun hF => ?_) fun hF => ?_)
  ·refine za hO 4 [0] [(50, zt0 (IntKind.i64.wrap ((IntKind.i64.wrap (g + 1)) + (w.Params.length : Int)))), (52, zt7 z p0.Funcs B), (53, zt0 h)] [1, 3, 5] (And.intro (And.intro rfl rfl) ztP) fun j => ?_
   obtain ⟨d9, c3, hF⟩ := zt6 hF
   refine zN (T := zr) (U.le hL) hO.base rfl rfl c3 (by decide) fun a318 _ c4 c5 => ?_
   obtain ⟨f0, f1, rfl, f2, V⟩ := c4
   refine za hO 1 [] [(55, .pointer (some (a318.add 6)))] [1, 3, 5, 50] ztO fun j => ?_
   refine zG rfl ((c5.le hO.base).one 6 rfl) ?_
   refine za hO 2 [] [(58, zt0 (IntKind.i64.wrap (1500 - (IntKind.i64.wrap ((IntKind.i64.wrap (g + 1)) + (w.Params.length : Int))))))] [1, 5, 50, 56] ztO fun j => ?_
   obtain ⟨b3, c6, hF⟩ := zt6 hF
   refine z5 hO (zq6 V c6) rfl fun _ σ _ _ hO b4 c7 => ?_
   have hL := hL.trans b4
   have V := V.le b4
   obtain ⟨rfl, rfl⟩ := c7
   have hO := zt51 hO
   refine zU hO [] [(1, zt1 b2), (3, zt0 (IntKind.i64.wrap ((IntKind.i64.wrap ((IntKind.i64.wrap (g + 1)) + (w.Params.length : Int))) + b3))), (5, zt0 h)] ztM fun j => ?_
   refine zg (zC (zj (z3 (zd hO [] [(5, zt0 (IntKind.i64.wrap (h + 1)))] [1, 3] ztM fun j => ?_))))
   refine zg (zj ?_)
   exact ⟨E, Nat.lt_succ_self _, (IntKind.i64.wrap ((IntKind.i64.wrap ((IntKind.i64.wrap (g + 1)) + (w.Params.length : Int))) + b3)), (IntKind.i64.wrap (h + 1)), _, ztZ ztL, hO, hL, hF⟩
  refine zA (zg (zC (zj (z3 (zd hO [] [(5, zt0 (IntKind.i64.wrap (h + 1)))] [1, 3] ztM fun j => ?_)))))
  refine zg (zj ?_)
  exact ⟨E, Nat.lt_succ_self _, (IntKind.i64.wrap ((IntKind.i64.wrap (g + 1)) + (w.Params.length : Int))), (IntKind.i64.wrap (h + 1)), _, ztZ ztL, hO, hL, hF⟩
 refine zbs (zbp (zbr (zj (zU hO [] [(2, .bool (decide (g > 1500)))] ztK fun j => ?_))))
 refine z9 ?_
 cases hF
 have hO := hO.sel []
 exact hQ _ _ _ _ _ rfl hO hL ⟨rfl, rfl⟩
theorem zbt {τ : Hp} {q0 : zk} {g : Nat} {B : Value} {w : Ob} {p1 : Int} {v2 : Value} {z : (List ByteArray)} (E : ze zm 79 τ B q0.L w) (r2 : RdT Ty.str τ v2 z) {rr : zk} (hF : zbf q0 p1 z = some rr) :
  Ctr Try.prog 32 #[.pointer (some ⟨g, 0, none⟩), .int .u8 p1, v2] τ [zbh g B q0.Line q0.More q0.Failed, w] (fun v τ' vs' => ∃ (U : Value) (V : Ob), v = .tuple #[] ∧ vs' = [zbh g U rr.Line rr.More rr.Failed, V] ∧ ze zm 79 τ' U rr.L V) := by
 obtain ⟨Y, Z, rfl, -⟩ := E.form
 obtain ⟨A2, c2, rfl, -⟩ := r2.form
 refine zfB (args := [.pointer (some ⟨g, 0, none⟩), .int .u8 p1, .slice A2 z.length c2]) hm Try.func32 s32 rfl fun w0 σ hO Q hQ => ?_
 unfold zbf at hF
 have hL := Hp.le.refl τ
 show wpn _ _ a32.body _ _ _
 unfold a32
 dsimp only
 refine zd hO [] [(6, zt0 0)] [0, 1, 2] ztN fun j => ?_
 refine zbU (zH (zbo (fun (n : Nat) e' σ' => ∃ (G : Option Addr) (I : Nat) (X : Ob) (h : List zl) (o : Int) (τ' : Hp), agr [(0, zt1 g), (1, .int .u8 p1), (2, zt7 A2 z c2), (6, zt0 o)] e' ∧ Obs τ' σ' [zbh g (zt7 G h I) q0.Line q0.More q0.Failed, X] ∧ Hp.le τ τ' ∧ ze zm 79 τ' (zt7 G h I) h X ∧ zhr q0 p1 z n h o = some rr) big ⟨Y, Z, w, q0.L, 0, _, ztZ ztM, hO, hL, (E.le hL), hF⟩ ?_))
 clear hF hO hL
 rintro M e σ ⟨G, I, X, h, o, _, hA, hO, hL, b0, hF⟩
 rw [← zM _ _ hA]
 cases M with
 | zero => exact nomatch (show none = some rr from hF)
 | succ M =>
 replace hF : zhS (zhr q0 p1 z M) q0 p1 z h o = some rr := hF
 unfold zhS at hF
 refine zi (zd hO [] [(10, .bool (decide (o < (z.length : Int))))] [0, 1, 2, 6] ztO fun j => ?_)
 refine zn hF rfl (fun hF => ?_) fun hF => ?_
 ·refine zA (zH (zfO (za hO 8 [0] [(13, zt1 g), (16, zt1 g), (17, zt7 G h I), (18, .int .u8 p1), (19, zt7 A2 z c2), (20, zt0 o)] [0, 1, 2, 6] (And.intro (And.intro rfl rfl) ztT) fun j => ?_)))
  obtain ⟨t, b8, hF⟩ := zt6 hF
  refine zN (T := Ty.str) (r2.le hL) hO.base rfl rfl b8 (by decide) fun a51 _ b9 c0 => ?_
  obtain rfl : _ = ([.string t] : List Value) := b9
  refine zG rfl (c0.le hO.base).fst ?_
  refine za hO 5 [0] [(27, .agg #[(.int .u8 p1), (.string t), (.int .i64 0), (.int .i64 q0.Line)])] [0, 1, 2, 6, 13, 16, 17] (And.intro (And.intro rfl rfl) ztR) fun j => ?_
  refine zcj ?_
  obtain ⟨z54, b4, hF⟩ := zt6 hF
  refine zt (T := zm) (l := ([(⟨z54, t, 0, q0.Line⟩ : zl)] : List zl)) (cs := [.int .u8 p1, .string t, .int .i64 0, .int .i64 q0.Line]) hO rfl ⟨[.int .u8 p1, .string t, .int .i64 0, .int .i64 q0.Line], _, rfl, (show _ = _ by simp only [zlO b4]), rfl⟩ rfl (by decide) fun _ σ c6 c1 hO => ?_
  have hO := zt53 hO
  refine zc (zcg ⟨(zb1 rfl (hO.val (i := 0) (off := 0) (agg := false) (n := 1) rfl rfl) rfl), trivial⟩ ?_)
  obtain ⟨_, b5, hF⟩ := zt6 hF
  refine zho (T := zm) znw hO b0 (i := 1) rfl rfl rfl (c1.rd hO (i := 2) rfl) b5 (by decide) fun _ σ c3 b1 hO => ?_
  obtain ⟨c4, c5, rfl, -⟩ := b1.form
  have hO := zt53 hO
  refine za hO 2 [] [(31, zt1 g)] [0, 1, 2, 6, 29] ztP fun j => ?_
  refine zx hO (i := 0) rfl (off := 0) rfl rfl rfl rfl (Nat.le_of_ble_eq_true rfl) rfl fun σ hO => ?_
  have hO := zt53 hO
  refine zc (zg (zC (zj (z3 (zd hO [] [(6, zt0 (IntKind.i64.wrap (o + 1)))] [0, 1, 2] ztN fun j => ?_)))))
  refine zg (zj ?_)
  have hO := hO.sel [0, 1]
  exact ⟨M, Nat.lt_succ_self _, c4, c5, c3, (h ++ ([(⟨z54, t, 0, q0.Line⟩ : zl)] : List zl)), (IntKind.i64.wrap (o + 1)), _, ztZ ztM, hO, hL, b1, hF⟩
 refine zbs (zbp (zbr (zj (zg ?_))))
 cases hF
 exact (hQ _ _ _ _ _ rfl hO hL ⟨_, _, rfl, rfl, b0⟩).2
theorem zps {τ : Hp} {p0 : ByteArray}  {rr : Bool} (hF : zhB p0 = some rr) :
  Ctr Try.prog 58 #[.string p0] τ [] (fun v τ' vs' => v = .bool rr ∧ vs' = []) := by
 refine zbl (args := [.string p0]) hm Try.func58 s58 rfl fun w0 σ hO Q hQ => ?_
 unfold zhB at hF
 have hL := Hp.le.refl τ
 show wpn _ _ a58.body _ _ _
 unfold a58
 dsimp only
 refine zd hO [] [] [0] ztK fun j => ?_
 refine za hO 1 [] [(7, .string p0)] [0] ztL fun j => ?_
 refine znJ hO rfl fun _ σ _ hO h5 M => ?_
 have hL := hL.trans h5
 obtain ⟨w, h7, hF⟩ := zt6 hF
 refine z5 hO (zlR M h7) rfl fun _ σ _ _ hO U h9 => ?_
 have hL := hL.trans U
 have M := M.le U
 obtain ⟨b9, c0, rfl, rfl, E⟩ := h9
 obtain ⟨z, B, rfl, -⟩ := E.form
 have hO := zt51 hO
 refine zd hO [] [(3, zt7 z w.1 B), (5, zt0 w.2.2)] [0] ztM fun j => ?_
 refine za hO 6 [] [(20, .bool ((w.2.2 == 0) && ((w.1.length : Int) == 1)))] [0, 3] (And.intro (And.intro rfl rfl) (fun _ => ztZ ztL)) fun j => ?_
 obtain ⟨G, V, hF⟩ := zt6 hF
 refine zbQ 2 [(26, .bool G), (0, .string p0), (3, zt7 z w.1 B)] (fun Q hQ => ?_) fun j => ?_
 ·have hF := V
  rcases z1 hF with ⟨g, hF⟩ | ⟨g, hF⟩
  ·refine zF (zt4 g) ?_
   refine za hO 1 [] [(21, zt7 z w.1 B)] [0, 3, 20] ztN fun j => ?_
   obtain ⟨o, X, hF⟩ := zt6 hF
   refine zd5 (T := zm) hO E (i := 0) rfl rfl rfl X (by decide) fun a20 _ Y Z c1 => ?_
   have b0 := Y
   obtain rfl : _ = ([.int .u8 o.Kind.toNat, .string o.Text, .int .i64 o.Num, .int .i64 o.Line] : List Value) := b0
   refine za hO 1 [] [(23, .pointer (some a20))] [0, 3, 20] ztN fun j => ?_
   refine zG rfl Z.fst ?_
   refine za hO 1 [] [(25, .bool ((o.Kind.toNat : Int) == 1))] [0, 3, 20] ztN fun j => ?_
   refine zp (zt2 g) ?_
   refine zc ?_
   cases hF
   refine zg ?_
   exact hQ _ ztM
  refine zI (zt4 g) ?_
  refine zp (zt2 g) ?_
  refine zc ?_
  cases hF
  refine zg ?_
  exact hQ _ ztM
 refine za hO 1 [] [(27, .bool G)] [0, 3] ztM fun j => ?_
 obtain ⟨I, b1, hF⟩ := zt6 hF
 refine zbQ 2 [(34, .bool I)] (fun Q hQ => ?_) fun j => ?_
 ·have hF := b1
  rcases z1 hF with ⟨h, hF⟩ | ⟨h, hF⟩
  ·refine zF (zt4 h) ?_
   refine za hO 1 [] [(28, zt7 z w.1 B)] [0, 27] ztM fun j => ?_
   obtain ⟨t, b2, hF⟩ := zt6 hF
   refine zd5 (T := zm) hO E (i := 0) rfl rfl rfl b2 (by decide) fun a30 _ b3 b4 c2 => ?_
   have b5 := b3
   obtain rfl : _ = ([.int .u8 t.Kind.toNat, .string t.Text, .int .i64 t.Num, .int .i64 t.Line] : List Value) := b5
   refine za hO 1 [] [(30, .pointer (some (a30.add 1)))] [0, 27] ztM fun j => ?_
   refine zG rfl (b4.one 1 rfl) ?_
   refine za hO 2 [] [(33, .bool (zV t.Text p0))] [27] ztL fun j => ?_
   refine zp (zt2 h) ?_
   refine zc ?_
   cases hF
   refine zg ?_
   exact hQ _ (ztZ (trivial))
  refine zI (zt4 h) ?_
  refine zp (zt2 h) ?_
  refine zc ?_
  cases hF
  refine zg ?_
  exact hQ _ (ztZ (trivial))
 refine zU hO [] [(2, .bool I)] ztK fun j => ?_
 refine z9 ?_
 cases hF
 have hO := hO.sel []
 exact hQ _ _ _ _ _ rfl hO hL ⟨rfl, rfl⟩
theorem zcX {τ : Hp} {q0 : zk} {g : Nat} {t : Value} {h : Ob} {p1 : ByteArray} (w : ze zm 79 τ t q0.L h) {rr : zk} (hF : zcv q0 p1 = some rr) :
  Ctr Try.prog 33 #[.pointer (some ⟨g, 0, none⟩), .string p1] τ [zbh g t q0.Line q0.More q0.Failed, h] (fun v τ' vs' => ∃ (z : Value) (B : Ob), v = .tuple #[] ∧ vs' = [zbh g z rr.Line rr.More rr.Failed, B] ∧ ze zm 79 τ' z rr.L B) := by
 obtain ⟨G, I, rfl, -⟩ := w.form
 refine zfB (args := [.pointer (some ⟨g, 0, none⟩), .string p1]) hm Try.func33 s33 rfl fun w0 σ hO Q hQ => ?_
 unfold zcv at hF
 have hL := Hp.le.refl τ
 show wpn _ _ a33.body _ _ _
 unfold a33
 dsimp only
 refine za hO 6 [0] [(4, zt1 g), (9, .bool q0.Failed)] [0, 1] (And.intro (And.intro rfl rfl) ztN) fun j => ?_
 obtain ⟨U, h4, hF⟩ := zt6 hF
 refine zb2 2 (fun e' σ' => ∃ (τ' : Hp), agr [(13, .bool U), (0, zt1 g), (1, .string p1), (4, zt1 g)] e' ∧ Obs τ' σ' [zbh g (zt7 G q0.L I) q0.Line q0.More q0.Failed, h] ∧ Hp.le τ τ') ?_ ?_
 ·have hF := h4
  rcases z1 hF with ⟨o, hF⟩ | ⟨o, hF⟩
  ·refine zI (zt3 o) ?_
   refine zp (zt2 o) ?_
   refine zc ?_
   cases hF
   refine zg ?_
   exact ⟨rfl, _, ztZ ztM, hO, hL⟩
  refine zF (zt3 o) ?_
  refine za hO 1 [] [(10, .string p1)] [0, 1, 4, 9] ztO fun j => ?_
  obtain ⟨c6, h7, hF⟩ := zt6 hF
  refine z5 hO (zps h7) rfl fun _ σ _ _ hO h8 h9 => ?_
  have hL := hL.trans h8
  obtain ⟨rfl, rfl⟩ := h9
  have hO := zt52 hO
  refine za hO 1 [] [(12, .bool (!c6))] [0, 1, 4, 9] ztO fun j => ?_
  refine zp (zt2 o) ?_
  refine zc ?_
  cases hF
  refine zg ?_
  exact ⟨rfl, _, ztZ ztM, hO, hL⟩
 rintro e σ ⟨_, hA, hO, hL⟩
 rw [← zM _ _ hA]
 refine za hO 2 [] [(15, .pointer (some ⟨g, 3, none⟩))] [0, 1, 13] ztN fun j => ?_
 refine zx hO (i := 0) rfl (off := 3) rfl rfl rfl rfl (Nat.le_of_ble_eq_true rfl) rfl fun σ hO => ?_
 have hO := zt52 hO
 refine zc (z3 (za hO 2 [] [(16, zt1 g), (17, .string p1)] [0] ztM fun j => ?_))
 refine zt (T := Ty.str) (l := ([p1] : List ByteArray)) (cs := [.string p1]) hO rfl ⟨[.string p1], _, rfl, rfl, rfl⟩ rfl (by decide) fun _ σ b6 V hO => ?_
 have hO := zt53 hO
 obtain ⟨_, X, E, hO⟩ := V.share hO (i := 2) rfl
 have hL := hL.trans X
 have hO := zt53 hO
 obtain ⟨b7, Y, hF⟩ := zt6 hF
 have hO := hO.sel [2, 0, 1]
 refine zz (hs := [_]) hO (zbt (q0 := (⟨q0.L, q0.Line, q0.More, U⟩ : zk)) (w.le hL) E Y) rfl fun _ σ _ _ hO M Z => ?_
 have hL := hL.trans M
 have E := E.le M
 obtain ⟨b8, b9, rfl, rfl, b0⟩ := Z
 have hO := zt53 hO
 refine zc (zg ?_)
 cases hF
 have hO := hO.sel [1, 2]
 exact (hQ _ _ _ _ _ rfl hO hL ⟨_, _, rfl, rfl, b0⟩).2
theorem zoD {τ : Hp} {p0 : Int}  {rr : ByteArray} (hF : zg0 p0 = some rr) :
  Ctr Try.prog 73 #[.int .i64 p0] τ [] (fun v τ' vs' => v = .string rr ∧ vs' = []) := by
 refine zbl (args := [.int .i64 p0]) hm Try.func73 s73 rfl fun w0 σ hO Q hQ => ?_
 unfold zg0 at hF
 have hL := Hp.le.refl τ
 show wpn _ _ a73.body _ _ _
 unfold a73
 dsimp only
 refine zd hO [] [] [0] ztK fun j => ?_
 refine zd hO [] [(3, .string zs3)] [0] ztL fun j => ?_
 refine zH (zbo (fun (n : Nat) e' σ' => ∃ (g : Int) (h : ByteArray) (τ' : Hp), agr [(0, zt0 g), (3, .string h)] e' ∧ Obs τ' σ' [] ∧ Hp.le τ τ' ∧ zhc  n g h = some rr) big ⟨p0, zs3, _, ztZ ztK, hO, hL, hF⟩ ?_)
 clear hF hO hL
 rintro o e σ ⟨g, h, _, hA, hO, hL, hF⟩
 rw [← zM _ _ hA]
 cases o with
 | zero => exact nomatch (show none = some rr from hF)
 | succ o =>
 replace hF : zej (zhc  o) g h = some rr := hF
 unfold zej at hF
 refine zi (zd hO [] [(5, .bool (decide (g ≥ 10)))] [0, 3] ztM fun j => ?_)
 refine zn hF rfl (fun hF => ?_) fun hF => ?_
 ·refine zA (zbU (zH (za hO 4 [] [(9, .int .u8 (IntKind.u8.wrap (IntKind.i64.wrap (48 + (Int.tmod g 10)))))] [0, 3] ztM fun j => ?_)))
  obtain ⟨z36, w, hF⟩ := zt6 hF
  refine zt (T := Ty.u8) (l := ([z36] : List UInt8)) (cs := [.int .u8 (IntKind.u8.wrap (IntKind.i64.wrap (48 + (Int.tmod g 10))))]) hO rfl ⟨[.int .u8 (IntKind.u8.wrap (IntKind.i64.wrap (48 + (Int.tmod g 10))))], _, rfl, (u8R w), rfl⟩ rfl (by decide) fun _ σ U B hO => ?_
  have hO := zt51 hO
  refine zhm (l := ([z36] : List UInt8)) ((B.rd hO (i := 0) rfl).le (Hp.le.refl _)) rfl ?_
  refine za hO 1 [] [(12, .string h)] [0, 11] ztM fun j => ?_
  obtain ⟨t, E, hF⟩ := zt6 hF
  refine zls (znF E) ?_
  refine zd hO [] [(3, .string t)] [0] ztL fun j => ?_
  refine z3 (zd hO [] [(0, zt0 (IntKind.i64.wrap (Int.tdiv g 10)))] [3] ztL fun j => ?_)
  refine zg (zC (zj (zg (zj ?_))))
  have hO := hO.sel []
  exact ⟨o, Nat.lt_succ_self _, (IntKind.i64.wrap (Int.tdiv g 10)), t, _, ztZ ztK, hO, hL, hF⟩
 refine zbs (zbp (zbr (zj (za hO 3 [] [(18, .int .u8 (IntKind.u8.wrap (IntKind.i64.wrap (48 + g))))] [3] ztL fun j => ?_))))
 obtain ⟨z43, z, hF⟩ := zt6 hF
 refine zt (T := Ty.u8) (l := ([z43] : List UInt8)) (cs := [.int .u8 (IntKind.u8.wrap (IntKind.i64.wrap (48 + g)))]) hO rfl ⟨[.int .u8 (IntKind.u8.wrap (IntKind.i64.wrap (48 + g)))], _, rfl, (u8R z), rfl⟩ rfl (by decide) fun _ σ V G hO => ?_
 have hO := zt51 hO
 refine zhm (l := ([z43] : List UInt8)) ((G.rd hO (i := 0) rfl).le (Hp.le.refl _)) rfl ?_
 refine za hO 1 [] [(21, .string h)] [20] ztL fun j => ?_
 obtain ⟨I, M, hF⟩ := zt6 hF
 refine zls (znF M) ?_
 refine zU hO [] [(2, .string I)] ztK fun j => ?_
 refine z9 ?_
 cases hF
 have hO := hO.sel []
 exact hQ _ _ _ _ _ rfl hO hL ⟨rfl, rfl⟩
theorem zm1 {τ : Hp} {q0 : zk} {g : Nat} {h : Value} {o : Ob} {p1 : Int} (t : ze zm 79 τ h q0.L o) {rr : zk} (hF : zfU q0 p1 = some rr) :
  Ctr Try.prog 59 #[.pointer (some ⟨g, 0, none⟩), .int .i64 p1] τ [zbh g h q0.Line q0.More q0.Failed, o] (fun v τ' vs' => ∃ (w : Value) (z : Ob), v = .tuple #[] ∧ vs' = [zbh g w rr.Line rr.More rr.Failed, z] ∧ ze zm 79 τ' w rr.L z) := by
 obtain ⟨B, E, rfl, -⟩ := t.form
 refine zfB (args := [.pointer (some ⟨g, 0, none⟩), .int .i64 p1]) hm Try.func59 s59 rfl fun w0 σ hO Q hQ => ?_
 unfold zfU at hF
 have hL := Hp.le.refl τ
 show wpn _ _ a59.body _ _ _
 unfold a59
 dsimp only
 refine za hO 10 [0] [(12, .bool (q0.Failed || (decide (p1 < 0)))), (14, .pointer (some ⟨g, 3, none⟩))] [0, 1] (And.intro (And.intro rfl rfl) (And.intro (And.intro rfl rfl) (fun _ => ztZ ztM))) fun j => ?_
 refine zx hO (i := 0) rfl (off := 3) rfl rfl rfl rfl (Nat.le_of_ble_eq_true rfl) rfl fun σ hO => ?_
 have hO := zt52 hO
 refine zc (zfO (za hO 12 [0, 0] [(15, zt1 g), (18, zt1 g), (19, zt7 B q0.L E), (21, zt0 (zcy p1 0)), (23, zt0 p1), (26, .pointer (some ⟨g, 1, none⟩)), (27, zt0 q0.Line)] [0] (And.intro (And.intro rfl rfl) (And.intro (And.intro rfl rfl) ztR)) fun j => ?_))
 refine zcj ?_
 obtain ⟨G, V, hF⟩ := zt6 hF
 refine z5 hO (zoD V) rfl fun _ σ _ _ hO X Y => ?_
 have hL := hL.trans X
 obtain ⟨rfl, rfl⟩ := Y
 have hO := zt52 hO
 refine zc (zcg ⟨(zb1 rfl (hO.val (i := 0) (off := 1) (agg := false) (n := 1) rfl rfl) rfl), (zb1 rfl (hO.val (i := 0) (off := 0) (agg := false) (n := 1) rfl rfl) rfl), trivial⟩ ?_)
 refine za hO 1 [] [(28, .agg #[(.int .u8 2), (.string G), (.int .i64 p1), (.int .i64 q0.Line)])] [0, 15, 18, 19] ztO fun j => ?_
 refine zcj (zt (T := zm) (l := ([(⟨(2 : UInt8), G, p1, q0.Line⟩ : zl)] : List zl)) (cs := [.int .u8 2, .string G, .int .i64 p1, .int .i64 q0.Line]) hO rfl ⟨[.int .u8 2, .string G, .int .i64 p1, .int .i64 q0.Line], _, rfl, rfl, rfl⟩ rfl (by decide) fun _ σ o9 I hO => ?_)
 obtain ⟨A7, c8, rfl, -⟩ := I.form
 have hO := zt53 hO
 refine zc (zcg ⟨(zb1 rfl (hO.val (i := 0) (off := 0) (agg := false) (n := 1) rfl rfl) rfl), trivial⟩ ?_)
 obtain ⟨_, U, hF⟩ := zt6 hF
 refine zho (T := zm) znw hO (t.le hL) (i := 1) rfl rfl rfl (I.rd hO (i := 2) rfl) U (by decide) fun _ σ Z M hO => ?_
 obtain ⟨b0, b1, rfl, -⟩ := M.form
 have hO := zt53 hO
 refine za hO 2 [] [(32, zt1 g)] [0, 30] ztM fun j => ?_
 refine zx hO (i := 0) rfl (off := 0) rfl rfl rfl rfl (Nat.le_of_ble_eq_true rfl) rfl fun σ hO => ?_
 have hO := zt53 hO
 refine zc (zg ?_)
 cases hF
 have hO := hO.sel [0, 1]
 exact (hQ _ _ _ _ _ rfl hO hL ⟨_, _, rfl, rfl, M⟩).2
theorem zkn {τ : Hp} {q0 : zk} {g : Nat} {b7 : Value} {t : Ob} {p1 : zR} (h : ze zm 79 τ b7 q0.L t) {rr : zk} (hF : zfq q0 p1 = some rr) :
  Ctr Try.prog 34 #[.pointer (some ⟨g, 0, none⟩), .agg #[.int .u8 p1.Kind.toNat, .int .i64 p1.N, .string p1.Name]] τ [zbh g b7 q0.Line q0.More q0.Failed, t] (fun v τ' vs' => ∃ (b8 : Value) (b9 : Ob), v = .tuple #[] ∧ vs' = [zbh g b8 rr.Line rr.More rr.Failed, b9] ∧ ze zm 79 τ' b8 rr.L b9) := by
 obtain ⟨d4, d5, rfl, -⟩ := h.form
 refine zfB (args := [.pointer (some ⟨g, 0, none⟩), .agg #[.int .u8 p1.Kind.toNat, .int .i64 p1.N, .string p1.Name]]) hm Try.func34 s34 rfl fun w0 σ hO Q hQ => ?_
 unfold zfq at hF
 have hL := Hp.le.refl τ
 show wpn _ _ a34.body _ _ _
 unfold a34
 dsimp only
 refine zct (n := 3) hO rfl rfl fun b3 σ hO => ?_
 have hO := zt53 hO
 refine zc (zd hO [2, 2] [(4, .bool ((p1.N == 0) && (zV p1.Name zs3)))] [0, 3] (And.intro (And.intro rfl rfl) (And.intro (And.intro rfl rfl) (And.intro (And.intro rfl rfl) (fun _ => ztZ ztL)))) fun j => ?_)
 refine zi (zd hO [2] [(14, .int .u8 (p1.Kind.toNat : Int))] [0, 3, 4] (And.intro (And.intro rfl rfl) ztN) fun j => ?_)
 refine zfo (fun e' σ' => ∃ (M : Option Addr) (U : Nat) (V : Ob) (o : List zl) (X Y : Int) (w z : Bool) (τ' : Hp), agr [(0, zt1 g), (4, .bool z)] e' ∧ Obs τ' σ' [zbh g (zt7 M o U) X Y w, V] ∧ Hp.le τ τ' ∧ ze zm 79 τ' (zt7 M o U) o V ∧ zer o X Y w z = some rr) ?_ ?_
 ·refine zd hO [] [(15, .bool ((p1.Kind.toNat : Int) == 1))] [0, 3, 4, 14] ztO fun j => ?_
  refine zbm (zn hF rfl (fun hF => ?_) fun hF => ?_)
  ·refine za hO 1 [] [(17, zt1 g)] [0, 4] ztM fun j => ?_
   refine zt (T := Ty.str) (l := ([zs6] : List ByteArray)) (cs := [.string zs6]) hO rfl ⟨[.string zs6], _, rfl, rfl, rfl⟩ rfl (by decide) fun _ σ i4 d6 hO => ?_
   have hO := zt54 hO
   obtain ⟨_, d7, Z, hO⟩ := d6.share hO (i := 3) rfl
   have hL := hL.trans d7
   have hO := zt54 hO
   obtain ⟨B, d8, hF⟩ := zt6 hF
   have hO := hO.sel [2, 3, 0, 1]
   refine zz (hs := [_, _]) hO (zbt (h.le hL) Z d8) rfl fun _ σ _ _ hO c0 d9 => ?_
   have hL := hL.trans c0
   have Z := Z.le c0
   obtain ⟨i5, f0, rfl, rfl, c1⟩ := d9
   obtain ⟨f1, f2, rfl, -⟩ := c1.form
   have hO := zt54 hO
   refine zc (zg (zC (zj ?_)))
   have hO := hO.sel [2, 3]
   exact ⟨f1, f2, f0, B.L, B.Line, B.More, B.Failed, ((p1.N == 0) && (zV p1.Name zs3)), _, ztZ ztK, hO, hL, c1, hF⟩
  refine zi (zd hO [] [(20, .bool ((p1.Kind.toNat : Int) == 2))] [0, 3, 4, 14] ztO fun j => ?_)
  refine zn hF rfl (fun hF => ?_) fun hF => ?_
  ·refine za hO 1 [] [(22, zt1 g)] [0, 4] ztM fun j => ?_
   refine zt (T := Ty.str) (l := ([ztu] : List ByteArray)) (cs := [.string ztu]) hO rfl ⟨[.string ztu], _, rfl, rfl, rfl⟩ rfl (by decide) fun _ σ i6 f3 hO => ?_
   have hO := zt54 hO
   obtain ⟨_, f4, b0, hO⟩ := f3.share hO (i := 3) rfl
   have hL := hL.trans f4
   have hO := zt54 hO
   obtain ⟨E, f5, hF⟩ := zt6 hF
   have hO := hO.sel [2, 3, 0, 1]
   refine zz (hs := [_, _]) hO (zbt (h.le hL) b0 f5) rfl fun _ σ _ _ hO c2 f6 => ?_
   have hL := hL.trans c2
   have b0 := b0.le c2
   obtain ⟨i7, f7, rfl, rfl, c3⟩ := f6
   obtain ⟨f8, f9, rfl, -⟩ := c3.form
   have hO := zt54 hO
   refine zc (zg (zC (zj ?_)))
   have hO := hO.sel [2, 3]
   exact ⟨f8, f9, f7, E.L, E.Line, E.More, E.Failed, ((p1.N == 0) && (zV p1.Name zs3)), _, ztZ ztK, hO, hL, c3, hF⟩
  refine zi (zd hO [] [(25, .bool ((p1.Kind.toNat : Int) == 3))] [0, 3, 14] ztN fun j => ?_)
  refine zn hF rfl (fun hF => ?_) fun hF => ?_
  ·refine zi (zd hO [2] [(4, .bool (zV p1.Name zs3))] [0, 3] (And.intro (And.intro rfl rfl) ztM) fun j => ?_)
   refine zi (za hO 1 [] [(30, zt1 g)] [0, 3, 4] ztN fun j => ?_)
   refine zt (T := Ty.str) (l := ([ztb] : List ByteArray)) (cs := [.string ztb]) hO rfl ⟨[.string ztb], _, rfl, rfl, rfl⟩ rfl (by decide) fun _ σ i8 g0 hO => ?_
   have hO := zt54 hO
   obtain ⟨_, g1, b1, hO⟩ := g0.share hO (i := 3) rfl
   have hL := hL.trans g1
   have hO := zt54 hO
   obtain ⟨i9, g2, hF⟩ := zt6 hF
   have hO := hO.sel [2, 3, 0, 1]
   refine zz (hs := [_, _]) hO (zbt (h.le hL) b1 g2) rfl fun _ σ _ _ hO c4 g3 => ?_
   have hL := hL.trans c4
   have b1 := b1.le c4
   obtain ⟨j0, j1, rfl, rfl, g4⟩ := g3
   have hO := zt54 hO
   refine zc (zi (za hO 3 [0] [(33, zt1 g), (35, zt0 p1.N)] [0, 4] (And.intro (And.intro rfl rfl) ztN) fun j => ?_))
   obtain ⟨j2, g5, hF⟩ := zt6 hF
   refine zz (hs := [_, _]) hO (zm1 g4 g5) rfl fun _ σ _ _ hO g6 g7 => ?_
   have hL := hL.trans g6
   obtain ⟨j3, j4, rfl, rfl, b2⟩ := g7
   have hO := zt54 hO
   refine zc (zi (zbk hO 1 [] [(0, zt1 g), (4, .bool (zV p1.Name zs3)), (37, zt1 g)] ztM fun j => ?_))
   refine zt (T := Ty.str) (l := ([ztj] : List ByteArray)) (cs := [.string ztj]) hO rfl ⟨[.string ztj], _, rfl, rfl, rfl⟩ rfl (by decide) fun _ σ j5 g8 hO => ?_
   have hO := zt55 hO
   obtain ⟨_, c5, b4, hO⟩ := g8.share hO (i := 4) rfl
   have hL := hL.trans c5
   have b2 := b2.le c5
   have hO := zt55 hO
   obtain ⟨j6, g9, hF⟩ := zt6 hF
   have hO := hO.sel [0, 1, 4, 2, 3]
   refine zz (hs := [_, _, _]) hO (zbt b2 b4 g9) rfl fun _ σ _ _ hO c6 h0 => ?_
   have hL := hL.trans c6
   have b4 := b4.le c6
   obtain ⟨j7, j8, rfl, rfl, b5⟩ := h0
   have hO := zt55 hO
   refine zc (za hO 1 [] [(40, zt1 g)] [0, 4] ztM fun j => ?_)
   refine zt (T := Ty.str) (l := ([zs6] : List ByteArray)) (cs := [.string zs6]) hO rfl ⟨[.string zs6], _, rfl, rfl, rfl⟩ rfl (by decide) fun _ σ j9 h1 hO => ?_
   have hO := zt56 hO
   obtain ⟨_, c7, b6, hO⟩ := h1.share hO (i := 5) rfl
   have hL := hL.trans c7
   have b5 := b5.le c7
   have hO := zt56 hO
   obtain ⟨G, h2, hF⟩ := zt6 hF
   have hO := hO.sel [0, 1, 2, 5, 3, 4]
   refine zz (hs := [_, _, _, _]) hO (zbt b5 b6 h2) rfl fun _ σ _ _ hO c8 h3 => ?_
   have hL := hL.trans c8
   have b6 := b6.le c8
   obtain ⟨k0, h4, rfl, rfl, c9⟩ := h3
   obtain ⟨h5, h6, rfl, -⟩ := c9.form
   have hO := zt56 hO
   refine zc (zg (zC (zj ?_)))
   have hO := hO.sel [4, 5]
   exact ⟨h5, h6, h4, G.L, G.Line, G.More, G.Failed, (zV p1.Name zs3), _, ztZ ztK, hO, hL, c9, hF⟩
  refine zi (zd hO [] [(43, .bool ((p1.Kind.toNat : Int) == 4))] [0, 3] ztM fun j => ?_)
  refine zn hF rfl (fun hF => ?_) fun hF => ?_
  ·refine zi (zd hO [2] [(4, .bool (p1.N == 0))] [0, 3] (And.intro (And.intro rfl rfl) ztM) fun j => ?_)
   refine za hO 3 [2] [(48, zt1 g), (50, .string p1.Name)] [0, 4] (And.intro (And.intro rfl rfl) ztN) fun j => ?_
   obtain ⟨I, h7, hF⟩ := zt6 hF
   have hO := hO.sel [2, 0, 1]
   refine zz (hs := [_]) hO (zcX (h.le hL) h7) rfl fun _ σ _ _ hO h8 h9 => ?_
   have hL := hL.trans h8
   obtain ⟨k1, i0, rfl, rfl, d0⟩ := h9
   obtain ⟨i1, i2, rfl, -⟩ := d0.form
   have hO := zt53 hO
   refine zc (zg (zC (zj ?_)))
   have hO := hO.sel [1, 2]
   exact ⟨i1, i2, i0, I.L, I.Line, I.More, I.Failed, (p1.N == 0), _, ztZ ztK, hO, hL, d0, hF⟩
  refine zd hO [] [(4, .bool false)] [0] ztL fun j => ?_
  refine zg (zC (zj ?_))
  have hO := hO.sel [0, 1]
  exact ⟨d4, d5, t, q0.L, q0.Line, q0.More, q0.Failed, false, _, ztZ ztK, hO, hL, (h.le hL), hF⟩
 rintro e σ ⟨M, U, V, o, X, Y, w, z, _, hA, hO, hL, i3, hF⟩
 rw [← zM _ _ hA]
 unfold zer at hF
 refine z3 (za hO 10 [0] [(60, .bool (w || (!z))), (62, .pointer (some ⟨g, 3, none⟩))] [0] (And.intro (And.intro rfl rfl) (And.intro (And.intro rfl rfl) (fun _ => ztZ ztL))) fun j => ?_)
 refine zx hO (i := 0) rfl (off := 3) rfl rfl rfl rfl (Nat.le_of_ble_eq_true rfl) rfl fun σ hO => ?_
 have hO := zt52 hO
 refine zc (zg ?_)
 cases hF
 exact (hQ _ _ _ _ _ rfl hO hL ⟨_, _, rfl, rfl, i3⟩).2
end Go.Proofs.Ytnhboaaikehpoaa
