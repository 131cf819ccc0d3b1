import Derived.Test.YtnhboaaikehpoaaF
import Derived.Test.YtnhboaaikehpoaaM00
import Derived.Test.YtnhboaaikehpoaaM01
namespace Go.Proofs.Ytnhboaaikehpoaa
open Go.Ab Go.RowKit
set_option linter.unusedVariables false
set_option linter.unusedSimpArgs false
set_option maxRecDepth 10000
set_option maxHeartbeats 1000000
theorem zoc {τ : Hp} {z : Value} {p0 : (List ByteArray)} {p1 : ByteArray} (B : RdT Ty.str τ z p0) {rr : Int} (hF : zi0 p0 p1 = some rr) :
  Ctr Try.prog 82 #[z, .string p1] τ [] (fun v τ' vs' => v = .int .i64 rr ∧ vs' = []) := by
 obtain ⟨t, w, rfl, -⟩ := B.form
 refine zbl (args := [.slice t p0.length w, .string p1]) hm Try.func82 s82 rfl fun w0 σ hO Q hQ => ?_
 unfold zi0 at hF
 have hL := Hp.le.refl τ
 show wpn _ _ a82.body _ _ _
 unfold a82
 dsimp only
 refine zd hO [] [] [0, 1] ztL fun j => ?_
 refine zi (zd hO [] [(7, zt0 (p0.length : Int)), (8, zt0 0)] [0, 1] ztN fun j => ?_)
 refine zH (zbo (fun (n : Nat) e' σ' => ∃ (g : Int) (τ' : Hp), agr [(0, zt7 t p0 w), (1, .string p1), (7, zt0 (p0.length : Int)), (8, zt0 g)] e' ∧ Obs τ' σ' [] ∧ Hp.le τ τ' ∧ zgi p0 p1 n g = some rr) big ⟨0, _, ztZ ztM, hO, hL, hF⟩ ?_)
 clear hF hO hL
 rintro h e σ ⟨g, _, hA, hO, hL, hF⟩
 rw [← zM _ _ hA]
 cases h with
 | zero => exact nomatch (show none = some rr from hF)
 | succ h =>
 replace hF : zhs (zgi p0 p1 h) p0 p1 g = some rr := hF
 unfold zhs at hF
 refine zd hO [] [(9, .bool (decide (g < (p0.length : Int))))] [0, 1, 7, 8] ztO fun j => ?_
 refine zn hF rfl (fun hF => ?_) fun hF => ?_
 ·refine zA (zH (zd hO [] [(5, zt0 g)] [0, 1, 7, 8] ztO fun j => ?_))
  refine za hO 3 [] [(11, .string p1), (12, zt7 t p0 w), (13, zt0 g)] [0, 1, 5, 7, 8] ztR fun j => ?_
  obtain ⟨o, E, hF⟩ := zt6 hF
  refine zN (T := Ty.str) (B.le hL) hO.base rfl rfl E (by decide) fun a22 _ G I => ?_
  obtain rfl : _ = ([.string o] : List Value) := G
  refine zG rfl (I.le hO.base).fst ?_
  refine zd hO [] [(16, .bool (zV p1 o))] [0, 1, 5, 7, 8] ztP fun j => ?_
  refine zbm (zn hF rfl (fun hF => ?_) fun hF => ?_)
  ·refine zi (zU hO [] [(4, zt0 g)] ztK fun j => ?_)
   refine zbi (z6 (zQ (zQ (z6 (zQ ?_)))))
   cases hF
   exact hQ _ _ _ _ _ rfl hO hL ⟨rfl, rfl⟩
  refine zA (zg (zC (zj (z3 (zd hO [] [(8, zt0 (IntKind.i64.wrap (g + 1)))] [0, 1, 7] ztN fun j => ?_)))))
  refine zg (zj ?_)
  exact ⟨h, Nat.lt_succ_self _, (IntKind.i64.wrap (g + 1)), _, ztZ ztM, hO, hL, hF⟩
 refine zbs (zbp (zbr (zj (zU hO [] [(4, zt0 (-1))] ztK fun j => ?_))))
 refine z9 ?_
 cases hF
 exact hQ _ _ _ _ _ rfl hO hL ⟨rfl, rfl⟩
theorem zmy {τ : Hp} {g : Value} {p0 : (List ByteArray)} {p1 : ByteArray} (h : RdT Ty.str τ g p0) {rr : Bool} (hF : zfY p0 p1 = some rr) :
  Ctr Try.prog 77 #[g, .string p1] τ [] (fun v τ' vs' => v = .bool rr ∧ vs' = []) := by
 obtain ⟨o, t, rfl, -⟩ := h.form
 refine zbl (args := [.slice o p0.length t, .string p1]) hm Try.func77 s77 rfl fun w0 σ hO Q hQ => ?_
 unfold zfY at hF
 have hL := Hp.le.refl τ
 show wpn _ _ a77.body _ _ _
 unfold a77
 dsimp only
 refine zd hO [] [] [0, 1] ztL fun j => ?_
 refine zbk hO 2 [] [(5, zt7 o p0 t), (6, .string p1)] ztL fun j => ?_
 obtain ⟨w, z, hF⟩ := zt6 hF
 refine z5 hO (zoc (h.le hL) z) rfl fun _ σ _ _ hO B E => ?_
 have hL := hL.trans B
 obtain ⟨rfl, rfl⟩ := E
 have hO : Obs _ _ [] := hO
 refine zU hO [] [(4, .bool (decide (w ≥ 0)))] ztK fun j => ?_
 refine z9 ?_
 cases hF
 exact hQ _ _ _ _ _ rfl hO hL ⟨rfl, rfl⟩
theorem zqU {τ : Hp} {q0 : zbe} {g : Nat} {o : Value} {p1 : Int} {Z : Value} {G : (List ByteArray)} (t : RdT zm τ o q0.tokens) (r2 : RdT Ty.str τ Z G) {rr : Bool} (hF : zhJ q0 p1 G = some rr) :
  Ctr Try.prog 62 #[.pointer (some ⟨g, 0, none⟩), .int .u8 p1, Z] τ [some (g, ⟨[o, .int .i64 q0.at_], 58, 2, true⟩)] (fun v τ' vs' => v = .bool rr ∧ vs' = [some (g, ⟨[o, .int .i64 q0.at_], 58, 2, true⟩)]) := by
 obtain ⟨w, z, rfl, -⟩ := t.form
 obtain ⟨X, Y, rfl, -⟩ := r2.form
 refine zbl (args := [.pointer (some ⟨g, 0, none⟩), .int .u8 p1, .slice X G.length Y]) hm Try.func62 s62 rfl fun w0 σ hO Q hQ => ?_
 unfold zhJ at hF
 have hL := Hp.le.refl τ
 show wpn _ _ a62.body _ _ _
 unfold a62
 dsimp only
 refine zd hO [] [] [0, 1, 2] ztM fun j => ?_
 refine zi (zb9 (za hO 11 [0, 0] [(17, .bool (decide (q0.at_ ≥ (q0.tokens.length : Int))))] [0, 1, 2] (And.intro (And.intro rfl rfl) (And.intro (And.intro rfl rfl) ztN)) fun j => ?_))
 obtain ⟨c4, h5, hF⟩ := zt6 hF
 refine zbQ 2 [(31, .bool c4), (0, zt1 g), (2, zt7 X G Y)] (fun Q hQ => ?_) fun j => ?_
 ·have hF := h5
  rcases z1 hF with ⟨B, hF⟩ | ⟨B, hF⟩
  ·refine zI (zt3 B) ?_
   refine zp (zt2 B) ?_
   refine zc ?_
   cases hF
   refine zg ?_
   exact hQ _ ztM
  refine zF (zt3 B) ?_
  refine za hO 8 [0, 0] [(21, zt7 w q0.tokens z), (25, zt0 q0.at_)] [0, 1, 2, 17] (And.intro (And.intro rfl rfl) (And.intro (And.intro rfl rfl) ztP)) fun j => ?_
  obtain ⟨I, g8, hF⟩ := zt6 hF
  refine zN (T := zm) (t.le hL) hO.base rfl rfl g8 (by decide) fun a9 _ b1 b2 => ?_
  obtain rfl : _ = ([.int .u8 I.Kind.toNat, .string I.Text, .int .i64 I.Num, .int .i64 I.Line] : List Value) := b1
  refine za hO 1 [] [(27, .pointer (some a9))] [0, 1, 2, 17] ztO fun j => ?_
  refine zG rfl (b2.le hO.base).fst ?_
  refine za hO 2 [] [(30, .bool ((I.Kind.toNat : Int) != p1))] [0, 2, 17] ztN fun j => ?_
  refine zp (zt2 B) ?_
  refine zc ?_
  cases hF
  refine zg ?_
  exact hQ _ ztM
 refine zc (zn hF rfl (fun hF => ?_) fun hF => ?_)
 ·refine zi (zd hO [] [(6, .bool false)] [0] ztL fun j => ?_)
  refine zbi ?_
  cases hF
  exact hQ _ _ _ _ _ rfl hO hL ⟨rfl, rfl⟩
 refine zA (zb9 (za hO 4 [] [(35, .bool ((G.length : Int) == 0))] [0, 2] ztM fun j => ?_))
 obtain ⟨U, b3, hF⟩ := zt6 hF
 refine zb2 2 (fun e' σ' => ∃ (τ' : Hp), agr [(49, .bool U), (0, zt1 g)] e' ∧ Obs τ' σ' [some (g, ⟨[zt7 w q0.tokens z, .int .i64 q0.at_], 58, 2, true⟩)] ∧ Hp.le τ τ') ?_ ?_
 ·have hF := b3
  rcases z1 hF with ⟨h, hF⟩ | ⟨h, hF⟩
  ·refine zI (zt3 h) ?_
   refine zp (zt2 h) ?_
   refine zc ?_
   cases hF
   refine zg ?_
   exact ⟨rfl, _, ztZ ztK, hO, hL⟩
  refine zF (zt3 h) ?_
  refine za hO 9 [0, 0] [(36, zt7 X G Y), (40, zt7 w q0.tokens z), (44, zt0 q0.at_)] [0, 35] (And.intro (And.intro rfl rfl) (And.intro (And.intro rfl rfl) ztO)) fun j => ?_
  obtain ⟨E, b4, hF⟩ := zt6 hF
  refine zN (T := zm) (t.le hL) hO.base rfl rfl b4 (by decide) fun a18 _ b5 M => ?_
  obtain rfl : _ = ([.int .u8 E.Kind.toNat, .string E.Text, .int .i64 E.Num, .int .i64 E.Line] : List Value) := b5
  refine za hO 1 [] [(46, .pointer (some (a18.add 1)))] [0, 35, 36] ztN fun j => ?_
  refine zG rfl ((M.le hO.base).one 1 rfl) ?_
  obtain ⟨c1, b6, hF⟩ := zt6 hF
  refine z5 hO (zmy (r2.le hL) b6) rfl fun _ σ _ _ hO V b7 => ?_
  have hL := hL.trans V
  have M := M.le V
  obtain ⟨rfl, rfl⟩ := b7
  have hO := zt51 hO
  refine zp (zt2 h) ?_
  refine zc ?_
  cases hF
  refine zg ?_
  exact ⟨rfl, _, ztZ ztK, hO, hL⟩
 rintro e σ ⟨_, hA, hO, hL⟩
 rw [← zM _ _ hA]
 refine zd hO [] [(6, .bool U)] [0] ztL fun j => ?_
 refine z9 ?_
 cases hF
 exact hQ _ _ _ _ _ rfl hO hL ⟨rfl, rfl⟩
theorem zdS {τ : Hp} {q0 : zf} {o : Nat} {w z : Value} {g : Ob} {B : Value} {h : Ob} {p1 : Int} {v2 : Value} {V : (List ByteArray)} (E : RdT zm τ w q0.cursor.tokens) (Z : ze zs 71 τ z q0.prog.Structs g) (b0 : ze zr 50 τ B q0.prog.Funcs h) (r2 : RdT Ty.str τ v2 V) {rr : Bool} (hF : zcF q0 p1 V = some rr) :
  Ctr Try.prog 62 #[.pointer (some ⟨o, 0, none⟩), .int .u8 p1, v2] τ [zE o w q0.cursor.at_ z B, g, h] (fun v τ' vs' => v = .bool rr ∧ vs' = [zE o w q0.cursor.at_ z B, g, h]) := by
 obtain ⟨G, I, rfl, -⟩ := E.form
 obtain ⟨b1, b2, rfl, -⟩ := Z.form
 obtain ⟨b3, b4, rfl, -⟩ := b0.form
 obtain ⟨A2, c2, rfl, -⟩ := r2.form
 refine zbl (args := [.pointer (some ⟨o, 0, none⟩), .int .u8 p1, .slice A2 V.length c2]) hm Try.func62 s62 rfl fun w0 σ hO Q hQ => ?_
 unfold zcF at hF
 have hL := Hp.le.refl τ
 show wpn _ _ a62.body _ _ _
 unfold a62
 dsimp only
 refine zd hO [] [] [0, 1, 2] ztM fun j => ?_
 refine zi (zb9 (za hO 11 [0, 0] [(17, .bool (decide (q0.cursor.at_ ≥ (q0.cursor.tokens.length : Int))))] [0, 1, 2] (And.intro (And.intro rfl rfl) (And.intro (And.intro rfl rfl) ztN)) fun j => ?_))
 obtain ⟨c4, h5, hF⟩ := zt6 hF
 refine zbQ 2 [(31, .bool c4), (0, zt1 o), (2, zt7 A2 V c2)] (fun Q hQ => ?_) fun j => ?_
 ·have hF := h5
  rcases z1 hF with ⟨M, hF⟩ | ⟨M, hF⟩
  ·refine zI (zt3 M) ?_
   refine zp (zt2 M) ?_
   refine zc ?_
   cases hF
   refine zg ?_
   exact hQ _ ztM
  refine zF (zt3 M) ?_
  refine za hO 8 [0, 0] [(21, zt7 G q0.cursor.tokens I), (25, zt0 q0.cursor.at_)] [0, 1, 2, 17] (And.intro (And.intro rfl rfl) (And.intro (And.intro rfl rfl) ztP)) fun j => ?_
  obtain ⟨X, g8, hF⟩ := zt6 hF
  refine zN (T := zm) (E.le hL) hO.base rfl rfl g8 (by decide) fun a9 _ c1 c3 => ?_
  obtain rfl : _ = ([.int .u8 X.Kind.toNat, .string X.Text, .int .i64 X.Num, .int .i64 X.Line] : List Value) := c1
  refine za hO 1 [] [(27, .pointer (some a9))] [0, 1, 2, 17] ztO fun j => ?_
  refine zG rfl (c3.le hO.base).fst ?_
  refine za hO 2 [] [(30, .bool ((X.Kind.toNat : Int) != p1))] [0, 2, 17] ztN fun j => ?_
  refine zp (zt2 M) ?_
  refine zc ?_
  cases hF
  refine zg ?_
  exact hQ _ ztM
 refine zc (zn hF rfl (fun hF => ?_) fun hF => ?_)
 ·refine zi (zd hO [] [(6, .bool false)] [0] ztL fun j => ?_)
  refine zbi ?_
  cases hF
  exact hQ _ _ _ _ _ rfl hO hL ⟨rfl, rfl⟩
 refine zA (zb9 (za hO 4 [] [(35, .bool ((V.length : Int) == 0))] [0, 2] ztM fun j => ?_))
 obtain ⟨b5, c5, hF⟩ := zt6 hF
 refine zb2 2 (fun e' σ' => ∃ (τ' : Hp), agr [(49, .bool b5), (0, zt1 o)] e' ∧ Obs τ' σ' [zE o (zt7 G q0.cursor.tokens I) q0.cursor.at_ (zt7 b1 q0.prog.Structs b2) (zt7 b3 q0.prog.Funcs b4), g, h] ∧ Hp.le τ τ') ?_ ?_
 ·have hF := c5
  rcases z1 hF with ⟨t, hF⟩ | ⟨t, hF⟩
  ·refine zI (zt3 t) ?_
   refine zp (zt2 t) ?_
   refine zc ?_
   cases hF
   refine zg ?_
   exact ⟨rfl, _, ztZ ztK, hO, hL⟩
  refine zF (zt3 t) ?_
  refine za hO 9 [0, 0] [(36, zt7 A2 V c2), (40, zt7 G q0.cursor.tokens I), (44, zt0 q0.cursor.at_)] [0, 35] (And.intro (And.intro rfl rfl) (And.intro (And.intro rfl rfl) ztO)) fun j => ?_
  obtain ⟨U, c6, hF⟩ := zt6 hF
  refine zN (T := zm) (E.le hL) hO.base rfl rfl c6 (by decide) fun a18 _ c7 Y => ?_
  obtain rfl : _ = ([.int .u8 U.Kind.toNat, .string U.Text, .int .i64 U.Num, .int .i64 U.Line] : List Value) := c7
  refine za hO 1 [] [(46, .pointer (some (a18.add 1)))] [0, 35, 36] ztN fun j => ?_
  refine zG rfl ((Y.le hO.base).one 1 rfl) ?_
  obtain ⟨d6, c8, hF⟩ := zt6 hF
  refine z5 hO (zmy (r2.le hL) c8) rfl fun _ σ _ _ hO b6 c9 => ?_
  have hL := hL.trans b6
  have Y := Y.le b6
  obtain ⟨rfl, rfl⟩ := c9
  have hO := zt53 hO
  refine zp (zt2 t) ?_
  refine zc ?_
  cases hF
  refine zg ?_
  exact ⟨rfl, _, ztZ ztK, hO, hL⟩
 rintro e σ ⟨_, hA, hO, hL⟩
 rw [← zM _ _ hA]
 refine zd hO [] [(6, .bool b5)] [0] ztL fun j => ?_
 refine z9 ?_
 cases hF
 exact hQ _ _ _ _ _ rfl hO hL ⟨rfl, rfl⟩
theorem zco {τ : Hp} {q0 : zf} {g : Nat} {X Y : Value} {I : Ob} {Z : Value} {M : Ob} {p1 : Int} {v2 : Value} {p2 : (List ByteArray)} (h : RdT zm τ X q0.cursor.tokens) (o : ze zs 71 τ Y q0.prog.Structs I) (t : ze zr 50 τ Z q0.prog.Funcs M) (r2 : RdT Ty.str τ v2 p2) {rr : Except (Value × zf) (zl × zf)} (hF : zc0 q0 p1 p2 = some rr) :
  zbK Try.prog 64 #[.pointer (some ⟨g, 0, none⟩), .int .u8 p1, v2] τ [zE g X q0.cursor.at_ Y Z, I, M] (fun v τ' vs' => match (generalizing := false) rr with | .ok rr => ∃ (w z : Value) (B : Ob) (E : Value) (G : Ob), v = .agg #[.int .u8 rr.1.Kind.toNat, .string rr.1.Text, .int .i64 rr.1.Num, .int .i64 rr.1.Line] ∧ vs' = [zE g w rr.2.cursor.at_ z E, B, G] ∧ RdT zm τ' w rr.2.cursor.tokens ∧ ze zs 71 τ' z rr.2.prog.Structs B ∧ ze zr 50 τ' E rr.2.prog.Funcs G | .error _ => False) (fun ch τ' vs' => match (generalizing := false) rr with | .ok _ => False | .error ee => ∃ (w z : Value) (B : Ob) (E : Value) (G : Ob), ch = [{ v := ee.1, recovered := false }] ∧ vs' = [zE g w ee.2.cursor.at_ z E, B, G] ∧ RdT zm τ' w ee.2.cursor.tokens ∧ ze zs 71 τ' z ee.2.prog.Structs B ∧ ze zr 50 τ' E ee.2.prog.Funcs G) := by
 obtain ⟨b0, b1, rfl, -⟩ := h.form
 obtain ⟨c1, c3, rfl, -⟩ := o.form
 obtain ⟨c4, c6, rfl, -⟩ := t.form
 obtain ⟨A2, c2, rfl, -⟩ := r2.form
 refine zcA (args := [.pointer (some ⟨g, 0, none⟩), .int .u8 p1, .slice A2 p2.length c2]) hm Try.func64 s64 rfl fun w0 σ hP hO Q hQ => ?_
 unfold zc0 at hF
 have hL := Hp.le.refl τ
 show wpn _ _ a64.body _ _ _
 unfold a64
 dsimp only
 refine zbC hO fun b4 σ hO => ?_
 have hO := zt54 hO
 refine zc (zi (za hO 3 [] [(7, zt1 g), (8, .int .u8 p1), (9, zt7 A2 p2 c2)] [0, 6] ztO fun j => ?_))
 obtain ⟨c5, h6, hF⟩ := zt6 hF
 have hO := hO.sel [3, 0, 1, 2]
 refine zz (hs := [_]) hO (zdS (h.le hL) (o.le hL) (t.le hL) (r2.le hL) h6) rfl fun _ σ _ _ hO h7 h8 => ?_
 have hL := hL.trans h7
 obtain ⟨rfl, rfl⟩ := h8
 have hO := zt54 hO
 have hO := hO.sel [1, 2, 3, 0]
 have hO := zt54 hO
 refine zd hO [] [(11, .bool (!c5))] [0, 6] ztM fun j => ?_
 refine zcO (fun e' σ' => ∃ (b3 : Option Addr) (b5 : Nat) (b6 : Ob) (U : List zq) (b7 : Option Addr) (b8 : Nat) (b9 : Ob) (V : List zo) (τ' : Hp), agr [(0, zt1 g), (6, zt1 b4)] e' ∧ Obs τ' σ' [zE g (zt7 b0 q0.cursor.tokens b1) q0.cursor.at_ (zt7 b3 U b5) (zt7 b7 V b8), b6, b9, ze8 b4 0 zs3 0 0] ∧ Hp.le τ τ' ∧ ze zs 71 τ' (zt7 b3 U b5) U b6 ∧ ze zr 50 τ' (zt7 b7 V b8) V b9 ∧ ziE q0 U V = some rr) ?_ ?_
 ·refine zbm (zn hF rfl (fun hF => ?_) fun hF => ?_)
  ·refine za hO 2 [] [(13, .iface 92 (.agg #[]))] [0, 6] ztM fun j => ?_
   refine zoA rfl ?_
   cases hF
   have hO := hO.sel [0, 1, 2]
   exact hP _ _ _ _ hO hL ⟨_, _, _, _, _, rfl, rfl, (h.le hL), (o.le hL), (t.le hL)⟩
  refine zA (zg (zj ?_))
  exact ⟨c1, c3, I, q0.prog.Structs, c4, c6, M, q0.prog.Funcs, _, ztZ ztK, hO, hL, (o.le hL), (t.le hL), hF⟩
 rintro e σ ⟨b3, b5, b6, U, b7, b8, b9, V, _, hA, hO, hL, d5, d6, hF⟩
 rw [← zM _ _ hA]
 unfold ziE at hF
 refine za hO 7 [0] [(18, zt0 (IntKind.i64.wrap (q0.cursor.at_ + 1))), (20, .pointer (some ⟨g, 1, none⟩))] [0, 6] (And.intro (And.intro rfl rfl) ztN) fun j => ?_
 refine zx hO (i := 0) rfl (off := 1) rfl rfl rfl rfl (Nat.le_of_ble_eq_true rfl) rfl fun σ hO => ?_
 have hO := zt54 hO
 refine zc (zb9 (za hO 9 [0, 0] [(24, zt7 b0 q0.cursor.tokens b1), (29, zt0 (IntKind.i64.wrap ((IntKind.i64.wrap (q0.cursor.at_ + 1)) - 1)))] [0, 6] (And.intro (And.intro rfl rfl) (And.intro (And.intro rfl rfl) ztN)) fun j => ?_))
 obtain ⟨b2, d7, hF⟩ := zt6 hF
 refine zN (T := zm) (h.le hL) hO.base rfl rfl d7 (by decide) fun a22 _ d8 d9 => ?_
 obtain rfl : _ = ([.int .u8 b2.Kind.toNat, .string b2.Text, .int .i64 b2.Num, .int .i64 b2.Line] : List Value) := d8
 refine zG rfl ((d9.le hO.base).all rfl) ?_
 refine zx hO (i := 3) rfl (off := 0) rfl rfl rfl rfl (Nat.le_of_ble_eq_true rfl) rfl fun σ hO => ?_
 have hO := zt54 hO
 refine zc (z9 ?_)
 cases hF
 have f0 := hO.val (i := 3) rfl (off := 0) (agg := true) (n := 4) rfl
 have hO := hO.sel [0, 1, 2]
 refine (hQ _ _ _ _ _ (zbE rfl (f0) rfl) hO hL ?_).1
 exact ⟨_, _, _, _, _, rfl, rfl, (h.le hL), d5, d6⟩
theorem zbV {τ : Hp} {q0 : zf} {z : Nat} {B E : Value} {G : Ob} {I : Value} {M : Ob} (U : RdT zm τ B q0.cursor.tokens) (V : ze zs 71 τ E q0.prog.Structs G) (X : ze zr 50 τ I q0.prog.Funcs M) {rr : Except (Value × zf) (ByteArray × zf)} (hF : zcM q0 = some rr) :
  zbK Try.prog 63 #[.pointer (some ⟨z, 0, none⟩)] τ [zE z B q0.cursor.at_ E I, G, M] (fun v τ' vs' => match (generalizing := false) rr with | .ok rr => ∃ (g h : Value) (o : Ob) (t : Value) (w : Ob), v = .string rr.1 ∧ vs' = [zE z g rr.2.cursor.at_ h t, o, w] ∧ RdT zm τ' g rr.2.cursor.tokens ∧ ze zs 71 τ' h rr.2.prog.Structs o ∧ ze zr 50 τ' t rr.2.prog.Funcs w | .error _ => False) (fun ch τ' vs' => match (generalizing := false) rr with | .ok _ => False | .error ee => ∃ (g h : Value) (o : Ob) (t : Value) (w : Ob), ch = [{ v := ee.1, recovered := false }] ∧ vs' = [zE z g ee.2.cursor.at_ h t, o, w] ∧ RdT zm τ' g ee.2.cursor.tokens ∧ ze zs 71 τ' h ee.2.prog.Structs o ∧ ze zr 50 τ' t ee.2.prog.Funcs w) := by
 refine zcA (args := [.pointer (some ⟨z, 0, none⟩)]) hm Try.func63 s63 rfl fun w0 σ hP hO Q hQ => ?_
 unfold zcM at hF
 have hL := Hp.le.refl τ
 show wpn _ _ a63.body _ _ _
 unfold a63
 dsimp only
 refine zd hO [] [] [0] ztK fun j => ?_
 refine za hO 1 [] [(3, zt1 z)] [0] ztL fun j => ?_
 rcases zX hF with ⟨x6, h7, hF⟩ | ⟨c2, h3, hF⟩
 ·refine zY (hs := []) hO (zco (U.le hL) (V.le hL) (X.le hL) (RdT.nil Ty.str _) h7) ztI rfl fun _ σ _ _ hO h8 h9 => ?_
  have hL := hL.trans h8
  obtain ⟨c1, c3, c4, c5, c6, rfl, rfl, Z, b0, b1⟩ := h9
  have hO := zt53 hO
  cases hF
  exact hP _ _ _ _ hO hL ⟨_, _, _, _, _, rfl, rfl, Z, b0, b1⟩
 refine zW (hs := []) hO (zco (U.le hL) (V.le hL) (X.le hL) (RdT.nil Ty.str _) h3) ztI rfl fun _ σ _ _ hO h4 h5 => ?_
 have hL := hL.trans h4
 obtain ⟨c7, c8, c9, d0, d4, rfl, rfl, b2, Y, b3⟩ := h5
 obtain ⟨d5, d6, rfl, -⟩ := Y.form
 have hO := zt53 hO
 refine zd hO [] [(2, .string c2.1.Text)] [0] ztL fun j => ?_
 refine z9 ?_
 cases hF
 refine (hQ _ _ _ _ _ rfl hO hL ?_).1
 exact ⟨_, _, _, _, _, rfl, rfl, b2, Y, b3⟩
theorem zbB {τ : Hp} {q0 : zf} {o : Nat} {b5 b6 : Value} {X : Ob} {b7 : Value} {Y : Ob} {v1 : Value} {p1 : (List ByteArray)} (b8 : RdT zm τ b5 q0.cursor.tokens) (b9 : ze zs 71 τ b6 q0.prog.Structs X) (c0 : ze zr 50 τ b7 q0.prog.Funcs Y) (r1 : RdT Ty.str τ v1 p1) {rr : Except (Value × zf) (zf)} (hF : zb5 q0 p1 = some rr) :
  zbK Try.prog 65 #[.pointer (some ⟨o, 0, none⟩), v1] τ [zE o b5 q0.cursor.at_ b6 b7, X, Y] (fun v τ' vs' => match (generalizing := false) rr with | .ok rr => ∃ (B E : Value) (G : Ob) (I : Value) (M : Ob), v = .tuple #[] ∧ vs' = [zE o B rr.cursor.at_ E I, G, M] ∧ RdT zm τ' B rr.cursor.tokens ∧ ze zs 71 τ' E rr.prog.Structs G ∧ ze zr 50 τ' I rr.prog.Funcs M | .error _ => False) (fun ch τ' vs' => match (generalizing := false) rr with | .ok _ => False | .error ee => ∃ (B E : Value) (G : Ob) (I : Value) (M : Ob), ch = [{ v := ee.1, recovered := false }] ∧ vs' = [zE o B ee.2.cursor.at_ E I, G, M] ∧ RdT zm τ' B ee.2.cursor.tokens ∧ ze zs 71 τ' E ee.2.prog.Structs G ∧ ze zr 50 τ' I ee.2.prog.Funcs M) := by
 obtain ⟨d8, d9, rfl, -⟩ := b8.form
 obtain ⟨f0, f1, rfl, -⟩ := b9.form
 obtain ⟨f2, f3, rfl, -⟩ := c0.form
 obtain ⟨A1, c1, rfl, -⟩ := r1.form
 refine zcA (args := [.pointer (some ⟨o, 0, none⟩), .slice A1 p1.length c1]) hm Try.func65 s65 rfl fun w0 σ hP hO Q hQ => ?_
 unfold zb5 at hF
 have hL := Hp.le.refl τ
 show wpn _ _ a65.body _ _ _
 unfold a65
 dsimp only
 refine zd hO [] [(6, zt7 A1 p1 c1), (7, zt0 (p1.length : Int)), (8, zt0 0)] [0] ztN fun j => ?_
 refine zbU (zH (zbo (fun (n : Nat) e' σ' => ∃ (c2 : Option Addr) (c3 : Nat) (t : List zl) (V : Int) (c4 : Option Addr) (c5 : Nat) (c6 : Ob) (w : List zq) (c7 : Option Addr) (c8 : Nat) (c9 : Ob) (z : List zo) (U : Int) (τ' : Hp), agr [(0, zt1 o), (6, zt7 A1 p1 c1), (7, zt0 (p1.length : Int)), (8, zt0 U)] e' ∧ Obs τ' σ' [zE o (zt7 c2 t c3) V (zt7 c4 w c5) (zt7 c7 z c8), c6, c9] ∧ Hp.le τ τ' ∧ RdT zm τ' (zt7 c2 t c3) t ∧ ze zs 71 τ' (zt7 c4 w c5) w c6 ∧ ze zr 50 τ' (zt7 c7 z c8) z c9 ∧ zis p1 n t V w z U = some rr) big ⟨d8, d9, q0.cursor.tokens, q0.cursor.at_, f0, f1, X, q0.prog.Structs, f2, f3, Y, q0.prog.Funcs, 0, _, ztZ ztM, hO, hL, (b8.le hL), (b9.le hL), (c0.le hL), hF⟩ ?_))
 clear hF hO hL
 rintro Z e σ ⟨c2, c3, t, V, c4, c5, c6, w, c7, c8, c9, z, U, _, hA, hO, hL, b2, b3, b4, hF⟩
 rw [← zM _ _ hA]
 cases Z with
 | zero => exact nomatch (show none = some rr from hF)
 | succ Z =>
 replace hF : zhV (zis p1 Z) p1 t V w z U = some rr := hF
 unfold zhV at hF
 refine zd hO [] [(9, .bool (decide (U < (p1.length : Int))))] [0, 6, 7, 8] ztO fun j => ?_
 refine zn hF rfl (fun hF => ?_) fun hF => ?_
 ·refine zA (zH ?_)
  obtain ⟨g, f6, hF⟩ := zt6 hF
  refine zN (T := Ty.str) (r1.le hL) hO.base rfl rfl f6 (by decide) fun a129 _ f7 f8 => ?_
  obtain rfl : _ = ([.string g] : List Value) := f7
  refine zG rfl (f8.le hO.base).fst ?_
  refine zd hO [] [(5, .string g)] [0, 6, 7, 8] ztO fun j => ?_
  refine z3 (za hO 2 [] [(12, zt1 o), (13, .string g)] [0, 6, 7, 8] ztP fun j => ?_)
  refine zt (T := Ty.str) (l := ([g] : List ByteArray)) (cs := [.string g]) hO rfl ⟨[.string g], _, rfl, rfl, rfl⟩ rfl (by decide) fun _ σ h7 f9 hO => ?_
  have hO := zt54 hO
  obtain ⟨_, b0, h, hO⟩ := f9.share hO (i := 3) rfl
  have hL := hL.trans b0
  have b2 := b2.le b0
  have b3 := b3.le b0
  have b4 := b4.le b0
  have hO := zt54 hO
  have hO := hO.sel [3, 0, 1, 2]
  rcases zX hF with ⟨h8, g0, hF⟩ | ⟨b1, g1, hF⟩
  ·refine zY (hs := [_]) hO (zco (q0 := (⟨(⟨t, V⟩ : zbe), (⟨w, z⟩ : zB)⟩ : zf)) b2 b3 b4 h g0) ztI rfl fun _ σ _ _ hO d0 g2 => ?_
   have hL := hL.trans d0
   have h := h.le d0
   obtain ⟨h9, i0, i1, i2, i3, rfl, rfl, g3, g4, g5⟩ := g2
   have hO := zt54 hO
   cases hF
   have hO := hO.sel [1, 2, 3]
   exact hP _ _ _ _ hO hL ⟨_, _, _, _, _, rfl, rfl, g3, g4, g5⟩
  refine zW (hs := [_]) hO (zco (q0 := (⟨(⟨t, V⟩ : zbe), (⟨w, z⟩ : zB)⟩ : zf)) b2 b3 b4 h g1) ztI rfl fun _ σ _ _ hO d4 g6 => ?_
  have hL := hL.trans d4
  have h := h.le d4
  obtain ⟨i4, i5, g7, i6, g8, rfl, rfl, d5, d6, d7⟩ := g6
  obtain ⟨g9, h0, rfl, -⟩ := d5.form
  obtain ⟨h1, h2, rfl, -⟩ := d6.form
  obtain ⟨h3, h4, rfl, -⟩ := d7.form
  have hO := zt54 hO
  refine zc (zg (zC (zj (z3 (zd hO [] [(8, zt0 (IntKind.i64.wrap (U + 1)))] [0, 6, 7] ztN fun j => ?_)))))
  refine zg (zj ?_)
  have hO := hO.sel [1, 2, 3]
  exact ⟨Z, Nat.lt_succ_self _, g9, h0, b1.2.cursor.tokens, b1.2.cursor.at_, h1, h2, g7, b1.2.prog.Structs, h3, h4, g8, b1.2.prog.Funcs, (IntKind.i64.wrap (U + 1)), _, ztZ ztM, hO, hL, d5, d6, d7, hF⟩
 refine zbs (zbp (zbr (zj (zg ?_))))
 cases hF
 refine (hQ _ _ _ _ _ rfl hO hL ?_).2
 exact ⟨_, _, _, _, _, rfl, rfl, b2, b3, b4⟩
theorem zb0 {τ : Hp} {q0 : zf} {g : Nat} {w z : Value} {B : Ob} {E : Value} {G : Ob} {p1 : Int} {Z : Value} {Y : (List ByteArray)} (h : RdT zm τ w q0.cursor.tokens) (o : ze zs 71 τ z q0.prog.Structs B) (t : ze zr 50 τ E q0.prog.Funcs G) (r2 : RdT Ty.str τ Z Y) {rr : Bool × zf} (hF : zbI q0 p1 Y = some rr) :
  Ctr Try.prog 38 #[.pointer (some ⟨g, 0, none⟩), .int .u8 p1, Z] τ [zE g w q0.cursor.at_ z E, B, G] (fun v τ' vs' => ∃ (I M : Value) (U : Ob) (V : Value) (X : Ob), v = .bool rr.1 ∧ vs' = [zE g I rr.2.cursor.at_ M V, U, X] ∧ RdT zm τ' I rr.2.cursor.tokens ∧ ze zs 71 τ' M rr.2.prog.Structs U ∧ ze zr 50 τ' V rr.2.prog.Funcs X) := by
 obtain ⟨A2, c2, rfl, -⟩ := r2.form
 refine zbl (args := [.pointer (some ⟨g, 0, none⟩), .int .u8 p1, .slice A2 Y.length c2]) hm Try.func38 s38 rfl fun w0 σ hO Q hQ => ?_
 unfold zbI at hF
 have hL := Hp.le.refl τ
 show wpn _ _ a38.body _ _ _
 unfold a38
 dsimp only
 refine zd hO [] [] [0, 1, 2] ztM fun j => ?_
 refine zi (za hO 3 [] [(7, zt1 g), (8, .int .u8 p1), (9, zt7 A2 Y c2)] [0] ztN fun j => ?_)
 obtain ⟨c4, h5, hF⟩ := zt6 hF
 refine zz (hs := []) hO (zdS (h.le hL) (o.le hL) (t.le hL) (r2.le hL) h5) rfl fun _ σ _ _ hO h6 h7 => ?_
 have hL := hL.trans h6
 obtain ⟨rfl, rfl⟩ := h7
 have hO := zt53 hO
 refine zd hO [] [(11, .bool (!c4))] [0] ztL fun j => ?_
 refine zn hF rfl (fun hF => ?_) fun hF => ?_
 ·refine zi (zd hO [] [(6, .bool false)] [0] ztL fun j => ?_)
  refine zbi ?_
  cases hF
  exact hQ _ _ _ _ _ rfl hO hL ⟨_, _, _, _, _, rfl, rfl, (h.le hL), (o.le hL), (t.le hL)⟩
 refine zA (za hO 7 [0] [(16, zt0 (IntKind.i64.wrap (q0.cursor.at_ + 1))), (18, .pointer (some ⟨g, 1, none⟩))] [0] (And.intro (And.intro rfl rfl) ztM) fun j => ?_)
 refine zx hO (i := 0) rfl (off := 1) rfl rfl rfl rfl (Nat.le_of_ble_eq_true rfl) rfl fun σ hO => ?_
 have hO := zt53 hO
 refine zc (zd hO [] [(6, .bool true)] [0] ztL fun j => ?_)
 refine z9 ?_
 cases hF
 exact hQ _ _ _ _ _ rfl hO hL ⟨_, _, _, _, _, rfl, rfl, (h.le hL), (o.le hL), (t.le hL)⟩
theorem znD {τ : Hp} {q0 : zf} {h : Nat} {g5 g6 : Value} {g7 : Ob} {g8 : Value} {g9 : Ob} (h0 : RdT zm τ g5 q0.cursor.tokens) (h1 : ze zs 71 τ g6 q0.prog.Structs g7) (h2 : ze zr 50 τ g8 q0.prog.Funcs g9) {rr : Except (Value × zf) (zf)} (hF : zid q0 = some rr) :
  zbK Try.prog 39 #[.pointer (some ⟨h, 0, none⟩)] τ [zE h g5 q0.cursor.at_ g6 g8, g7, g9] (fun v τ' vs' => match (generalizing := false) rr with | .ok rr => ∃ (Y Z : Value) (b0 : Ob) (b1 : Value) (b2 : Ob), v = .tuple #[] ∧ vs' = [zE h Y rr.cursor.at_ Z b1, b0, b2] ∧ RdT zm τ' Y rr.cursor.tokens ∧ ze zs 71 τ' Z rr.prog.Structs b0 ∧ ze zr 50 τ' b1 rr.prog.Funcs b2 | .error _ => False) (fun ch τ' vs' => match (generalizing := false) rr with | .ok _ => False | .error ee => ∃ (Y Z : Value) (b0 : Ob) (b1 : Value) (b2 : Ob), ch = [{ v := ee.1, recovered := false }] ∧ vs' = [zE h Y ee.2.cursor.at_ Z b1, b0, b2] ∧ RdT zm τ' Y ee.2.cursor.tokens ∧ ze zs 71 τ' Z ee.2.prog.Structs b0 ∧ ze zr 50 τ' b1 ee.2.prog.Funcs b2) := by
 refine zcA (args := [.pointer (some ⟨h, 0, none⟩)]) hm Try.func39 s39 rfl fun w0 σ hP hO Q hQ => ?_
 unfold zid at hF
 have hL := Hp.le.refl τ
 show wpn _ _ a39.body _ _ _
 unfold a39
 dsimp only
 refine za hO 3 [] [(5, zt1 h)] [0] ztL fun j => ?_
 rcases zX hF with ⟨x6, h7, hF⟩ | ⟨c2, h3, hF⟩
 ·refine zY (hs := []) hO (zbV (h0.le hL) (h1.le hL) (h2.le hL) h7) ztI rfl fun _ σ _ _ hO h8 h9 => ?_
  have hL := hL.trans h8
  obtain ⟨A2, A3, A4, A5, A6, rfl, rfl, q3, q4, q5⟩ := h9
  have hO := zt53 hO
  cases hF
  exact hP _ _ _ _ hO hL ⟨_, _, _, _, _, rfl, rfl, q3, q4, q5⟩
 refine zW (hs := []) hO (zbV (h0.le hL) (h1.le hL) (h2.le hL) h3) ztI rfl fun _ σ _ _ hO h4 h5 => ?_
 have hL := hL.trans h4
 obtain ⟨A7, A8, A9, B0, B1, rfl, rfl, h6, d5, i0⟩ := h5
 obtain ⟨B2, B3, rfl, -⟩ := d5.form
 have hO := zt53 hO
 refine za hO 1 [] [(7, .agg #[(.string c2.1), (.slice none 0 0)])] [0] ztL fun j => ?_
 refine zbC hO fun i1 σ hO => ?_
 have hO := zt54 hO
 refine zx hO (i := 3) rfl (off := 0) rfl rfl rfl rfl (Nat.le_of_ble_eq_true rfl) rfl fun σ hO => ?_
 have hO := zt54 hO
 refine zc (za hO 3 [] [(10, zt1 h)] [0, 2] ztM fun j => ?_)
 refine zt (T := Ty.str) (l := ([zs7] : List ByteArray)) (cs := [.string zs7]) hO rfl ⟨[.string zs7], _, rfl, rfl, rfl⟩ rfl (by decide) fun _ σ B4 q6 hO => ?_
 have hO := zt55 hO
 obtain ⟨_, i2, b8, hO⟩ := q6.share hO (i := 4) rfl
 have hL := hL.trans i2
 have h6 := h6.le i2
 have d5 := d5.le i2
 have i0 := i0.le i2
 have hO := zt55 hO
 have hO := hO.sel [3, 4, 0, 1, 2]
 rcases zX hF with ⟨B5, q7, hF⟩ | ⟨B6, q8, hF⟩
 ·refine zY (hs := [_, _]) hO (zco h6 d5 i0 b8 q7) ztI rfl fun _ σ _ _ hO k1 q9 => ?_
  have hL := hL.trans k1
  have b8 := b8.le k1
  obtain ⟨B7, B8, B9, C0, C1, rfl, rfl, r0, r1, r2⟩ := q9
  have hO := zt55 hO
  cases hF
  have hO := hO.sel [2, 3, 4]
  exact hP _ _ _ _ hO hL ⟨_, _, _, _, _, rfl, rfl, r0, r1, r2⟩
 refine zW (hs := [_, _]) hO (zco h6 d5 i0 b8 q8) ztI rfl fun _ σ _ _ hO k4 r3 => ?_
 have hL := hL.trans k4
 have b8 := b8.le k4
 obtain ⟨C2, C3, C4, C5, C6, rfl, rfl, i3, i4, i5⟩ := r3
 have hO := zt55 hO
 refine zc (za hO 3 [] [(15, zt1 h)] [0, 2] ztM fun j => ?_)
 refine zt (T := Ty.str) (l := ([ztm] : List ByteArray)) (cs := [.string ztm]) hO rfl ⟨[.string ztm], _, rfl, rfl, rfl⟩ rfl (by decide) fun _ σ C7 r4 hO => ?_
 have hO := zt56 hO
 obtain ⟨_, i6, b9, hO⟩ := r4.share hO (i := 5) rfl
 have hL := hL.trans i6
 have i3 := i3.le i6
 have i4 := i4.le i6
 have i5 := i5.le i6
 have hO := zt56 hO
 have hO := hO.sel [0, 1, 5, 2, 3, 4]
 rcases zX hF with ⟨C8, r5, hF⟩ | ⟨i7, r6, hF⟩
 ·refine zY (hs := [_, _, _]) hO (zbB i3 i4 i5 b9 r5) ztI rfl fun _ σ _ _ hO k5 r7 => ?_
  have hL := hL.trans k5
  have b9 := b9.le k5
  obtain ⟨C9, D0, t6, t7, t8, rfl, rfl, r8, k7, k8⟩ := r7
  have hO := zt56 hO
  cases hF
  have hO := hO.sel [3, 4, 5]
  exact hP _ _ _ _ hO hL ⟨_, _, _, _, _, rfl, rfl, r8, k7, k8⟩
 refine zW (hs := [_, _, _]) hO (zbB i3 i4 i5 b9 r6) ztI rfl fun _ σ _ _ hO k6 r9 => ?_
 have hL := hL.trans k6
 have b9 := b9.le k6
 obtain ⟨t9, u0, l0, u1, l1, rfl, rfl, i8, i9, j0⟩ := r9
 obtain ⟨l2, l3, rfl, -⟩ := i8.form
 obtain ⟨l4, l5, rfl, -⟩ := i9.form
 obtain ⟨l6, l7, rfl, -⟩ := j0.form
 have hO := zt56 hO
 refine zc (zH ?_)
 have hO := hO.no
 have hO := zt57 hO
 have hO := hO.sel [3, 4, 5, 0, 6]
 refine zbo (fun (n : Nat) e' σ' => ∃ (d6 : Option Addr) (d7 : Nat) (z : List zl) (b3 : Int) (d8 : Option Addr) (d9 : Nat) (f0 : Ob) (B : List zq) (f1 : Option Addr) (f2 : Nat) (f3 : Ob) (E : List zo) (G : Option Addr) (I : Nat) (f4 : Ob) (o : List ByteArray) (τ' : Hp), agr [(0, zt1 h), (2, zt1 i1)] e' ∧ Obs τ' σ' [zE h (zt7 d6 z d7) b3 (zt7 d8 B d9) (zt7 f1 E f2), f0, f3, some (i1, ⟨[.string c2.1, zt7 G o I], 71, 2, true⟩), f4] ∧ Hp.le τ τ' ∧ RdT zm τ' (zt7 d6 z d7) z ∧ ze zs 71 τ' (zt7 d8 B d9) B f0 ∧ ze zr 50 τ' (zt7 f1 E f2) E f3 ∧ ze Ty.str 9 τ' (zt7 G o I) o f4 ∧ zfP c2 n z b3 B E o = some rr) big ⟨l2, l3, i7.cursor.tokens, i7.cursor.at_, l4, l5, l0, i7.prog.Structs, l6, l7, l1, i7.prog.Funcs, none, 0, none, [], _, ztZ ztK, hO, hL, i8, i9, j0, ze.nil _ _ _, hF⟩ ?_
 clear hF hO hL
 rintro c1 e σ ⟨d6, d7, z, b3, d8, d9, f0, B, f1, f2, f3, E, G, I, f4, o, _, hA, hO, hL, f5, f6, f7, t, hF⟩
 rw [← zM _ _ hA]
 cases c1 with
 | zero => exact nomatch (show none = some rr from hF)
 | succ c1 =>
 replace hF : zg6 (zfP c2 c1) c2 z b3 B E o = some rr := hF
 unfold zg6 at hF
 refine zi (za hO 3 [] [(20, zt1 h)] [0, 2] ztM fun j => ?_)
 refine zt (T := Ty.str) (l := ([ztw] : List ByteArray)) (cs := [.string ztw]) hO rfl ⟨[.string ztw], _, rfl, rfl, rfl⟩ rfl (by decide) fun _ σ u2 l8 hO => ?_
 have hO := zt56 hO
 obtain ⟨_, b4, f8, hO⟩ := l8.share hO (i := 5) rfl
 have hL := hL.trans b4
 have f5 := f5.le b4
 have f6 := f6.le b4
 have f7 := f7.le b4
 have t := t.le b4
 have hO := zt56 hO
 obtain ⟨j1, l9, hF⟩ := zt6 hF
 have hO := hO.sel [3, 4, 5, 0, 1, 2]
 refine zz (hs := [_, _, _]) hO (zb0 (q0 := (⟨(⟨z, b3⟩ : zbe), (⟨B, E⟩ : zB)⟩ : zf)) f5 f6 f7 f8 l9) rfl fun _ σ _ _ hO f9 m0 => ?_
 have hL := hL.trans f9
 have f8 := f8.le f9
 have t := t.le f9
 obtain ⟨u3, u4, u5, u6, u7, rfl, rfl, M, w, U⟩ := m0
 obtain ⟨m1, m2, rfl, -⟩ := w.form
 have hO := zt56 hO
 refine zd hO [] [(23, .bool (!j1.1))] [0, 2] ztM fun j => ?_
 refine zn hF rfl (fun hF => ?_) fun hF => ?_
 ·refine zA (zbU (zH (zb9 (za hO 5 [0] [(24, .pointer (some ⟨i1, 1, none⟩)), (25, zt7 G o I), (28, zt1 h)] [0, 2] (And.intro (And.intro rfl rfl) ztO) fun j => ?_))))
  refine zcj ?_
  rcases zX hF with ⟨u8, m3, hF⟩ | ⟨c3, m4, hF⟩
  ·refine zY (hs := [_, _, _]) hO (zbV M w U m3) ztI rfl fun _ σ _ _ hO j2 m5 => ?_
   have hL := hL.trans j2
   have t := t.le j2
   obtain ⟨u9, v0, v1, v2, v3, rfl, rfl, m6, m7, m8⟩ := m5
   have hO := zt56 hO
   cases hF
   have hO := hO.sel [3, 4, 5]
   exact hP _ _ _ _ hO hL ⟨_, _, _, _, _, rfl, rfl, m6, m7, m8⟩
  refine zW (hs := [_, _, _]) hO (zbV M w U m4) ztI rfl fun _ σ _ _ hO j3 m9 => ?_
  have hL := hL.trans j3
  have t := t.le j3
  obtain ⟨v4, v5, v6, v7, v8, rfl, rfl, c4, c5, c6⟩ := m9
  have hO := zt56 hO
  refine zc (zcg ⟨(zb1 rfl (hO.val (i := 0) (off := 1) (agg := false) (n := 1) rfl rfl) rfl), trivial⟩ ?_)
  refine zcj (zt (T := Ty.str) (l := ([c3.1] : List ByteArray)) (cs := [.string c3.1]) hO rfl ⟨[.string c3.1], _, rfl, rfl, rfl⟩ rfl (by decide) fun _ σ v9 n0 hO => ?_)
  have hO := zt57 hO
  refine zc (zcg ⟨(zb1 rfl (hO.val (i := 0) (off := 1) (agg := false) (n := 1) rfl rfl) rfl), trivial⟩ ?_)
  obtain ⟨_, j9, hF⟩ := zt6 hF
  refine zho (T := Ty.str) (Ty.sc_flat _ _) hO t (i := 1) rfl rfl rfl (n0.rd hO (i := 6) rfl) j9 (by decide) fun _ σ n1 g hO => ?_
  obtain ⟨n2, n3, rfl, -⟩ := g.form
  have hO := zt57 hO
  refine za hO 1 [] [(32, .pointer (some ⟨i1, 1, none⟩))] [0, 2, 31] ztN fun j => ?_
  refine zx hO (i := 0) rfl (off := 1) rfl rfl rfl rfl (Nat.le_of_ble_eq_true rfl) rfl fun σ hO => ?_
  have hO := zt57 hO
  refine zc (za hO 3 [] [(35, zt1 h)] [0, 2] ztM fun j => ?_)
  refine zt (T := Ty.str) (l := ([zs6] : List ByteArray)) (cs := [.string zs6]) hO rfl ⟨[.string zs6], _, rfl, rfl, rfl⟩ rfl (by decide) fun _ σ w2 n4 hO => ?_
  have hO := zt58 hO
  obtain ⟨_, b5, V, hO⟩ := n4.share hO (i := 7) rfl
  have hL := hL.trans b5
  have g := g.le b5
  have c4 := c4.le b5
  have c5 := c5.le b5
  have c6 := c6.le b5
  have hO := zt58 hO
  have hO := hO.sel [0, 1, 2, 6, 7, 3, 4, 5]
  rcases zX hF with ⟨w3, n5, hF⟩ | ⟨w4, n6, hF⟩
  ·refine zY (hs := [_, _, _, _, _]) hO (zco c4 c5 c6 V n5) ztI rfl fun _ σ _ _ hO g0 n7 => ?_
   have hL := hL.trans g0
   have V := V.le g0
   have g := g.le g0
   obtain ⟨w5, w6, w7, w8, w9, rfl, rfl, n8, n9, o0⟩ := n7
   have hO := zt58 hO
   cases hF
   have hO := hO.sel [5, 6, 7]
   exact hP _ _ _ _ hO hL ⟨_, _, _, _, _, rfl, rfl, n8, n9, o0⟩
  refine zW (hs := [_, _, _, _, _]) hO (zco c4 c5 c6 V n6) ztI rfl fun _ σ _ _ hO g1 o1 => ?_
  have hL := hL.trans g1
  have V := V.le g1
  have g := g.le g1
  obtain ⟨x0, x1, x2, x3, x4, rfl, rfl, c7, c8, c9⟩ := o1
  have hO := zt58 hO
  refine zc (z3 (za hO 3 [] [(40, zt1 h)] [0, 2] ztM fun j => ?_))
  refine zt (T := Ty.str) (l := ([zta] : List ByteArray)) (cs := [.string zta]) hO rfl ⟨[.string zta], _, rfl, rfl, rfl⟩ rfl (by decide) fun _ σ x5 o2 hO => ?_
  have hO := zt59 hO
  obtain ⟨_, b6, X, hO⟩ := o2.share hO (i := 8) rfl
  have hL := hL.trans b6
  have g := g.le b6
  have c7 := c7.le b6
  have c8 := c8.le b6
  have c9 := c9.le b6
  have hO := zt59 hO
  have hO := hO.sel [0, 1, 2, 3, 4, 8, 5, 6, 7]
  rcases zX hF with ⟨x7, o3, hF⟩ | ⟨d0, o4, hF⟩
  ·refine zY (hs := [_, _, _, _, _, _]) hO (zbB c7 c8 c9 X o3) ztI rfl fun _ σ _ _ hO g2 o5 => ?_
   have hL := hL.trans g2
   have X := X.le g2
   have g := g.le g2
   obtain ⟨x8, x9, y0, y1, y2, rfl, rfl, o6, o7, o8⟩ := o5
   have hO := zt59 hO
   cases hF
   have hO := hO.sel [6, 7, 8]
   exact hP _ _ _ _ hO hL ⟨_, _, _, _, _, rfl, rfl, o6, o7, o8⟩
  refine zW (hs := [_, _, _, _, _, _]) hO (zbB c7 c8 c9 X o4) ztI rfl fun _ σ _ _ hO g3 o9 => ?_
  have hL := hL.trans g3
  have X := X.le g3
  have g := g.le g3
  obtain ⟨y3, y4, p2, y5, p3, rfl, rfl, j4, j5, j6⟩ := o9
  obtain ⟨p4, p5, rfl, -⟩ := j4.form
  obtain ⟨p6, p7, rfl, -⟩ := j5.form
  obtain ⟨p8, p9, rfl, -⟩ := j6.form
  have hO := zt59 hO
  refine zc (zg (zC (zj (zg (zj ?_)))))
  have hO := hO.sel [6, 7, 8, 0, 1]
  exact ⟨c1, Nat.lt_succ_self _, p4, p5, d0.cursor.tokens, d0.cursor.at_, p6, p7, p2, d0.prog.Structs, p8, p9, p3, d0.prog.Funcs, n2, n3, n1, (o ++ ([c3.1] : List ByteArray)), _, ztZ ztK, hO, hL, j4, j5, j6, g, hF⟩
 refine zbs (zbp (zbr (zj (zfO (za hO 7 [3, 0] [(43, zt1 h), (47, .pointer (some ⟨h, 2, none⟩)), (48, zt7 m1 j1.2.prog.Structs m2), (49, .agg #[(.string c2.1), (zt7 G o I)])] [0] (And.intro (And.intro rfl rfl) (And.intro (And.intro rfl rfl) ztO)) fun j => ?_)))))
 refine zcj ?_
 obtain ⟨_, d4, g4, hO⟩ := t.share hO (i := 1) rfl
 have hL := hL.trans d4
 have w := w.le d4
 have M := M.le d4
 have U := U.le d4
 have hO := zt56 hO
 refine zt (T := zs) (l := ([(⟨c2.1, o⟩ : zq)] : List zq)) (cs := [.string c2.1, zt7 G o I]) hO rfl ⟨[.string c2.1, zt7 G o I], _, rfl, ⟨_, rfl, g4⟩, rfl⟩ rfl (by decide) fun _ σ y6 j7 hO => ?_
 obtain ⟨y7, y8, rfl, -⟩ := j7.form
 have hO := zt57 hO
 refine zc (zcg ⟨(zb1 rfl (hO.val (i := 3) (off := 2) (agg := false) (n := 1) rfl rfl) rfl), trivial⟩ ?_)
 obtain ⟨_, b7, q2, hO⟩ := j7.share hO (i := 6) rfl
 have hL := hL.trans b7
 have w := w.le b7
 have g4 := g4.le b7
 have M := M.le b7
 have U := U.le b7
 have hO := zt57 hO
 obtain ⟨_, k0, hF⟩ := zt6 hF
 refine ziO (T := zs) hO w (i := 4) rfl rfl rfl q2 k0 (by decide) fun _ σ y9 j8 hO => ?_
 obtain ⟨A0, A1, rfl, -⟩ := j8.form
 have hO := zt57 hO
 refine za hO 3 [] [(54, .pointer (some ⟨h, 2, none⟩))] [0, 51] ztM fun j => ?_
 refine zx hO (i := 3) rfl (off := 2) rfl rfl rfl rfl (Nat.le_of_ble_eq_true rfl) rfl fun σ hO => ?_
 have hO := zt57 hO
 refine zc (zg ?_)
 cases hF
 have hO := hO.sel [3, 4, 5]
 refine (hQ _ _ _ _ _ rfl hO hL ?_).2
 exact ⟨_, _, _, _, _, rfl, rfl, M, j8, U⟩
theorem zfN {τ : Hp} {q0 : zf} {g : Nat} {b8 b9 : Value} {c0 : Ob} {c1 : Value} {c2 : Ob} {p1 : Bool} (f3 : RdT zm τ b8 q0.cursor.tokens) (f4 : ze zs 71 τ b9 q0.prog.Structs c0) (f5 : ze zr 50 τ c1 q0.prog.Funcs c2) {rr : Except (Value × zf) (zR × zf)} (hF : zfm q0 p1 = some rr) :
  zbK Try.prog 68 #[.pointer (some ⟨g, 0, none⟩), .bool p1] τ [zE g b8 q0.cursor.at_ b9 c1, c0, c2] (fun v τ' vs' => match (generalizing := false) rr with | .ok rr => ∃ (I M : Value) (U : Ob) (V : Value) (X : Ob), v = .agg #[.int .u8 rr.1.Kind.toNat, .int .i64 rr.1.N, .string rr.1.Name] ∧ vs' = [zE g I rr.2.cursor.at_ M V, U, X] ∧ RdT zm τ' I rr.2.cursor.tokens ∧ ze zs 71 τ' M rr.2.prog.Structs U ∧ ze zr 50 τ' V rr.2.prog.Funcs X | .error _ => False) (fun ch τ' vs' => match (generalizing := false) rr with | .ok _ => False | .error ee => ∃ (I M : Value) (U : Ob) (V : Value) (X : Ob), ch = [{ v := ee.1, recovered := false }] ∧ vs' = [zE g I ee.2.cursor.at_ M V, U, X] ∧ RdT zm τ' I ee.2.cursor.tokens ∧ ze zs 71 τ' M ee.2.prog.Structs U ∧ ze zr 50 τ' V ee.2.prog.Funcs X) := by
 refine zcA (args := [.pointer (some ⟨g, 0, none⟩), .bool p1]) hm Try.func68 s68 rfl fun w0 σ hP hO Q hQ => ?_
 unfold zfm at hF
 have hL := Hp.le.refl τ
 show wpn _ _ a68.body _ _ _
 unfold a68
 dsimp only
 refine zbC hO fun b3 σ hO => ?_
 have hO := zt54 hO
 refine zc (zH (za hO 3 [] [(9, zt1 g)] [0, 1, 4] ztN fun j => ?_))
 refine zt (T := Ty.str) (l := ([zs6] : List ByteArray)) (cs := [.string zs6]) hO rfl ⟨[.string zs6], _, rfl, rfl, rfl⟩ rfl (by decide) fun _ σ o6 w7 hO => ?_
 have hO := zt55 hO
 obtain ⟨_, h9, r8, hO⟩ := w7.share hO (i := 4) rfl
 have hL := hL.trans h9
 have hO := zt55 hO
 obtain ⟨k8, l0, hF⟩ := zt6 hF
 have hO := hO.sel [3, 4, 0, 1, 2]
 refine zz (hs := [_, _]) hO (zb0 (f3.le hL) (f4.le hL) (f5.le hL) r8 l0) rfl fun _ σ _ _ hO f6 l1 => ?_
 have hL := hL.trans f6
 have r8 := r8.le f6
 obtain ⟨r6, r7, r9, t0, t1, rfl, rfl, c3, c4, c5⟩ := l1
 have hO := zt55 hO
 refine zd hO [] [(6, .bool k8.1)] [0, 1, 4] ztN fun j => ?_
 refine zbm (zn hF rfl (fun hF => ?_) fun hF => ?_)
 ·refine zi (za hO 1 [] [(12, .agg #[(.int .u8 1), (.int .i64 0), (.string zs3)])] [0, 4] ztM fun j => ?_)
  refine zx hO (i := 0) rfl (off := 0) rfl rfl rfl rfl (Nat.le_of_ble_eq_true rfl) rfl fun σ hO => ?_
  have hO := zt55 hO
  refine zc (zbi (z6 (zQ ?_)))
  cases hF
  have z := hO.val (i := 0) rfl (off := 0) (agg := true) (n := 3) rfl
  have hO := hO.sel [2, 3, 4]
  refine (hQ _ _ _ _ _ (zbE rfl (z) rfl) hO hL ?_).1
  exact ⟨_, _, _, _, _, rfl, rfl, c3, c4, c5⟩
 refine zi (za hO 3 [] [(16, zt1 g)] [0, 1, 4] ztN fun j => ?_)
 refine zt (T := Ty.str) (l := ([ztu] : List ByteArray)) (cs := [.string ztu]) hO rfl ⟨[.string ztu], _, rfl, rfl, rfl⟩ rfl (by decide) fun _ σ t2 f7 hO => ?_
 obtain ⟨t3, t4, rfl, -⟩ := f7.form
 have hO := zt56 hO
 obtain ⟨_, c6, d5, hO⟩ := f7.share hO (i := 5) rfl
 have hL := hL.trans c6
 have c3 := c3.le c6
 have c4 := c4.le c6
 have c5 := c5.le c6
 have hO := zt56 hO
 obtain ⟨l2, l3, hF⟩ := zt6 hF
 have hO := hO.sel [0, 1, 5, 2, 3, 4]
 refine zz (hs := [_, _, _]) hO (zb0 c3 c4 c5 d5 l3) rfl fun _ σ _ _ hO f8 l4 => ?_
 have hL := hL.trans f8
 have d5 := d5.le f8
 obtain ⟨t5, t6, t7, t8, t9, rfl, rfl, c7, c8, c9⟩ := l4
 have hO := zt56 hO
 refine zd hO [] [(13, .bool l2.1)] [0, 1, 4] ztN fun j => ?_
 refine zn hF rfl (fun hF => ?_) fun hF => ?_
 ·refine zi (za hO 1 [] [(19, .agg #[(.int .u8 2), (.int .i64 0), (.string zs3)])] [0, 4] ztM fun j => ?_)
  refine zx hO (i := 0) rfl (off := 0) rfl rfl rfl rfl (Nat.le_of_ble_eq_true rfl) rfl fun σ hO => ?_
  have hO := zt56 hO
  refine zc (zbi (z6 (zQ ?_)))
  cases hF
  have z := hO.val (i := 0) rfl (off := 0) (agg := true) (n := 3) rfl
  have hO := hO.sel [3, 4, 5]
  refine (hQ _ _ _ _ _ (zbE rfl (z) rfl) hO hL ?_).1
  exact ⟨_, _, _, _, _, rfl, rfl, c7, c8, c9⟩
 refine zi (za hO 3 [] [(23, zt1 g)] [0, 1, 4] ztN fun j => ?_)
 refine zt (T := Ty.str) (l := ([ztb] : List ByteArray)) (cs := [.string ztb]) hO rfl ⟨[.string ztb], _, rfl, rfl, rfl⟩ rfl (by decide) fun _ σ u0 l5 hO => ?_
 have hO := zt57 hO
 obtain ⟨_, d0, d6, hO⟩ := l5.share hO (i := 6) rfl
 have hL := hL.trans d0
 have c7 := c7.le d0
 have c8 := c8.le d0
 have c9 := c9.le d0
 have hO := zt57 hO
 obtain ⟨w, l6, hF⟩ := zt6 hF
 have hO := hO.sel [0, 1, 2, 6, 3, 4, 5]
 refine zz (hs := [_, _, _, _]) hO (zb0 c7 c8 c9 d6 l6) rfl fun _ σ _ _ hO f9 l7 => ?_
 have hL := hL.trans f9
 have d6 := d6.le f9
 obtain ⟨u1, u2, g0, u3, g1, rfl, rfl, h, o, t⟩ := l7
 obtain ⟨g2, g3, rfl, -⟩ := h.form
 obtain ⟨g4, g5, rfl, -⟩ := o.form
 obtain ⟨g6, g7, rfl, -⟩ := t.form
 have hO := zt57 hO
 refine zd hO [] [(20, .bool w.1)] [0, 1, 4] ztN fun j => ?_
 refine zn hF rfl (fun hF => ?_) fun hF => ?_
 ·refine zi (za hO 3 [] [(28, zt1 g)] [0, 4] ztM fun j => ?_)
  rcases zX hF with ⟨u4, l8, hF⟩ | ⟨d7, l9, hF⟩
  ·refine zY (hs := [_, _, _, _]) hO (zco h o t (RdT.nil Ty.str _) l8) ztI rfl fun _ σ _ _ hO m0 m1 => ?_
   have hL := hL.trans m0
   obtain ⟨u5, u6, u7, u9, v0, rfl, rfl, m2, m3, g9⟩ := m1
   have hO := zt57 hO
   cases hF
   have hO := hO.sel [4, 5, 6]
   exact hP _ _ _ _ hO hL ⟨_, _, _, _, _, rfl, rfl, m2, m3, g9⟩
  refine zW (hs := [_, _, _, _]) hO (zco h o t (RdT.nil Ty.str _) l9) ztI rfl fun _ σ _ _ hO m4 m5 => ?_
  have hL := hL.trans m4
  obtain ⟨m8, m9, n0, n1, n2, rfl, rfl, Y, Z, b0⟩ := m5
  have hO := zt57 hO
  refine zd hO [] [(5, zt0 d7.1.Num)] [0, 4] ztM fun j => ?_
  refine zi (zbk hO 3 [] [(0, zt1 g), (4, zt1 b3), (5, zt0 d7.1.Num), (33, zt1 g)] ztN fun j => ?_)
  refine zt (T := Ty.str) (l := ([ztj] : List ByteArray)) (cs := [.string ztj]) hO rfl ⟨[.string ztj], _, rfl, rfl, rfl⟩ rfl (by decide) fun _ σ n3 h0 hO => ?_
  have hO := zt58 hO
  obtain ⟨_, b1, E, hO⟩ := h0.share hO (i := 7) rfl
  have hL := hL.trans b1
  have Y := Y.le b1
  have Z := Z.le b1
  have b0 := b0.le b1
  have hO := zt58 hO
  have hO := hO.sel [0, 1, 2, 3, 7, 4, 5, 6]
  rcases zX hF with ⟨n4, h1, hF⟩ | ⟨n5, h2, hF⟩
  ·refine zY (hs := [_, _, _, _, _]) hO (zbB Y Z b0 E h1) ztI rfl fun _ σ _ _ hO d8 h3 => ?_
   have hL := hL.trans d8
   have E := E.le d8
   obtain ⟨n6, n7, n8, n9, o0, rfl, rfl, h4, h5, h6⟩ := h3
   have hO := zt58 hO
   cases hF
   have hO := hO.sel [5, 6, 7]
   exact hP _ _ _ _ hO hL ⟨_, _, _, _, _, rfl, rfl, h4, h5, h6⟩
  refine zW (hs := [_, _, _, _, _]) hO (zbB Y Z b0 E h2) ztI rfl fun _ σ _ _ hO d9 h7 => ?_
  have hL := hL.trans d9
  have E := E.le d9
  obtain ⟨o1, o2, o3, o4, o5, rfl, rfl, b2, b4, b5⟩ := h7
  have hO := zt58 hO
  refine zc (zi (za hO 3 [] [(38, zt1 g)] [0, 4, 5] ztN fun j => ?_))
  refine zt (T := Ty.str) (l := ([zs6] : List ByteArray)) (cs := [.string zs6]) hO rfl ⟨[.string zs6], _, rfl, rfl, rfl⟩ rfl (by decide) fun _ σ o7 h8 hO => ?_
  have hO := zt59 hO
  obtain ⟨_, b6, G, hO⟩ := h8.share hO (i := 8) rfl
  have hL := hL.trans b6
  have b2 := b2.le b6
  have b4 := b4.le b6
  have b5 := b5.le b6
  have hO := zt59 hO
  have hO := hO.sel [0, 1, 2, 3, 4, 8, 5, 6, 7]
  rcases zX hF with ⟨o8, i0, hF⟩ | ⟨o9, i1, hF⟩
  ·refine zY (hs := [_, _, _, _, _, _]) hO (zco b2 b4 b5 G i0) ztI rfl fun _ σ _ _ hO f0 i2 => ?_
   have hL := hL.trans f0
   have G := G.le f0
   obtain ⟨p2, p3, p4, p5, p6, rfl, rfl, i3, i4, i5⟩ := i2
   have hO := zt59 hO
   cases hF
   have hO := hO.sel [6, 7, 8]
   exact hP _ _ _ _ hO hL ⟨_, _, _, _, _, rfl, rfl, i3, i4, i5⟩
  refine zW (hs := [_, _, _, _, _, _]) hO (zco b2 b4 b5 G i1) ztI rfl fun _ σ _ _ hO f1 i6 => ?_
  have hL := hL.trans f1
  have G := G.le f1
  obtain ⟨p7, p8, p9, q2, q3, rfl, rfl, i7, i8, i9⟩ := i6
  have hO := zt59 hO
  refine zc (zi (za hO 2 [] [(42, .agg #[(.int .u8 3), (.int .i64 d7.1.Num), (.string zs3)])] [0, 4] ztM fun j => ?_))
  refine zx hO (i := 0) rfl (off := 0) rfl rfl rfl rfl (Nat.le_of_ble_eq_true rfl) rfl fun σ hO => ?_
  have hO := zt59 hO
  refine zc (zbi (z6 (zQ ?_)))
  cases hF
  have z := hO.val (i := 0) rfl (off := 0) (agg := true) (n := 3) rfl
  have hO := hO.sel [6, 7, 8]
  refine (hQ _ _ _ _ _ (zbE rfl (z) rfl) hO hL ?_).1
  exact ⟨_, _, _, _, _, rfl, rfl, i7, i8, i9⟩
 refine zi (za hO 2 [] [(45, .bool p1)] [0, 4] ztM fun j => ?_)
 have hO := hO.sel [0, 4, 5, 6]
 have hO := zt54 hO
 obtain ⟨f2, j0, hF⟩ := zt6 hF
 refine zb2 2 (fun e' σ' => ∃ (τ' : Hp), agr [(50, .bool f2), (0, zt1 g), (4, zt1 b3)] e' ∧ Obs τ' σ' [zoi b3 0 0 zs3, zE g (zt7 g2 w.2.cursor.tokens g3) w.2.cursor.at_ (zt7 g4 w.2.prog.Structs g5) (zt7 g6 w.2.prog.Funcs g7), g0, g1] ∧ Hp.le τ τ' ∧ RdT zm τ' (zt7 g2 w.2.cursor.tokens g3) w.2.cursor.tokens ∧ ze zs 71 τ' (zt7 g4 w.2.prog.Structs g5) w.2.prog.Structs g0 ∧ ze zr 50 τ' (zt7 g6 w.2.prog.Funcs g7) w.2.prog.Funcs g1) ?_ ?_
 ·have hF := j0
  rcases z1 hF with ⟨B, hF⟩ | ⟨B, hF⟩
  ·refine zI (zt3 B) ?_
   refine zp (zt2 B) ?_
   refine zc ?_
   cases hF
   refine zg ?_
   exact ⟨rfl, _, ztZ ztL, hO, hL, h, o, t⟩
  refine zF (zt3 B) ?_
  refine za hO 3 [] [(48, zt1 g)] [0, 4, 45] ztN fun j => ?_
  obtain ⟨q4, j1, hF⟩ := zt6 hF
  refine zz (hs := [_]) hO (zdS h o t (RdT.nil Ty.str _) j1) rfl fun _ σ _ _ hO b7 j2 => ?_
  have hL := hL.trans b7
  have h := h.le b7
  have o := o.le b7
  have t := t.le b7
  obtain ⟨rfl, rfl⟩ := j2
  have hO := zt54 hO
  refine zp (zt2 B) ?_
  refine zc ?_
  cases hF
  refine zg ?_
  exact ⟨rfl, _, ztZ ztL, hO, hL, h, o, t⟩
 rintro e σ ⟨_, hA, hO, hL, h, o, t⟩
 rw [← zM _ _ hA]
 refine zd hO [] [(43, .bool f2)] [0, 4] ztM fun j => ?_
 refine zn hF rfl (fun hF => ?_) fun hF => ?_
 ·refine zi (zbk hO 3 [] [(0, zt1 g), (4, zt1 b3), (53, zt1 g)] ztM fun j => ?_)
  rcases zX hF with ⟨q5, j3, hF⟩ | ⟨j4, j5, hF⟩
  ·refine zY (hs := [_]) hO (zbV h o t j3) ztI rfl fun _ σ _ _ hO j6 j7 => ?_
   have hL := hL.trans j6
   obtain ⟨q6, q7, q8, q9, r0, rfl, rfl, j8, j9, k0⟩ := j7
   have hO := zt54 hO
   cases hF
   have hO := hO.sel [1, 2, 3]
   exact hP _ _ _ _ hO hL ⟨_, _, _, _, _, rfl, rfl, j8, j9, k0⟩
  refine zW (hs := [_]) hO (zbV h o t j5) ztI rfl fun _ σ _ _ hO k1 k4 => ?_
  have hL := hL.trans k1
  obtain ⟨r1, r2, r3, r4, r5, rfl, rfl, k5, k6, k7⟩ := k4
  have hO := zt54 hO
  refine za hO 1 [] [(55, .agg #[(.int .u8 4), (.int .i64 0), (.string j4.1)])] [0, 4] ztM fun j => ?_
  refine zx hO (i := 0) rfl (off := 0) rfl rfl rfl rfl (Nat.le_of_ble_eq_true rfl) rfl fun σ hO => ?_
  have hO := zt54 hO
  refine zc (zbi (z6 (zQ ?_)))
  cases hF
  have z := hO.val (i := 0) rfl (off := 0) (agg := true) (n := 3) rfl
  have hO := hO.sel [1, 2, 3]
  refine (hQ _ _ _ _ _ (zbE rfl (z) rfl) hO hL ?_).1
  exact ⟨_, _, _, _, _, rfl, rfl, k5, k6, k7⟩
 refine zA (zg (zC (zj (zbk hO 1 [] [(0, zt1 g), (4, zt1 b3), (56, .agg #[(.int .u8 0), (.int .i64 0), (.string zs3)])] ztM fun j => ?_))))
 refine zx hO (i := 0) rfl (off := 0) rfl rfl rfl rfl (Nat.le_of_ble_eq_true rfl) rfl fun σ hO => ?_
 have hO := zt54 hO
 refine zc (z9 ?_)
 cases hF
 have z := hO.val (i := 0) rfl (off := 0) (agg := true) (n := 3) rfl
 have hO := hO.sel [1, 2, 3]
 refine (hQ _ _ _ _ _ (zbE rfl (z) rfl) hO hL ?_).1
 exact ⟨_, _, _, _, _, rfl, rfl, h, o, t⟩
theorem zjj {τ : Hp} {q0 : zf} {g : Nat} {B E : Value} {G : Ob} {I : Value} {M : Ob} (U : RdT zm τ B q0.cursor.tokens) (V : ze zs 71 τ E q0.prog.Structs G) (X : ze zr 50 τ I q0.prog.Funcs M) {rr : Except (Value × zf) (zbu × zf)} (hF : zfT q0 = some rr) :
  zbK Try.prog 67 #[.pointer (some ⟨g, 0, none⟩)] τ [zE g B q0.cursor.at_ E I, G, M] (fun v τ' vs' => match (generalizing := false) rr with | .ok rr => ∃ (h o : Value) (t : Ob) (w : Value) (z : Ob), v = .agg #[.string rr.1.Name, .int .u8 rr.1.Type_.Kind.toNat, .int .i64 rr.1.Type_.N, .string rr.1.Type_.Name] ∧ vs' = [zE g h rr.2.cursor.at_ o w, t, z] ∧ RdT zm τ' h rr.2.cursor.tokens ∧ ze zs 71 τ' o rr.2.prog.Structs t ∧ ze zr 50 τ' w rr.2.prog.Funcs z | .error _ => False) (fun ch τ' vs' => match (generalizing := false) rr with | .ok _ => False | .error ee => ∃ (h o : Value) (t : Ob) (w : Value) (z : Ob), ch = [{ v := ee.1, recovered := false }] ∧ vs' = [zE g h ee.2.cursor.at_ o w, t, z] ∧ RdT zm τ' h ee.2.cursor.tokens ∧ ze zs 71 τ' o ee.2.prog.Structs t ∧ ze zr 50 τ' w ee.2.prog.Funcs z) := by
 refine zcA (args := [.pointer (some ⟨g, 0, none⟩)]) hm Try.func67 s67 rfl fun w0 σ hP hO Q hQ => ?_
 unfold zfT at hF
 have hL := Hp.le.refl τ
 show wpn _ _ a67.body _ _ _
 unfold a67
 dsimp only
 refine zbC hO fun b2 σ hO => ?_
 have hO := zt54 hO
 refine zc (za hO 3 [] [(6, zt1 g)] [0, 2] ztM fun j => ?_)
 have hO := hO.sel [3, 0, 1, 2]
 rcases zX hF with ⟨x7, h8, hF⟩ | ⟨c3, h4, hF⟩
 ·refine zY (hs := [_]) hO (zbV (U.le hL) (V.le hL) (X.le hL) h8) ztI rfl fun _ σ _ _ hO h9 b4 => ?_
  have hL := hL.trans h9
  obtain ⟨f1, f2, f3, f4, f5, rfl, rfl, b5, b6, b7⟩ := b4
  have hO := zt54 hO
  cases hF
  have hO := hO.sel [1, 2, 3]
  exact hP _ _ _ _ hO hL ⟨_, _, _, _, _, rfl, rfl, b5, b6, b7⟩
 refine zW (hs := [_]) hO (zbV (U.le hL) (V.le hL) (X.le hL) h4) ztI rfl fun _ σ _ _ hO h5 h6 => ?_
 have hL := hL.trans h5
 obtain ⟨f6, f7, f8, f9, g0, rfl, rfl, Z, b0, b1⟩ := h6
 have hO := zt54 hO
 refine za hO 1 [] [(8, .agg #[(.string c3.1), (.int .u8 0), (.int .i64 0), (.string zs3)])] [0, 2] ztM fun j => ?_
 refine zbC hO fun b8 σ hO => ?_
 have hO := zt55 hO
 refine zx hO (i := 4) rfl (off := 0) rfl rfl rfl rfl (Nat.le_of_ble_eq_true rfl) rfl fun σ hO => ?_
 have hO := zt55 hO
 refine zc (za hO 1 [] [(9, zt1 g)] [0, 2, 3] ztN fun j => ?_)
 have hO := hO.sel [0, 4, 1, 2, 3]
 rcases zX hF with ⟨g1, b9, hF⟩ | ⟨Y, c0, hF⟩
 ·refine zY (hs := [_, _]) hO (zfN Z b0 b1 b9) ztI rfl fun _ σ _ _ hO c1 c2 => ?_
  have hL := hL.trans c1
  obtain ⟨g2, g3, g4, g5, g6, rfl, rfl, c4, c5, c6⟩ := c2
  have hO := zt55 hO
  cases hF
  have hO := hO.sel [2, 3, 4]
  exact hP _ _ _ _ hO hL ⟨_, _, _, _, _, rfl, rfl, c4, c5, c6⟩
 refine zW (hs := [_, _]) hO (zfN Z b0 b1 c0) ztI rfl fun _ σ _ _ hO c7 c8 => ?_
 have hL := hL.trans c7
 obtain ⟨g7, g8, g9, h0, h1, rfl, rfl, c9, d0, d4⟩ := c8
 have hO := zt55 hO
 refine za hO 1 [] [(11, .pointer (some ⟨b8, 1, none⟩))] [0, 2, 3, 10] ztO fun j => ?_
 refine zx hO (i := 1) rfl (off := 1) rfl rfl rfl rfl (Nat.le_of_ble_eq_true rfl) rfl fun σ hO => ?_
 have hO := zt55 hO
 refine zc (za hO 1 [1] [(12, .agg #[(.string c3.1), (.int .u8 (Y.1.Kind.toNat : Int)), (.int .i64 Y.1.N), (.string Y.1.Name)])] [0, 2] (And.intro (And.intro rfl rfl) ztM) fun j => ?_)
 refine zx hO (i := 0) rfl (off := 0) rfl rfl rfl rfl (Nat.le_of_ble_eq_true rfl) rfl fun σ hO => ?_
 have hO := zt55 hO
 refine zc (z9 ?_)
 cases hF
 have d5 := hO.val (i := 0) rfl (off := 0) (agg := true) (n := 4) rfl
 have hO := hO.sel [2, 3, 4]
 refine (hQ _ _ _ _ _ (zbE rfl (d5) rfl) hO hL ?_).1
 exact ⟨_, _, _, _, _, rfl, rfl, c9, d0, d4⟩
theorem zsy {τ : Hp}   {rr : (List (List ByteArray))} (hF : ziY  = some rr) :
  Ctr Try.prog 92 #[] τ [] (fun v τ' vs' => ∃ (v0 : Value) (o0 : Ob), v = v0 ∧ vs' = [o0] ∧ ze (Ty.slice Ty.str) 69 τ' v0 rr o0) := by
 refine zbl (args := []) hm Try.func92 s92 rfl fun w0 σ hO Q hQ => ?_
 unfold ziY at hF
 have hL := Hp.le.refl τ
 show wpn _ _ a92.body _ _ _
 unfold a92
 dsimp only
 refine zU hO [] [] (trivial) fun j => ?_
 refine zt (T := Ty.str) (l := ([ztk] : List ByteArray)) (cs := [.string ztk]) hO rfl ⟨[.string ztk], _, rfl, rfl, rfl⟩ rfl (by decide) fun _ σ o3 w4 hO => ?_
 obtain ⟨A1, c2, rfl, -⟩ := w4.form
 have hO := zt51 hO
 refine zt (T := Ty.str) (l := ([zto] : List ByteArray)) (cs := [.string zto]) hO rfl ⟨[.string zto], _, rfl, rfl, rfl⟩ rfl (by decide) fun _ σ o7 w8 hO => ?_
 obtain ⟨A5, c6, rfl, -⟩ := w8.form
 have hO := zt52 hO
 refine zt (T := Ty.str) (l := ([ztp, ztq, ztz, ztr, ztA, zts] : List ByteArray)) (cs := [.string ztp, .string ztq, .string ztz, .string ztr, .string ztA, .string zts]) hO (by kernel_rfl) ⟨[.string ztp], _, rfl, rfl, ⟨[.string ztq], _, rfl, rfl, ⟨[.string ztz], _, rfl, rfl, ⟨[.string ztr], _, rfl, rfl, ⟨[.string ztA], _, rfl, rfl, ⟨[.string zts], _, rfl, rfl, rfl⟩⟩⟩⟩⟩⟩ rfl (by decide) fun _ σ f5 b0 hO => ?_
 obtain ⟨A9, c3, rfl, -⟩ := b0.form
 have hO := zt53 hO
 refine zt (T := Ty.str) (l := ([ztB, ztf] : List ByteArray)) (cs := [.string ztB, .string ztf]) hO rfl ⟨[.string ztB], _, rfl, rfl, ⟨[.string ztf], _, rfl, rfl, rfl⟩⟩ rfl (by decide) fun _ σ f6 Y hO => ?_
 obtain ⟨c4, c5, rfl, -⟩ := Y.form
 have hO := zt54 hO
 refine zt (T := Ty.str) (l := ([zty, ztC, ztD] : List ByteArray)) (cs := [.string zty, .string ztC, .string ztD]) hO rfl ⟨[.string zty], _, rfl, rfl, ⟨[.string ztC], _, rfl, rfl, ⟨[.string ztD], _, rfl, rfl, rfl⟩⟩⟩ rfl (by decide) fun _ σ f7 V hO => ?_
 obtain ⟨c7, c8, rfl, -⟩ := V.form
 have hO := zt55 hO
 obtain ⟨_, b4, X, hO⟩ := w4.share hO (i := 0) rfl
 have hL := hL.trans b4
 have w8 := w8.le b4
 have b0 := b0.le b4
 have Y := Y.le b4
 have V := V.le b4
 have hO := zt55 hO
 obtain ⟨_, b5, Z, hO⟩ := w8.share hO (i := 1) rfl
 have hL := hL.trans b5
 have X := X.le b5
 have b0 := b0.le b5
 have Y := Y.le b5
 have V := V.le b5
 have hO := zt55 hO
 obtain ⟨_, b6, b7, hO⟩ := b0.share hO (i := 2) rfl
 have hL := hL.trans b6
 have X := X.le b6
 have Z := Z.le b6
 have Y := Y.le b6
 have V := V.le b6
 have hO := zt55 hO
 obtain ⟨_, b8, c0, hO⟩ := Y.share hO (i := 3) rfl
 have hL := hL.trans b8
 have X := X.le b8
 have Z := Z.le b8
 have b7 := b7.le b8
 have V := V.le b8
 have hO := zt55 hO
 obtain ⟨_, b9, f1, hO⟩ := V.share hO (i := 4) rfl
 have hL := hL.trans b9
 have X := X.le b9
 have Z := Z.le b9
 have b7 := b7.le b9
 have c0 := c0.le b9
 have hO := zt55 hO
 refine zt (T := (Ty.slice Ty.str)) (l := ([([ztk] : List ByteArray), ([zto] : List ByteArray), ([ztp, ztq, ztz, ztr, ztA, zts] : List ByteArray), ([ztB, ztf] : List ByteArray), ([zty, ztC, ztD] : List ByteArray)] : List (List ByteArray))) (cs := [zt7 A1 ([ztk] : List ByteArray) c2, zt7 A5 ([zto] : List ByteArray) c6, zt7 A9 ([ztp, ztq, ztz, ztr, ztA, zts] : List ByteArray) c3, zt7 c4 ([ztB, ztf] : List ByteArray) c5, zt7 c7 ([zty, ztC, ztD] : List ByteArray) c8]) hO rfl ⟨[zt7 A1 ([ztk] : List ByteArray) c2], _, rfl, ⟨_, rfl, X⟩, ⟨[zt7 A5 ([zto] : List ByteArray) c6], _, rfl, ⟨_, rfl, Z⟩, ⟨[zt7 A9 ([ztp, ztq, ztz, ztr, ztA, zts] : List ByteArray) c3], _, rfl, ⟨_, rfl, b7⟩, ⟨[zt7 c4 ([ztB, ztf] : List ByteArray) c5], _, rfl, ⟨_, rfl, c0⟩, ⟨[zt7 c7 ([zty, ztC, ztD] : List ByteArray) c8], _, rfl, ⟨_, rfl, f1⟩, rfl⟩⟩⟩⟩⟩ rfl (by decide) fun _ σ f8 c9 hO => ?_
 obtain ⟨f2, f3, rfl, -⟩ := c9.form
 have hO := zt56 hO
 refine zU hO [] [(0, zt7 f2 ([([ztk] : List ByteArray), ([zto] : List ByteArray), ([ztp, ztq, ztz, ztr, ztA, zts] : List ByteArray), ([ztB, ztf] : List ByteArray), ([zty, ztC, ztD] : List ByteArray)] : List (List ByteArray)) f3)] ztK fun j => ?_
 refine z9 ?_
 cases hF
 have hO := hO.sel [5]
 exact hQ _ _ _ _ _ rfl hO hL ⟨_, _, rfl, rfl, c9⟩
def zhl (gn : Nat) : Prop := ∀ {τ : Hp} {q0 : zf} {z : Nat} {B E : Value} {G : Ob} {I : Value} {M : Ob} (b1 : RdT zm τ B q0.cursor.tokens) (b2 : ze zs 71 τ E q0.prog.Structs G) (b3 : ze zr 50 τ I q0.prog.Funcs M) {rr : Except (Value × zf) (zb × zf)} (hF : ((z8 gn).1) q0 = some rr), zbK Try.prog 83 #[.pointer (some ⟨z, 0, none⟩)] τ [zE z B q0.cursor.at_ E I, G, M] (fun v τ' vs' => match (generalizing := false) rr with | .ok rr => ∃ (U g h : Value) (o : Ob) (t : Value) (w : Ob), v = .agg #[.int .u8 rr.1.Kind.toNat, .int .i64 rr.1.Num, .string rr.1.Name, .string rr.1.Field, .string rr.1.Op, U] ∧ vs' = [zE z g rr.2.cursor.at_ h t, o, w] ∧ RdT zu τ' U rr.1.Kids ∧ RdT zm τ' g rr.2.cursor.tokens ∧ ze zs 71 τ' h rr.2.prog.Structs o ∧ ze zr 50 τ' t rr.2.prog.Funcs w | .error _ => False) (fun ch τ' vs' => match (generalizing := false) rr with | .ok _ => False | .error ee => ∃ (g h : Value) (o : Ob) (t : Value) (w : Ob), ch = [{ v := ee.1, recovered := false }] ∧ vs' = [zE z g ee.2.cursor.at_ h t, o, w] ∧ RdT zm τ' g ee.2.cursor.tokens ∧ ze zs 71 τ' h ee.2.prog.Structs o ∧ ze zr 50 τ' t ee.2.prog.Funcs w)
def zgR (gn : Nat) : Prop := ∀ {τ : Hp} {q0 : zf} {z : Nat} {B E : Value} {G : Ob} {I : Value} {M : Ob} {v1 : Value} {p1 : (List (List ByteArray))} (b1 : RdT zm τ B q0.cursor.tokens) (b2 : ze zs 71 τ E q0.prog.Structs G) (b3 : ze zr 50 τ I q0.prog.Funcs M) (r1 : RdT (Ty.slice Ty.str) τ v1 p1) {rr : Except (Value × zf) (zb × zf)} (hF : ((z8 gn).2.1) q0 p1 = some rr), zbK Try.prog 91 #[.pointer (some ⟨z, 0, none⟩), v1] τ [zE z B q0.cursor.at_ E I, G, M] (fun v τ' vs' => match (generalizing := false) rr with | .ok rr => ∃ (U g h : Value) (o : Ob) (t : Value) (w : Ob), v = .agg #[.int .u8 rr.1.Kind.toNat, .int .i64 rr.1.Num, .string rr.1.Name, .string rr.1.Field, .string rr.1.Op, U] ∧ vs' = [zE z g rr.2.cursor.at_ h t, o, w] ∧ RdT zu τ' U rr.1.Kids ∧ RdT zm τ' g rr.2.cursor.tokens ∧ ze zs 71 τ' h rr.2.prog.Structs o ∧ ze zr 50 τ' t rr.2.prog.Funcs w | .error _ => False) (fun ch τ' vs' => match (generalizing := false) rr with | .ok _ => False | .error ee => ∃ (g h : Value) (o : Ob) (t : Value) (w : Ob), ch = [{ v := ee.1, recovered := false }] ∧ vs' = [zE z g ee.2.cursor.at_ h t, o, w] ∧ RdT zm τ' g ee.2.cursor.tokens ∧ ze zs 71 τ' h ee.2.prog.Structs o ∧ ze zr 50 τ' t ee.2.prog.Funcs w)
def zhw (gn : Nat) : Prop := ∀ {τ : Hp} {q0 : zf} {z : Nat} {B E : Value} {G : Ob} {I : Value} {M : Ob} (b1 : RdT zm τ B q0.cursor.tokens) (b2 : ze zs 71 τ E q0.prog.Structs G) (b3 : ze zr 50 τ I q0.prog.Funcs M) {rr : Except (Value × zf) (zb × zf)} (hF : ((z8 gn).2.2.1) q0 = some rr), zbK Try.prog 95 #[.pointer (some ⟨z, 0, none⟩)] τ [zE z B q0.cursor.at_ E I, G, M] (fun v τ' vs' => match (generalizing := false) rr with | .ok rr => ∃ (U g h : Value) (o : Ob) (t : Value) (w : Ob), v = .agg #[.int .u8 rr.1.Kind.toNat, .int .i64 rr.1.Num, .string rr.1.Name, .string rr.1.Field, .string rr.1.Op, U] ∧ vs' = [zE z g rr.2.cursor.at_ h t, o, w] ∧ RdT zu τ' U rr.1.Kids ∧ RdT zm τ' g rr.2.cursor.tokens ∧ ze zs 71 τ' h rr.2.prog.Structs o ∧ ze zr 50 τ' t rr.2.prog.Funcs w | .error _ => False) (fun ch τ' vs' => match (generalizing := false) rr with | .ok _ => False | .error ee => ∃ (g h : Value) (o : Ob) (t : Value) (w : Ob), ch = [{ v := ee.1, recovered := false }] ∧ vs' = [zE z g ee.2.cursor.at_ h t, o, w] ∧ RdT zm τ' g ee.2.cursor.tokens ∧ ze zs 71 τ' h ee.2.prog.Structs o ∧ ze zr 50 τ' t ee.2.prog.Funcs w)
def zik (gn : Nat) : Prop := ∀ {τ : Hp} {q0 : zf} {z : Nat} {B E : Value} {G : Ob} {I : Value} {M : Ob} (b1 : RdT zm τ B q0.cursor.tokens) (b2 : ze zs 71 τ E q0.prog.Structs G) (b3 : ze zr 50 τ I q0.prog.Funcs M) {rr : Except (Value × zf) (zb × zf)} (hF : ((z8 gn).2.2.2) q0 = some rr), zbK Try.prog 98 #[.pointer (some ⟨z, 0, none⟩)] τ [zE z B q0.cursor.at_ E I, G, M] (fun v τ' vs' => match (generalizing := false) rr with | .ok rr => ∃ (U g h : Value) (o : Ob) (t : Value) (w : Ob), v = .agg #[.int .u8 rr.1.Kind.toNat, .int .i64 rr.1.Num, .string rr.1.Name, .string rr.1.Field, .string rr.1.Op, U] ∧ vs' = [zE z g rr.2.cursor.at_ h t, o, w] ∧ RdT zu τ' U rr.1.Kids ∧ RdT zm τ' g rr.2.cursor.tokens ∧ ze zs 71 τ' h rr.2.prog.Structs o ∧ ze zr 50 τ' t rr.2.prog.Funcs w | .error _ => False) (fun ch τ' vs' => match (generalizing := false) rr with | .ok _ => False | .error ee => ∃ (g h : Value) (o : Ob) (t : Value) (w : Ob), ch = [{ v := ee.1, recovered := false }] ∧ vs' = [zE z g ee.2.cursor.at_ h t, o, w] ∧ RdT zm τ' g ee.2.cursor.tokens ∧ ze zs 71 τ' h ee.2.prog.Structs o ∧ ze zr 50 τ' t ee.2.prog.Funcs w)
theorem zof {gn : Nat} (ih_syntax_parser_exp : zhl gn) (ih_syntax_parser_binary : zgR gn) (ih_syntax_parser_unary : zhw gn) (ih_syntax_parser_index : zik gn) {τ : Hp} {q0 : zf} {z : Nat} {E G : Value} {I : Ob} {M : Value} {U : Ob} (V : RdT zm τ E q0.cursor.tokens) (X : ze zs 71 τ G q0.prog.Structs I) (Y : ze zr 50 τ M q0.prog.Funcs U) {rr : Except (Value × zf) (zb × zf)} (hF : zhp ((z8 gn).1) ((z8 gn).2.1) ((z8 gn).2.2.1) ((z8 gn).2.2.2) q0 = some rr) :
  zbK Try.prog 83 #[.pointer (some ⟨z, 0, none⟩)] τ [zE z E q0.cursor.at_ G M, I, U] (fun v τ' vs' => match (generalizing := false) rr with | .ok rr => ∃ (Z g h : Value) (o : Ob) (t : Value) (w : Ob), v = .agg #[.int .u8 rr.1.Kind.toNat, .int .i64 rr.1.Num, .string rr.1.Name, .string rr.1.Field, .string rr.1.Op, Z] ∧ vs' = [zE z g rr.2.cursor.at_ h t, o, w] ∧ RdT zu τ' Z rr.1.Kids ∧ RdT zm τ' g rr.2.cursor.tokens ∧ ze zs 71 τ' h rr.2.prog.Structs o ∧ ze zr 50 τ' t rr.2.prog.Funcs w | .error _ => False) (fun ch τ' vs' => match (generalizing := false) rr with | .ok _ => False | .error ee => ∃ (g h : Value) (o : Ob) (t : Value) (w : Ob), ch = [{ v := ee.1, recovered := false }] ∧ vs' = [zE z g ee.2.cursor.at_ h t, o, w] ∧ RdT zm τ' g ee.2.cursor.tokens ∧ ze zs 71 τ' h ee.2.prog.Structs o ∧ ze zr 50 τ' t ee.2.prog.Funcs w) := by
 refine zcA (args := [.pointer (some ⟨z, 0, none⟩)]) hm Try.func83 s83 rfl fun w0 σ hP hO Q hQ => ?_
 unfold zhp at hF
 have hL := Hp.le.refl τ
 show wpn _ _ a83.body _ _ _
 unfold a83
 dsimp only
 refine zbC hO fun b2 σ hO => ?_
 have hO := zt54 hO
 refine zc (za hO 1 [] [(3, zt1 z)] [0, 2] ztM fun j => ?_)
 obtain ⟨c3, h4, hF⟩ := zt6 hF
 refine z5 hO (zsy h4) rfl fun _ σ _ _ hO h5 h6 => ?_
 have hL := hL.trans h5
 obtain ⟨v7, d4, rfl, rfl, b4⟩ := h6
 have hO := zt55 hO
 obtain ⟨_, b5, B, hO⟩ := b4.share hO (i := 4) rfl
 have hL := hL.trans b5
 have hO := zt55 hO
 have hO := hO.sel [3, 4, 0, 1, 2]
 rcases zX hF with ⟨d5, b6, hF⟩ | ⟨d6, b7, hF⟩
 ·refine zY (hs := [_, _]) hO (ih_syntax_parser_binary (V.le hL) (X.le hL) (Y.le hL) B b6) ztI rfl fun _ σ _ _ hO b0 b8 => ?_
  have hL := hL.trans b0
  have B := B.le b0
  obtain ⟨d7, d8, d9, f0, f1, rfl, rfl, b9, c0, c1⟩ := b8
  have hO := zt55 hO
  cases hF
  have hO := hO.sel [2, 3, 4]
  exact hP _ _ _ _ hO hL ⟨_, _, _, _, _, rfl, rfl, b9, c0, c1⟩
 refine zW (hs := [_, _]) hO (ih_syntax_parser_binary (V.le hL) (X.le hL) (Y.le hL) B b7) ztI rfl fun _ σ _ _ hO b1 c2 => ?_
 have hL := hL.trans b1
 have B := B.le b1
 obtain ⟨f2, f3, f4, f5, f6, f7, rfl, rfl, b3, c4, c5, c6⟩ := c2
 obtain ⟨f8, f9, rfl, -⟩ := b3.form
 have hO := zt55 hO
 refine zx hO (i := 0) rfl (off := 0) rfl rfl rfl rfl (Nat.le_of_ble_eq_true rfl) rfl fun σ hO => ?_
 have hO := zt55 hO
 refine zc (z9 ?_)
 cases hF
 have c7 := hO.val (i := 0) rfl (off := 0) (agg := true) (n := 6) rfl
 have hO := hO.sel [2, 3, 4]
 refine (hQ _ _ _ _ _ (zbE rfl (c7) rfl) hO hL ?_).1
 exact ⟨_, _, _, _, _, _, rfl, rfl, b3, c4, c5, c6⟩
theorem zqk {gn : Nat} (ih_syntax_parser_exp : zhl gn) (ih_syntax_parser_binary : zgR gn) (ih_syntax_parser_unary : zhw gn) (ih_syntax_parser_index : zik gn) {τ : Hp} {q0 : zf} {U : Nat} {f8 f9 : Value} {g0 : Ob} {g1 : Value} {g2 : Ob} {v1 : Value} {p1 : (List (List ByteArray))} (b6 : RdT zm τ f8 q0.cursor.tokens) (b7 : ze zs 71 τ f9 q0.prog.Structs g0) (b8 : ze zr 50 τ g1 q0.prog.Funcs g2) (r1 : RdT (Ty.slice Ty.str) τ v1 p1) {rr : Except (Value × zf) (zb × zf)} (hF : zgY ((z8 gn).1) ((z8 gn).2.1) ((z8 gn).2.2.1) ((z8 gn).2.2.2) q0 p1 = some rr) :
  zbK Try.prog 91 #[.pointer (some ⟨U, 0, none⟩), v1] τ [zE U f8 q0.cursor.at_ f9 g1, g0, g2] (fun v τ' vs' => match (generalizing := false) rr with | .ok rr => ∃ (g3 b9 c0 : Value) (c2 : Ob) (c3 : Value) (c4 : Ob), v = .agg #[.int .u8 rr.1.Kind.toNat, .int .i64 rr.1.Num, .string rr.1.Name, .string rr.1.Field, .string rr.1.Op, g3] ∧ vs' = [zE U b9 rr.2.cursor.at_ c0 c3, c2, c4] ∧ RdT zu τ' g3 rr.1.Kids ∧ RdT zm τ' b9 rr.2.cursor.tokens ∧ ze zs 71 τ' c0 rr.2.prog.Structs c2 ∧ ze zr 50 τ' c3 rr.2.prog.Funcs c4 | .error _ => False) (fun ch τ' vs' => match (generalizing := false) rr with | .ok _ => False | .error ee => ∃ (b9 c0 : Value) (c2 : Ob) (c3 : Value) (c4 : Ob), ch = [{ v := ee.1, recovered := false }] ∧ vs' = [zE U b9 ee.2.cursor.at_ c0 c3, c2, c4] ∧ RdT zm τ' b9 ee.2.cursor.tokens ∧ ze zs 71 τ' c0 ee.2.prog.Structs c2 ∧ ze zr 50 τ' c3 ee.2.prog.Funcs c4) := by
 obtain ⟨A1, c1, rfl, -⟩ := r1.form
 refine zcA (args := [.pointer (some ⟨U, 0, none⟩), .slice A1 p1.length c1]) hm Try.func91 s91 rfl fun w0 σ hP hO Q hQ => ?_
 unfold zgY at hF
 have hL := Hp.le.refl τ
 show wpn _ _ a91.body _ _ _
 unfold a91
 dsimp only
 refine zbC hO fun b3 σ hO => ?_
 have hO := zt54 hO
 refine zc (zi (zd hO [] [(9, .bool ((p1.length : Int) == 0))] [0, 1, 4] ztN fun j => ?_))
 refine zn hF rfl (fun hF => ?_) fun hF => ?_
 ·refine zi (za hO 1 [] [(10, zt1 U)] [0, 4] ztM fun j => ?_)
  have hO := hO.sel [3, 0, 1, 2]
  rcases zX hF with ⟨x9, m3, hF⟩ | ⟨c5, h6, hF⟩
  ·refine zY (hs := [_]) hO (ih_syntax_parser_unary (b6.le hL) (b7.le hL) (b8.le hL) m3) ztI rfl fun _ σ _ _ hO m4 m5 => ?_
   have hL := hL.trans m4
   obtain ⟨t4, t5, t6, t7, t8, rfl, rfl, m6, m7, m8⟩ := m5
   have hO := zt54 hO
   cases hF
   have hO := hO.sel [1, 2, 3]
   exact hP _ _ _ _ hO hL ⟨_, _, _, _, _, rfl, rfl, m6, m7, m8⟩
  refine zW (hs := [_]) hO (ih_syntax_parser_unary (b6.le hL) (b7.le hL) (b8.le hL) h6) ztI rfl fun _ σ _ _ hO h7 h8 => ?_
  have hL := hL.trans h7
  obtain ⟨t9, u0, u1, u2, u3, u4, rfl, rfl, i2, m9, n0, n1⟩ := h8
  obtain ⟨u5, u6, rfl, -⟩ := i2.form
  have hO := zt54 hO
  refine zx hO (i := 0) rfl (off := 0) rfl rfl rfl rfl (Nat.le_of_ble_eq_true rfl) rfl fun σ hO => ?_
  have hO := zt54 hO
  refine zc (zbi ?_)
  cases hF
  have g6 := hO.val (i := 0) rfl (off := 0) (agg := true) (n := 6) rfl
  have hO := hO.sel [1, 2, 3]
  refine (hQ _ _ _ _ _ (zbE rfl (g6) rfl) hO hL ?_).1
  exact ⟨_, _, _, _, _, _, rfl, rfl, i2, m9, n0, n1⟩
 refine zA (za hO 2 [] [(12, zt1 U), (13, zt7 A1 p1 c1)] [0, 1, 4] ztO fun j => ?_)
 obtain ⟨u7, n2, hF⟩ := zt6 hF
 refine zhn (T := (Ty.slice Ty.str)) (r1.le hL) rfl rfl rfl n2 fun _ c6 => ?_
 have hO := hO.sel [3, 0, 1, 2]
 rcases zX hF with ⟨u9, n3, hF⟩ | ⟨V, n4, hF⟩
 ·refine zY (hs := [_]) hO (ih_syntax_parser_binary (b6.le hL) (b7.le hL) (b8.le hL) c6 n3) ztI rfl fun _ σ _ _ hO i3 n5 => ?_
  have hL := hL.trans i3
  have c6 := c6.le i3
  obtain ⟨v0, v2, v3, v4, v5, rfl, rfl, n6, n7, n8⟩ := n5
  have hO := zt54 hO
  cases hF
  have hO := hO.sel [1, 2, 3]
  exact hP _ _ _ _ hO hL ⟨_, _, _, _, _, rfl, rfl, n6, n7, n8⟩
 refine zW (hs := [_]) hO (ih_syntax_parser_binary (b6.le hL) (b7.le hL) (b8.le hL) c6 n4) ztI rfl fun _ σ _ _ hO i4 n9 => ?_
 have hL := hL.trans i4
 have c6 := c6.le i4
 obtain ⟨v6, v7, v8, o0, v9, o1, rfl, rfl, i5, i6, i7, i8⟩ := n9
 obtain ⟨o2, o3, rfl, -⟩ := i5.form
 obtain ⟨o4, o5, rfl, -⟩ := i6.form
 obtain ⟨o6, o7, rfl, -⟩ := i7.form
 obtain ⟨o8, o9, rfl, -⟩ := i8.form
 have hO := zt54 hO
 refine zbC hO fun i9 σ hO => ?_
 have hO := zt55 hO
 refine zx hO (i := 4) rfl (off := 0) rfl rfl rfl rfl (Nat.le_of_ble_eq_true rfl) rfl fun σ hO => ?_
 have hO := zt55 hO
 refine zc (zH ?_)
 have hO := hO.sel [1, 2, 3, 0, 4]
 refine zbo (fun (n : Nat) e' σ' => ∃ (d6 : Option Addr) (d7 : Nat) (G : List zl) (X : Int) (d8 : Option Addr) (d9 : Nat) (f0 : Ob) (I : List zq) (f1 : Option Addr) (f2 : Nat) (f3 : Ob) (M : List zo) (t : UInt8) (w : Int) (z B E : ByteArray) (Y : Option Addr) (Z : Nat) (h : List zb) (τ' : Hp), agr [(0, zt1 U), (1, zt7 A1 p1 c1), (4, zt1 b3), (5, zt1 i9)] e' ∧ Obs τ' σ' [zE U (zt7 d6 G d7) X (zt7 d8 I d9) (zt7 f1 M f2), f0, f3, zeT b3 0 0 zs3 zs3 zs3 (.slice none 0 0), zeT i9 (t.toNat : Int) w z B E (zt7 Y h Z)] ∧ Hp.le τ τ' ∧ RdT zm τ' (zt7 d6 G d7) G ∧ ze zs 71 τ' (zt7 d8 I d9) I f0 ∧ ze zr 50 τ' (zt7 f1 M f2) M f3 ∧ RdT zu τ' (zt7 Y h Z) h ∧ zgQ (z8 gn).2.1 p1 n G X I M t w z B E h = some rr) big ⟨o4, o5, V.2.cursor.tokens, V.2.cursor.at_, o6, o7, o0, V.2.prog.Structs, o8, o9, o1, V.2.prog.Funcs, V.1.Kind, V.1.Num, V.1.Name, V.1.Field, V.1.Op, o2, o3, V.1.Kids, _, ztZ ztM, hO, hL, i6, i7, i8, i5, hF⟩ ?_
 clear hF hO hL
 rintro c7 e σ ⟨d6, d7, G, X, d8, d9, f0, I, f1, f2, f3, M, t, w, z, B, E, Y, Z, h, _, hA, hO, hL, b1, b2, b4, o, hF⟩
 rw [← zM _ _ hA]
 cases c7 with
 | zero => exact nomatch (show none = some rr from hF)
 | succ c7 =>
 replace hF : zhL (zgQ (z8 gn).2.1 p1 c7) (z8 gn).2.1 p1 G X I M t w z B E h = some rr := hF
 unfold zhL at hF
 refine zi (zb9 (za hO 4 [] [(18, zt1 U), (19, zt7 A1 p1 c1)] [0, 1, 4, 5] ztP fun j => ?_))
 obtain ⟨p5, j0, hF⟩ := zt6 hF
 refine zN (T := (Ty.slice Ty.str)) (r1.le hL) hO.base rfl rfl j0 (by decide) fun a350 _ j1 f4 => ?_
 obtain ⟨p6, rfl, f5⟩ := j1
 refine zG rfl (f4.le hO.base).fst ?_
 obtain ⟨p7, j2, hF⟩ := zt6 hF
 have hO := hO.sel [3, 4, 0, 1, 2]
 refine zz (hs := [_, _]) hO (zdS (q0 := (⟨(⟨G, X⟩ : zbe), (⟨I, M⟩ : zB)⟩ : zf)) b1 b2 b4 f5 j2) rfl fun _ σ _ _ hO b0 j3 => ?_
 have hL := hL.trans b0
 have f4 := f4.le b0
 have f5 := f5.le b0
 have o := o.le b0
 have b1 := b1.le b0
 have b2 := b2.le b0
 have b4 := b4.le b0
 obtain ⟨rfl, rfl⟩ := j3
 have hO := zt55 hO
 have hO := hO.sel [2, 3, 4, 0, 1]
 have hO := zt55 hO
 refine zc (zn hF rfl (fun hF => ?_) fun hF => ?_)
 ·refine zA (zbU (zH (za hO 3 [] [(25, zt1 U)] [0, 1, 4, 5] ztO fun j => ?_)))
  have hO := hO.sel [3, 4, 0, 1, 2]
  rcases zX hF with ⟨p8, j4, hF⟩ | ⟨c8, j5, hF⟩
  ·refine zY (hs := [_, _]) hO (zco (q0 := (⟨(⟨G, X⟩ : zbe), (⟨I, M⟩ : zB)⟩ : zf)) b1 b2 b4 (RdT.nil Ty.str _) j4) ztI rfl fun _ σ _ _ hO g7 j6 => ?_
   have hL := hL.trans g7
   have o := o.le g7
   obtain ⟨p9, q2, q3, q4, q5, rfl, rfl, j7, j8, j9⟩ := j6
   have hO := zt55 hO
   cases hF
   have hO := hO.sel [2, 3, 4]
   exact hP _ _ _ _ hO hL ⟨_, _, _, _, _, rfl, rfl, j7, j8, j9⟩
  refine zW (hs := [_, _]) hO (zco (q0 := (⟨(⟨G, X⟩ : zbe), (⟨I, M⟩ : zB)⟩ : zf)) b1 b2 b4 (RdT.nil Ty.str _) j5) ztI rfl fun _ σ _ _ hO g8 k0 => ?_
  have hL := hL.trans g8
  have o := o.le g8
  obtain ⟨q6, q7, q8, q9, r0, rfl, rfl, g9, h0, h1⟩ := k0
  have hO := zt55 hO
  refine zd hO [] [(6, .string c8.1.Text)] [0, 1, 4, 5] ztO fun j => ?_
  refine zfO (za hO 4 [1] [(28, .string c8.1.Text), (29, .agg #[(.int .u8 (t.toNat : Int)), (.int .i64 w), (.string z), (.string B), (.string E), (zt7 Y h Z)]), (30, zt1 U), (31, zt7 A1 p1 c1)] [0, 1, 4, 5] (And.intro (And.intro rfl rfl) ztR) fun j => ?_)
  obtain ⟨r2, k1, hF⟩ := zt6 hF
  refine zhn (T := (Ty.slice Ty.str)) (r1.le hL) rfl rfl rfl k1 fun _ b5 => ?_
  refine zcj ?_
  rcases zX hF with ⟨r3, k4, hF⟩ | ⟨g, k5, hF⟩
  ·refine zY (hs := [_, _]) hO (ih_syntax_parser_binary g9 h0 h1 b5 k4) ztI rfl fun _ σ _ _ hO f6 k6 => ?_
   have hL := hL.trans f6
   have o := o.le f6
   have b5 := b5.le f6
   obtain ⟨r4, r5, r6, r7, r8, rfl, rfl, k7, k8, l0⟩ := k6
   have hO := zt55 hO
   cases hF
   have hO := hO.sel [2, 3, 4]
   exact hP _ _ _ _ hO hL ⟨_, _, _, _, _, rfl, rfl, k7, k8, l0⟩
  refine zW (hs := [_, _]) hO (ih_syntax_parser_binary g9 h0 h1 b5 k5) ztI rfl fun _ σ _ _ hO f7 l1 => ?_
  have hL := hL.trans f7
  have o := o.le f7
  have b5 := b5.le f7
  obtain ⟨r9, t0, t1, l2, t2, l3, rfl, rfl, h2, c9, d0, d4⟩ := l1
  obtain ⟨h3, h4, rfl, -⟩ := h2.form
  obtain ⟨l4, l5, rfl, -⟩ := c9.form
  obtain ⟨l6, l7, rfl, -⟩ := d0.form
  obtain ⟨l8, l9, rfl, -⟩ := d4.form
  have hO := zt55 hO
  refine zc (zcg ⟨(zb1 rfl (hO.val (i := 1) (off := 0) (agg := true) (n := 6) rfl rfl) rfl), trivial⟩ ?_)
  refine zt (T := zu) (l := ([(⟨t, w, z, B, E, h⟩ : zb), (⟨g.1.Kind, g.1.Num, g.1.Name, g.1.Field, g.1.Op, g.1.Kids⟩ : zb)] : List zb)) (cs := [.int .u8 (t.toNat : Int), .int .i64 w, .string z, .string B, .string E, zt7 Y h Z, .int .u8 (g.1.Kind.toNat : Int), .int .i64 g.1.Num, .string g.1.Name, .string g.1.Field, .string g.1.Op, zt7 h3 g.1.Kids h4]) hO rfl ⟨[.int .u8 (t.toNat : Int), .int .i64 w, .string z, .string B, .string E, zt7 Y h Z], _, rfl, (zb8 ⟨_, rfl, o⟩), ⟨[.int .u8 (g.1.Kind.toNat : Int), .int .i64 g.1.Num, .string g.1.Name, .string g.1.Field, .string g.1.Op, zt7 h3 g.1.Kids h4], _, rfl, (zb8 ⟨_, rfl, h2⟩), rfl⟩⟩ rfl (by decide) fun _ σ t3 h5 hO => ?_
  obtain ⟨h9, i0, rfl, -⟩ := h5.form
  have hO := zt56 hO
  refine za hO 1 [] [(35, .agg #[(.int .u8 7), (.int .i64 0), (.string zs3), (.string zs3), (.string c8.1.Text), (zt7 h9 ([(⟨t, w, z, B, E, h⟩ : zb), (⟨g.1.Kind, g.1.Num, g.1.Name, g.1.Field, g.1.Op, g.1.Kids⟩ : zb)] : List zb) i0)])] [0, 1, 4, 5] ztO fun j => ?_
  refine zx hO (i := 1) rfl (off := 0) rfl rfl rfl rfl (Nat.le_of_ble_eq_true rfl) rfl fun σ hO => ?_
  have hO := zt56 hO
  refine zc (zg (zC (zj (zg (zj ?_)))))
  obtain ⟨_, d5, m0, hO⟩ := h5.share hO (i := 5) rfl
  have hL := hL.trans d5
  have c9 := c9.le d5
  have d0 := d0.le d5
  have d4 := d4.le d5
  have hO := zt56 hO
  have hO := hO.sel [2, 3, 4, 0, 1]
  exact ⟨c7, Nat.lt_succ_self _, l4, l5, g.2.cursor.tokens, g.2.cursor.at_, l6, l7, l2, g.2.prog.Structs, l8, l9, l3, g.2.prog.Funcs, (7 : UInt8), 0, zs3, zs3, c8.1.Text, h9, i0, ([(⟨t, w, z, B, E, h⟩ : zb), (⟨g.1.Kind, g.1.Num, g.1.Name, g.1.Field, g.1.Op, g.1.Kids⟩ : zb)] : List zb), _, ztZ ztM, hO, hL, c9, d0, d4, m0, hF⟩
 refine zbs (zbp (zbr (zj (za hO 1 [4] [(36, .agg #[(.int .u8 (t.toNat : Int)), (.int .i64 w), (.string z), (.string B), (.string E), (zt7 Y h Z)])] [0, 4] (And.intro (And.intro rfl rfl) ztM) fun j => ?_))))
 refine zx hO (i := 3) rfl (off := 0) rfl rfl rfl rfl (Nat.le_of_ble_eq_true rfl) rfl fun σ hO => ?_
 have hO := zt55 hO
 refine zc (z9 ?_)
 cases hF
 have g6 := hO.val (i := 3) rfl (off := 0) (agg := true) (n := 6) rfl
 have hO := hO.sel [0, 1, 2]
 refine (hQ _ _ _ _ _ (zbE rfl (g6) rfl) hO hL ?_).1
 exact ⟨_, _, _, _, _, _, rfl, rfl, o, b1, b2, b4⟩
theorem zn5 {gn : Nat} (ih_syntax_parser_exp : zhl gn) (ih_syntax_parser_binary : zgR gn) (ih_syntax_parser_unary : zhw gn) (ih_syntax_parser_index : zik gn) {τ : Hp} {q0 : zf} {o : Nat} {g1 g2 : Value} {g3 : Ob} {g4 : Value} {g5 : Ob} (Y : RdT zm τ g1 q0.cursor.tokens) (Z : ze zs 71 τ g2 q0.prog.Structs g3) (b0 : ze zr 50 τ g4 q0.prog.Funcs g5) {rr : Except (Value × zf) (zb × zf)} (hF : zh6 ((z8 gn).1) ((z8 gn).2.1) ((z8 gn).2.2.1) ((z8 gn).2.2.2) q0 = some rr) :
  zbK Try.prog 95 #[.pointer (some ⟨o, 0, none⟩)] τ [zE o g1 q0.cursor.at_ g2 g4, g3, g5] (fun v τ' vs' => match (generalizing := false) rr with | .ok rr => ∃ (g7 b1 b3 : Value) (b4 : Ob) (b5 : Value) (b6 : Ob), v = .agg #[.int .u8 rr.1.Kind.toNat, .int .i64 rr.1.Num, .string rr.1.Name, .string rr.1.Field, .string rr.1.Op, g7] ∧ vs' = [zE o b1 rr.2.cursor.at_ b3 b5, b4, b6] ∧ RdT zu τ' g7 rr.1.Kids ∧ RdT zm τ' b1 rr.2.cursor.tokens ∧ ze zs 71 τ' b3 rr.2.prog.Structs b4 ∧ ze zr 50 τ' b5 rr.2.prog.Funcs b6 | .error _ => False) (fun ch τ' vs' => match (generalizing := false) rr with | .ok _ => False | .error ee => ∃ (b1 b3 : Value) (b4 : Ob) (b5 : Value) (b6 : Ob), ch = [{ v := ee.1, recovered := false }] ∧ vs' = [zE o b1 ee.2.cursor.at_ b3 b5, b4, b6] ∧ RdT zm τ' b1 ee.2.cursor.tokens ∧ ze zs 71 τ' b3 ee.2.prog.Structs b4 ∧ ze zr 50 τ' b5 ee.2.prog.Funcs b6) := by
 refine zcA (args := [.pointer (some ⟨o, 0, none⟩)]) hm Try.func95 s95 rfl fun w0 σ hP hO Q hQ => ?_
 unfold zh6 at hF
 have hL := Hp.le.refl τ
 show wpn _ _ a95.body _ _ _
 unfold a95
 dsimp only
 refine zbC hO fun b2 σ hO => ?_
 have hO := zt54 hO
 refine zc (zH (za hO 3 [] [(9, zt1 o)] [0, 2] ztM fun j => ?_))
 refine zt (T := Ty.str) (l := ([ztf, ztH] : List ByteArray)) (cs := [.string ztf, .string ztH]) hO rfl ⟨[.string ztf], _, rfl, rfl, ⟨[.string ztH], _, rfl, rfl, rfl⟩⟩ rfl (by decide) fun _ σ o5 w6 hO => ?_
 have hO := zt55 hO
 obtain ⟨_, h8, r7, hO⟩ := w6.share hO (i := 4) rfl
 have hL := hL.trans h8
 have hO := zt55 hO
 obtain ⟨c9, u2, hF⟩ := zt6 hF
 have hO := hO.sel [3, 4, 0, 1, 2]
 refine zz (hs := [_, _]) hO (zdS (Y.le hL) (Z.le hL) (b0.le hL) r7 u2) rfl fun _ σ _ _ hO i1 u3 => ?_
 have hL := hL.trans i1
 have r7 := r7.le i1
 obtain ⟨rfl, rfl⟩ := u3
 have hO := zt55 hO
 have hO := hO.sel [2, 3, 4, 0, 1]
 have hO := zt55 hO
 refine zd hO [] [(6, .bool c9)] [0, 2] ztM fun j => ?_
 refine zbm (zn hF rfl (fun hF => ?_) fun hF => ?_)
 ·refine zi (za hO 3 [] [(14, zt1 o)] [0, 2] ztM fun j => ?_)
  have hO := hO.sel [3, 4, 0, 1, 2]
  rcases zX hF with ⟨I0, u4, hF⟩ | ⟨g8, u5, hF⟩
  ·refine zY (hs := [_, _]) hO (zco (Y.le hL) (Z.le hL) (b0.le hL) (RdT.nil Ty.str _) u4) ztI rfl fun _ σ _ _ hO u6 u7 => ?_
   have hL := hL.trans u6
   obtain ⟨I1, I2, I3, I4, I5, rfl, rfl, u9, v0, v1⟩ := u7
   have hO := zt55 hO
   cases hF
   have hO := hO.sel [2, 3, 4]
   exact hP _ _ _ _ hO hL ⟨_, _, _, _, _, rfl, rfl, u9, v0, v1⟩
  refine zW (hs := [_, _]) hO (zco (Y.le hL) (Z.le hL) (b0.le hL) (RdT.nil Ty.str _) u5) ztI rfl fun _ σ _ _ hO v2 v3 => ?_
  have hL := hL.trans v2
  obtain ⟨I6, I7, I8, I9, J0, rfl, rfl, i2, i3, i4⟩ := v3
  have hO := zt55 hO
  refine zd hO [] [(3, .string g8.1.Text)] [0, 2] ztM fun j => ?_
  refine zi (za hO 2 [] [(17, .string g8.1.Text), (18, zt1 o)] [0, 2] ztN fun j => ?_)
  rcases zX hF with ⟨J1, v4, hF⟩ | ⟨h, v5, hF⟩
  ·refine zY (hs := [_, _]) hO (ih_syntax_parser_unary i2 i3 i4 v4) ztI rfl fun _ σ _ _ hO v6 v7 => ?_
   have hL := hL.trans v6
   obtain ⟨J2, J3, J4, J5, J6, rfl, rfl, v8, v9, w2⟩ := v7
   have hO := zt55 hO
   cases hF
   have hO := hO.sel [2, 3, 4]
   exact hP _ _ _ _ hO hL ⟨_, _, _, _, _, rfl, rfl, v8, v9, w2⟩
  refine zW (hs := [_, _]) hO (ih_syntax_parser_unary i2 i3 i4 v5) ztI rfl fun _ σ _ _ hO w3 w4 => ?_
  have hL := hL.trans w3
  obtain ⟨J7, J8, J9, K0, K1, K2, rfl, rfl, i5, g9, h0, h1⟩ := w4
  obtain ⟨i6, i7, rfl, -⟩ := i5.form
  have hO := zt55 hO
  refine zt (T := zu) (l := ([(⟨h.1.Kind, h.1.Num, h.1.Name, h.1.Field, h.1.Op, h.1.Kids⟩ : zb)] : List zb)) (cs := [.int .u8 (h.1.Kind.toNat : Int), .int .i64 h.1.Num, .string h.1.Name, .string h.1.Field, .string h.1.Op, zt7 i6 h.1.Kids i7]) hO rfl ⟨[.int .u8 (h.1.Kind.toNat : Int), .int .i64 h.1.Num, .string h.1.Name, .string h.1.Field, .string h.1.Op, zt7 i6 h.1.Kids i7], _, rfl, (zb8 ⟨_, rfl, i5⟩), rfl⟩ rfl (by decide) fun _ σ K3 i8 hO => ?_
  obtain ⟨w5, w7, rfl, -⟩ := i8.form
  have hO := zt56 hO
  refine za hO 1 [] [(21, .agg #[(.int .u8 6), (.int .i64 0), (.string zs3), (.string zs3), (.string g8.1.Text), (zt7 w5 ([(⟨h.1.Kind, h.1.Num, h.1.Name, h.1.Field, h.1.Op, h.1.Kids⟩ : zb)] : List zb) w7)])] [0, 2] ztM fun j => ?_
  refine zx hO (i := 0) rfl (off := 0) rfl rfl rfl rfl (Nat.le_of_ble_eq_true rfl) rfl fun σ hO => ?_
  have hO := zt56 hO
  refine zc (zbi (z6 (zQ ?_)))
  obtain ⟨_, g6, w8, hO⟩ := i8.share hO (i := 5) rfl
  have hL := hL.trans g6
  have g9 := g9.le g6
  have h0 := h0.le g6
  have h1 := h1.le g6
  have hO := zt56 hO
  cases hF
  have t := hO.val (i := 0) rfl (off := 0) (agg := true) (n := 6) rfl
  have hO := hO.sel [2, 3, 4]
  refine (hQ _ _ _ _ _ (zbE rfl (t) rfl) hO hL ?_).1
  exact ⟨_, _, _, _, _, _, rfl, rfl, w8, g9, h0, h1⟩
 refine zi (za hO 3 [] [(25, zt1 o)] [0, 2] ztM fun j => ?_)
 refine zt (T := Ty.str) (l := ([zs5] : List ByteArray)) (cs := [.string zs5]) hO rfl ⟨[.string zs5], _, rfl, rfl, rfl⟩ rfl (by decide) fun _ σ K4 w9 hO => ?_
 have hO := zt56 hO
 obtain ⟨_, j1, d5, hO⟩ := w9.share hO (i := 5) rfl
 have hL := hL.trans j1
 have hO := zt56 hO
 obtain ⟨j2, j3, hF⟩ := zt6 hF
 have hO := hO.sel [3, 4, 5, 0, 1, 2]
 refine zz (hs := [_, _, _]) hO (zb0 (Y.le hL) (Z.le hL) (b0.le hL) d5 j3) rfl fun _ σ _ _ hO h2 j4 => ?_
 have hL := hL.trans h2
 have d5 := d5.le h2
 obtain ⟨x3, x4, x5, x6, x7, rfl, rfl, w, z, B⟩ := j4
 have hO := zt56 hO
 refine zd hO [] [(22, .bool j2.1)] [0, 2] ztM fun j => ?_
 refine zn hF rfl (fun hF => ?_) fun hF => ?_
 ·refine zi (za hO 1 [] [(28, zt1 o)] [0, 2] ztM fun j => ?_)
  rcases zX hF with ⟨x8, j5, hF⟩ | ⟨U, j6, hF⟩
  ·refine zY (hs := [_, _, _]) hO (ih_syntax_parser_exp w z B j5) ztI rfl fun _ σ _ _ hO j7 j8 => ?_
   have hL := hL.trans j7
   obtain ⟨x9, y0, y1, y2, y3, rfl, rfl, j9, k0, k1⟩ := j8
   have hO := zt56 hO
   cases hF
   have hO := hO.sel [3, 4, 5]
   exact hP _ _ _ _ hO hL ⟨_, _, _, _, _, rfl, rfl, j9, k0, k1⟩
  refine zW (hs := [_, _, _]) hO (ih_syntax_parser_exp w z B j6) ztI rfl fun _ σ _ _ hO k4 k5 => ?_
  have hL := hL.trans k4
  obtain ⟨y4, y5, y6, y7, y8, y9, rfl, rfl, M, b9, c0, c1⟩ := k5
  obtain ⟨k6, k7, rfl, -⟩ := M.form
  have hO := zt56 hO
  refine zbC hO fun A0 σ hO => ?_
  have hO := zt57 hO
  refine zx hO (i := 6) rfl (off := 0) rfl rfl rfl rfl (Nat.le_of_ble_eq_true rfl) rfl fun σ hO => ?_
  have hO := zt57 hO
  refine zc (zi (za hO 3 [] [(32, zt1 o)] [0, 2, 4] ztN fun j => ?_))
  refine zt (T := Ty.str) (l := ([zs4] : List ByteArray)) (cs := [.string zs4]) hO rfl ⟨[.string zs4], _, rfl, rfl, rfl⟩ rfl (by decide) fun _ σ A1 k8 hO => ?_
  have hO := zt58 hO
  obtain ⟨_, b7, V, hO⟩ := k8.share hO (i := 7) rfl
  have hL := hL.trans b7
  have b9 := b9.le b7
  have c0 := c0.le b7
  have c1 := c1.le b7
  have M := M.le b7
  have hO := zt58 hO
  have hO := hO.sel [0, 1, 2, 6, 7, 3, 4, 5]
  rcases zX hF with ⟨A2, l0, hF⟩ | ⟨A3, l1, hF⟩
  ·refine zY (hs := [_, _, _, _, _]) hO (zbB b9 c0 c1 V l0) ztI rfl fun _ σ _ _ hO d6 l2 => ?_
   have hL := hL.trans d6
   have V := V.le d6
   have M := M.le d6
   obtain ⟨A4, A5, A6, A7, A8, rfl, rfl, l3, l4, l5⟩ := l2
   have hO := zt58 hO
   cases hF
   have hO := hO.sel [5, 6, 7]
   exact hP _ _ _ _ hO hL ⟨_, _, _, _, _, rfl, rfl, l3, l4, l5⟩
  refine zW (hs := [_, _, _, _, _]) hO (zbB b9 c0 c1 V l1) ztI rfl fun _ σ _ _ hO d7 l6 => ?_
  have hL := hL.trans d7
  have V := V.le d7
  have M := M.le d7
  obtain ⟨A9, B0, B1, B2, B3, rfl, rfl, l7, l8, l9⟩ := l6
  have hO := zt58 hO
  refine zc (zi (za hO 1 [3] [(35, .agg #[(.int .u8 (U.1.Kind.toNat : Int)), (.int .i64 U.1.Num), (.string U.1.Name), (.string U.1.Field), (.string U.1.Op), (zt7 k6 U.1.Kids k7)])] [0, 2] (And.intro (And.intro rfl rfl) ztM) fun j => ?_))
  refine zx hO (i := 0) rfl (off := 0) rfl rfl rfl rfl (Nat.le_of_ble_eq_true rfl) rfl fun σ hO => ?_
  have hO := zt58 hO
  refine zc (zbi (z6 (zQ ?_)))
  cases hF
  have t := hO.val (i := 0) rfl (off := 0) (agg := true) (n := 6) rfl
  have hO := hO.sel [5, 6, 7]
  refine (hQ _ _ _ _ _ (zbE rfl (t) rfl) hO hL ?_).1
  exact ⟨_, _, _, _, _, _, rfl, rfl, M, l7, l8, l9⟩
 refine zi (za hO 3 [] [(39, zt1 o)] [0, 2] ztM fun j => ?_)
 obtain ⟨m0, m1, hF⟩ := zt6 hF
 refine zz (hs := [_, _, _]) hO (zdS w z B (RdT.nil Ty.str _) m1) rfl fun _ σ _ _ hO c2 m2 => ?_
 have hL := hL.trans c2
 have w := w.le c2
 have z := z.le c2
 have B := B.le c2
 obtain ⟨rfl, rfl⟩ := m2
 have hO := zt56 hO
 refine zd hO [] [(36, .bool m0)] [0, 2] ztM fun j => ?_
 refine zn hF rfl (fun hF => ?_) fun hF => ?_
 ·refine zi (za hO 3 [] [(43, zt1 o)] [0, 2] ztM fun j => ?_)
  rcases zX hF with ⟨B4, m3, hF⟩ | ⟨m4, m5, hF⟩
  ·refine zY (hs := [_, _, _]) hO (zco w z B (RdT.nil Ty.str _) m3) ztI rfl fun _ σ _ _ hO m6 m7 => ?_
   have hL := hL.trans m6
   obtain ⟨B5, B6, B7, B8, B9, rfl, rfl, m8, m9, n0⟩ := m7
   have hO := zt56 hO
   cases hF
   have hO := hO.sel [3, 4, 5]
   exact hP _ _ _ _ hO hL ⟨_, _, _, _, _, rfl, rfl, m8, m9, n0⟩
  refine zW (hs := [_, _, _]) hO (zco w z B (RdT.nil Ty.str _) m5) ztI rfl fun _ σ _ _ hO n1 n2 => ?_
  have hL := hL.trans n1
  obtain ⟨C0, C1, C2, C3, C4, rfl, rfl, n3, n4, n5⟩ := n2
  have hO := zt56 hO
  refine za hO 2 [] [(46, .agg #[(.int .u8 1), (.int .i64 m4.1.Num), (.string zs3), (.string zs3), (.string zs3), (.slice none 0 0)])] [0, 2] ztM fun j => ?_
  refine zx hO (i := 0) rfl (off := 0) rfl rfl rfl rfl (Nat.le_of_ble_eq_true rfl) rfl fun σ hO => ?_
  have hO := zt56 hO
  refine zc (zbi (z6 (zQ ?_)))
  cases hF
  have t := hO.val (i := 0) rfl (off := 0) (agg := true) (n := 6) rfl
  have hO := hO.sel [3, 4, 5]
  refine (hQ _ _ _ _ _ (zbE rfl (t) rfl) hO hL ?_).1
  exact ⟨_, _, _, _, _, _, rfl, rfl, (RdT.nil _ _), n3, n4, n5⟩
 refine zi (za hO 3 [] [(50, zt1 o)] [0, 2] ztM fun j => ?_)
 refine zt (T := Ty.str) (l := ([ztl] : List ByteArray)) (cs := [.string ztl]) hO rfl ⟨[.string ztl], _, rfl, rfl, rfl⟩ rfl (by decide) fun _ σ C5 n6 hO => ?_
 have hO := zt57 hO
 obtain ⟨_, c3, d8, hO⟩ := n6.share hO (i := 6) rfl
 have hL := hL.trans c3
 have w := w.le c3
 have z := z.le c3
 have B := B.le c3
 have hO := zt57 hO
 obtain ⟨n7, n8, hF⟩ := zt6 hF
 have hO := hO.sel [0, 1, 2, 6, 3, 4, 5]
 refine zz (hs := [_, _, _, _]) hO (zb0 w z B d8 n8) rfl fun _ σ _ _ hO h3 n9 => ?_
 have hL := hL.trans h3
 have d8 := d8.le h3
 obtain ⟨C6, C7, C8, C9, D0, rfl, rfl, c4, c5, c6⟩ := n9
 have hO := zt57 hO
 refine zd hO [] [(47, .bool n7.1)] [0, 2] ztM fun j => ?_
 refine zn hF rfl (fun hF => ?_) fun hF => ?_
 ·refine zi (zbk hO 1 [] [(0, zt1 o), (2, zt1 b2), (53, .agg #[(.int .u8 2), (.int .i64 1), (.string zs3), (.string zs3), (.string zs3), (.slice none 0 0)])] ztM fun j => ?_)
  refine zx hO (i := 0) rfl (off := 0) rfl rfl rfl rfl (Nat.le_of_ble_eq_true rfl) rfl fun σ hO => ?_
  have hO := zt57 hO
  refine zc (zbi (z6 (zQ ?_)))
  cases hF
  have t := hO.val (i := 0) rfl (off := 0) (agg := true) (n := 6) rfl
  have hO := hO.sel [4, 5, 6]
  refine (hQ _ _ _ _ _ (zbE rfl (t) rfl) hO hL ?_).1
  exact ⟨_, _, _, _, _, _, rfl, rfl, (RdT.nil _ _), c4, c5, c6⟩
 refine zi (zbk hO 3 [] [(0, zt1 o), (2, zt1 b2), (57, zt1 o)] ztM fun j => ?_)
 refine zt (T := Ty.str) (l := ([zti] : List ByteArray)) (cs := [.string zti]) hO rfl ⟨[.string zti], _, rfl, rfl, rfl⟩ rfl (by decide) fun _ σ D1 o0 hO => ?_
 have hO := zt58 hO
 obtain ⟨_, c7, d9, hO⟩ := o0.share hO (i := 7) rfl
 have hL := hL.trans c7
 have c4 := c4.le c7
 have c5 := c5.le c7
 have c6 := c6.le c7
 have hO := zt58 hO
 obtain ⟨o1, o2, hF⟩ := zt6 hF
 have hO := hO.sel [0, 1, 2, 3, 7, 4, 5, 6]
 refine zz (hs := [_, _, _, _, _]) hO (zb0 c4 c5 c6 d9 o2) rfl fun _ σ _ _ hO h4 o3 => ?_
 have hL := hL.trans h4
 have d9 := d9.le h4
 obtain ⟨D2, D3, D4, D5, D6, rfl, rfl, f0, f1, f2⟩ := o3
 have hO := zt58 hO
 refine zd hO [] [(54, .bool o1.1)] [0, 2] ztM fun j => ?_
 refine zn hF rfl (fun hF => ?_) fun hF => ?_
 ·refine zi (za hO 1 [] [(60, .agg #[(.int .u8 2), (.int .i64 0), (.string zs3), (.string zs3), (.string zs3), (.slice none 0 0)])] [0, 2] ztM fun j => ?_)
  refine zx hO (i := 0) rfl (off := 0) rfl rfl rfl rfl (Nat.le_of_ble_eq_true rfl) rfl fun σ hO => ?_
  have hO := zt58 hO
  refine zc (zbi (z6 (zQ ?_)))
  cases hF
  have t := hO.val (i := 0) rfl (off := 0) (agg := true) (n := 6) rfl
  have hO := hO.sel [5, 6, 7]
  refine (hQ _ _ _ _ _ (zbE rfl (t) rfl) hO hL ?_).1
  exact ⟨_, _, _, _, _, _, rfl, rfl, (RdT.nil _ _), f0, f1, f2⟩
 refine zA (zg (zC (zj (za hO 3 [] [(63, zt1 o)] [0, 2] ztM fun j => ?_))))
 rcases zX hF with ⟨D7, o4, hF⟩ | ⟨X, o6, hF⟩
 ·refine zY (hs := [_, _, _, _, _]) hO (zbV f0 f1 f2 o4) ztI rfl fun _ σ _ _ hO o7 o8 => ?_
  have hL := hL.trans o7
  obtain ⟨D8, D9, E1, E2, E3, rfl, rfl, o9, p2, p3⟩ := o8
  have hO := zt58 hO
  cases hF
  have hO := hO.sel [5, 6, 7]
  exact hP _ _ _ _ hO hL ⟨_, _, _, _, _, rfl, rfl, o9, p2, p3⟩
 refine zW (hs := [_, _, _, _, _]) hO (zbV f0 f1 f2 o6) ztI rfl fun _ σ _ _ hO p4 p5 => ?_
 have hL := hL.trans p4
 obtain ⟨E4, E5, E6, E7, E8, rfl, rfl, E, G, I⟩ := p5
 have hO := zt58 hO
 refine zd hO [] [(5, .string X.1)] [0, 2] ztM fun j => ?_
 refine zH (za hO 3 [] [(68, zt1 o)] [0, 2, 5] ztN fun j => ?_)
 refine zt (T := Ty.str) (l := ([ztb] : List ByteArray)) (cs := [.string ztb]) hO rfl ⟨[.string ztb], _, rfl, rfl, rfl⟩ rfl (by decide) fun _ σ E9 p6 hO => ?_
 have hO := zt59 hO
 obtain ⟨_, c8, f3, hO⟩ := p6.share hO (i := 8) rfl
 have hL := hL.trans c8
 have E := E.le c8
 have G := G.le c8
 have I := I.le c8
 have hO := zt59 hO
 obtain ⟨p7, p8, hF⟩ := zt6 hF
 have hO := hO.sel [0, 1, 2, 3, 4, 8, 5, 6, 7]
 refine zz (hs := [_, _, _, _, _, _]) hO (zdS E G I f3 p8) rfl fun _ σ _ _ hO b8 p9 => ?_
 have hL := hL.trans b8
 have f3 := f3.le b8
 have E := E.le b8
 have G := G.le b8
 have I := I.le b8
 obtain ⟨rfl, rfl⟩ := p9
 have hO := zt59 hO
 have hO := hO.sel [0, 1, 2, 3, 4, 6, 7, 8, 5]
 have hO := zt59 hO
 refine zd hO [] [(65, .bool p7)] [0, 2, 5] ztN fun j => ?_
 refine zbm (zn hF rfl (fun hF => ?_) fun hF => ?_)
 ·refine zi (za hO 2 [] [(71, .string X.1), (72, zt1 o)] [0, 2] ztN fun j => ?_)
  have hO := hO.sel [0, 1, 2, 3, 4, 8, 5, 6, 7]
  rcases zX hF with ⟨F0, q2, hF⟩ | ⟨g, q3, hF⟩
  ·refine zY (hs := [_, _, _, _, _, _]) hO (ih_syntax_parser_index E G I q2) ztI rfl fun _ σ _ _ hO q4 q5 => ?_
   have hL := hL.trans q4
   obtain ⟨F1, F2, F3, F4, F5, rfl, rfl, q6, q7, q8⟩ := q5
   have hO := zt59 hO
   cases hF
   have hO := hO.sel [6, 7, 8]
   exact hP _ _ _ _ hO hL ⟨_, _, _, _, _, rfl, rfl, q6, q7, q8⟩
  refine zW (hs := [_, _, _, _, _, _]) hO (ih_syntax_parser_index E G I q3) ztI rfl fun _ σ _ _ hO q9 r0 => ?_
  have hL := hL.trans q9
  obtain ⟨F6, F7, F8, F9, G0, G1, rfl, rfl, h5, f4, f5, f6⟩ := r0
  obtain ⟨h6, h7, rfl, -⟩ := h5.form
  have hO := zt59 hO
  refine zt (T := zu) (l := ([(⟨g.1.Kind, g.1.Num, g.1.Name, g.1.Field, g.1.Op, g.1.Kids⟩ : zb)] : List zb)) (cs := [.int .u8 (g.1.Kind.toNat : Int), .int .i64 g.1.Num, .string g.1.Name, .string g.1.Field, .string g.1.Op, zt7 h6 g.1.Kids h7]) hO rfl ⟨[.int .u8 (g.1.Kind.toNat : Int), .int .i64 g.1.Num, .string g.1.Name, .string g.1.Field, .string g.1.Op, zt7 h6 g.1.Kids h7], _, rfl, (zb8 ⟨_, rfl, h5⟩), rfl⟩ rfl (by decide) fun _ σ G2 h9 hO => ?_
  obtain ⟨r1, r2, rfl, -⟩ := h9.form
  have hO := zt510 hO
  refine za hO 1 [] [(75, .agg #[(.int .u8 4), (.int .i64 0), (.string X.1), (.string zs3), (.string zs3), (zt7 r1 ([(⟨g.1.Kind, g.1.Num, g.1.Name, g.1.Field, g.1.Op, g.1.Kids⟩ : zb)] : List zb) r2)])] [0, 2] ztM fun j => ?_
  refine zx hO (i := 0) rfl (off := 0) rfl rfl rfl rfl (Nat.le_of_ble_eq_true rfl) rfl fun σ hO => ?_
  have hO := zt510 hO
  refine zc (zbi (z6 (zQ ?_)))
  obtain ⟨_, d0, r3, hO⟩ := h9.share hO (i := 9) rfl
  have hL := hL.trans d0
  have f4 := f4.le d0
  have f5 := f5.le d0
  have f6 := f6.le d0
  have hO := zt510 hO
  cases hF
  have t := hO.val (i := 0) rfl (off := 0) (agg := true) (n := 6) rfl
  have hO := hO.sel [6, 7, 8]
  refine (hQ _ _ _ _ _ (zbE rfl (t) rfl) hO hL ?_).1
  exact ⟨_, _, _, _, _, _, rfl, rfl, r3, f4, f5, f6⟩
 refine zi (za hO 3 [] [(79, zt1 o)] [0, 2, 5] ztN fun j => ?_)
 refine zt (T := Ty.str) (l := ([ztv] : List ByteArray)) (cs := [.string ztv]) hO rfl ⟨[.string ztv], _, rfl, rfl, rfl⟩ rfl (by decide) fun _ σ G3 r4 hO => ?_
 have hO := zt510 hO
 obtain ⟨_, d4, f7, hO⟩ := r4.share hO (i := 9) rfl
 have hL := hL.trans d4
 have E := E.le d4
 have G := G.le d4
 have I := I.le d4
 have hO := zt510 hO
 obtain ⟨r5, r6, hF⟩ := zt6 hF
 have hO := hO.sel [0, 1, 2, 3, 4, 8, 9, 5, 6, 7]
 refine zz (hs := [_, _, _, _, _, _, _]) hO (zb0 E G I f7 r6) rfl fun _ σ _ _ hO i0 r8 => ?_
 have hL := hL.trans i0
 have f7 := f7.le i0
 obtain ⟨G4, G5, G6, G7, G8, rfl, rfl, f8, f9, g0⟩ := r8
 have hO := zt510 hO
 refine zd hO [] [(76, .bool r5.1)] [0, 2, 5] ztN fun j => ?_
 refine zn hF rfl (fun hF => ?_) fun hF => ?_
 ·refine zi (za hO 4 [] [(82, .string X.1), (85, zt1 o)] [0, 2] ztN fun j => ?_)
  rcases zX hF with ⟨G9, r9, hF⟩ | ⟨t0, t1, hF⟩
  ·refine zY (hs := [_, _, _, _, _, _, _]) hO (zbV f8 f9 g0 r9) ztI rfl fun _ σ _ _ hO t2 t3 => ?_
   have hL := hL.trans t2
   obtain ⟨H0, H1, H2, H3, H4, rfl, rfl, t4, t5, t6⟩ := t3
   have hO := zt510 hO
   cases hF
   have hO := hO.sel [7, 8, 9]
   exact hP _ _ _ _ hO hL ⟨_, _, _, _, _, rfl, rfl, t4, t5, t6⟩
  refine zW (hs := [_, _, _, _, _, _, _]) hO (zbV f8 f9 g0 t1) ztI rfl fun _ σ _ _ hO t7 t8 => ?_
  have hL := hL.trans t7
  obtain ⟨H5, H6, H7, H8, H9, rfl, rfl, t9, u0, u1⟩ := t8
  have hO := zt510 hO
  refine zbk hO 1 [] [(0, zt1 o), (2, zt1 b2), (87, .agg #[(.int .u8 5), (.int .i64 0), (.string X.1), (.string t0.1), (.string zs3), (.slice none 0 0)])] ztM fun j => ?_
  refine zx hO (i := 0) rfl (off := 0) rfl rfl rfl rfl (Nat.le_of_ble_eq_true rfl) rfl fun σ hO => ?_
  have hO := zt510 hO
  refine zc (zbi (z6 (zQ ?_)))
  cases hF
  have t := hO.val (i := 0) rfl (off := 0) (agg := true) (n := 6) rfl
  have hO := hO.sel [7, 8, 9]
  refine (hQ _ _ _ _ _ (zbE rfl (t) rfl) hO hL ?_).1
  exact ⟨_, _, _, _, _, _, rfl, rfl, (RdT.nil _ _), t9, u0, u1⟩
 refine zA (zg (zC (zj (za hO 2 [] [(89, .agg #[(.int .u8 3), (.int .i64 0), (.string X.1), (.string zs3), (.string zs3), (.slice none 0 0)])] [0, 2] ztM fun j => ?_))))
 refine zx hO (i := 0) rfl (off := 0) rfl rfl rfl rfl (Nat.le_of_ble_eq_true rfl) rfl fun σ hO => ?_
 have hO := zt510 hO
 refine zc (z9 ?_)
 cases hF
 have t := hO.val (i := 0) rfl (off := 0) (agg := true) (n := 6) rfl
 have hO := hO.sel [7, 8, 9]
 refine (hQ _ _ _ _ _ (zbE rfl (t) rfl) hO hL ?_).1
 exact ⟨_, _, _, _, _, _, rfl, rfl, (RdT.nil _ _), f8, f9, g0⟩
theorem zo7 {gn : Nat} (ih_syntax_parser_exp : zhl gn) (ih_syntax_parser_binary : zgR gn) (ih_syntax_parser_unary : zhw gn) (ih_syntax_parser_index : zik gn) {τ : Hp} {q0 : zf} {g : Nat} {M U : Value} {V : Ob} {X : Value} {Y : Ob} (Z : RdT zm τ M q0.cursor.tokens) (b0 : ze zs 71 τ U q0.prog.Structs V) (b1 : ze zr 50 τ X q0.prog.Funcs Y) {rr : Except (Value × zf) (zb × zf)} (hF : zgN ((z8 gn).1) ((z8 gn).2.1) ((z8 gn).2.2.1) ((z8 gn).2.2.2) q0 = some rr) :
  zbK Try.prog 98 #[.pointer (some ⟨g, 0, none⟩)] τ [zE g M q0.cursor.at_ U X, V, Y] (fun v τ' vs' => match (generalizing := false) rr with | .ok rr => ∃ (b7 o t : Value) (w : Ob) (z : Value) (B : Ob), v = .agg #[.int .u8 rr.1.Kind.toNat, .int .i64 rr.1.Num, .string rr.1.Name, .string rr.1.Field, .string rr.1.Op, b7] ∧ vs' = [zE g o rr.2.cursor.at_ t z, w, B] ∧ RdT zu τ' b7 rr.1.Kids ∧ RdT zm τ' o rr.2.cursor.tokens ∧ ze zs 71 τ' t rr.2.prog.Structs w ∧ ze zr 50 τ' z rr.2.prog.Funcs B | .error _ => False) (fun ch τ' vs' => match (generalizing := false) rr with | .ok _ => False | .error ee => ∃ (o t : Value) (w : Ob) (z : Value) (B : Ob), ch = [{ v := ee.1, recovered := false }] ∧ vs' = [zE g o ee.2.cursor.at_ t z, w, B] ∧ RdT zm τ' o ee.2.cursor.tokens ∧ ze zs 71 τ' t ee.2.prog.Structs w ∧ ze zr 50 τ' z ee.2.prog.Funcs B) := by
 refine zcA (args := [.pointer (some ⟨g, 0, none⟩)]) hm Try.func98 s98 rfl fun w0 σ hP hO Q hQ => ?_
 unfold zgN at hF
 have hL := Hp.le.refl τ
 show wpn _ _ a98.body _ _ _
 unfold a98
 dsimp only
 refine zbC hO fun b2 σ hO => ?_
 have hO := zt54 hO
 refine zc (za hO 3 [] [(6, zt1 g)] [0, 2] ztM fun j => ?_)
 refine zt (T := Ty.str) (l := ([ztb] : List ByteArray)) (cs := [.string ztb]) hO rfl ⟨[.string ztb], _, rfl, rfl, rfl⟩ rfl (by decide) fun _ σ o5 w6 hO => ?_
 have hO := zt55 hO
 obtain ⟨_, h8, r7, hO⟩ := w6.share hO (i := 4) rfl
 have hL := hL.trans h8
 have hO := zt55 hO
 have hO := hO.sel [3, 4, 0, 1, 2]
 rcases zX hF with ⟨i2, d5, hF⟩ | ⟨c9, d6, hF⟩
 ·refine zY (hs := [_, _]) hO (zbB (Z.le hL) (b0.le hL) (b1.le hL) r7 d5) ztI rfl fun _ σ _ _ hO c0 d7 => ?_
  have hL := hL.trans c0
  have r7 := r7.le c0
  obtain ⟨i3, i4, i5, i6, i7, rfl, rfl, d8, d9, f0⟩ := d7
  have hO := zt55 hO
  cases hF
  have hO := hO.sel [2, 3, 4]
  exact hP _ _ _ _ hO hL ⟨_, _, _, _, _, rfl, rfl, d8, d9, f0⟩
 refine zW (hs := [_, _]) hO (zbB (Z.le hL) (b0.le hL) (b1.le hL) r7 d6) ztI rfl fun _ σ _ _ hO c1 f1 => ?_
 have hL := hL.trans c1
 have r7 := r7.le c1
 obtain ⟨i8, i9, j0, j1, j2, rfl, rfl, c2, c3, c4⟩ := f1
 have hO := zt55 hO
 refine zc (za hO 1 [] [(9, zt1 g)] [0, 2] ztM fun j => ?_)
 rcases zX hF with ⟨j3, f2, hF⟩ | ⟨E, f3, hF⟩
 ·refine zY (hs := [_, _]) hO (ih_syntax_parser_exp c2 c3 c4 f2) ztI rfl fun _ σ _ _ hO f4 f5 => ?_
  have hL := hL.trans f4
  obtain ⟨j4, j5, j6, j7, j8, rfl, rfl, f6, f7, f8⟩ := f5
  have hO := zt55 hO
  cases hF
  have hO := hO.sel [2, 3, 4]
  exact hP _ _ _ _ hO hL ⟨_, _, _, _, _, rfl, rfl, f6, f7, f8⟩
 refine zW (hs := [_, _]) hO (ih_syntax_parser_exp c2 c3 c4 f3) ztI rfl fun _ σ _ _ hO f9 g0 => ?_
 have hL := hL.trans f9
 obtain ⟨j9, k0, k1, k4, k5, k6, rfl, rfl, h, b3, b4, b5⟩ := g0
 obtain ⟨g1, g2, rfl, -⟩ := h.form
 have hO := zt55 hO
 refine zbC hO fun k7 σ hO => ?_
 have hO := zt56 hO
 refine zx hO (i := 5) rfl (off := 0) rfl rfl rfl rfl (Nat.le_of_ble_eq_true rfl) rfl fun σ hO => ?_
 have hO := zt56 hO
 refine zc (za hO 3 [] [(13, zt1 g)] [0, 2, 3] ztN fun j => ?_)
 refine zt (T := Ty.str) (l := ([ztj] : List ByteArray)) (cs := [.string ztj]) hO rfl ⟨[.string ztj], _, rfl, rfl, rfl⟩ rfl (by decide) fun _ σ k8 g3 hO => ?_
 have hO := zt57 hO
 obtain ⟨_, I, G, hO⟩ := g3.share hO (i := 6) rfl
 have hL := hL.trans I
 have b3 := b3.le I
 have b4 := b4.le I
 have b5 := b5.le I
 have h := h.le I
 have hO := zt57 hO
 have hO := hO.sel [0, 1, 5, 6, 2, 3, 4]
 rcases zX hF with ⟨l0, g4, hF⟩ | ⟨l1, g5, hF⟩
 ·refine zY (hs := [_, _, _, _]) hO (zbB b3 b4 b5 G g4) ztI rfl fun _ σ _ _ hO b8 g6 => ?_
  have hL := hL.trans b8
  have G := G.le b8
  have h := h.le b8
  obtain ⟨h1, h2, h3, h4, h5, rfl, rfl, c5, c6, c7⟩ := g6
  have hO := zt57 hO
  cases hF
  have hO := hO.sel [4, 5, 6]
  exact hP _ _ _ _ hO hL ⟨_, _, _, _, _, rfl, rfl, c5, c6, c7⟩
 refine zW (hs := [_, _, _, _]) hO (zbB b3 b4 b5 G g5) ztI rfl fun _ σ _ _ hO b9 g7 => ?_
 have hL := hL.trans b9
 have G := G.le b9
 have h := h.le b9
 obtain ⟨h6, h7, h9, i0, i1, rfl, rfl, c8, d0, d4⟩ := g7
 have hO := zt57 hO
 refine zc (za hO 1 [2] [(16, .agg #[(.int .u8 (E.1.Kind.toNat : Int)), (.int .i64 E.1.Num), (.string E.1.Name), (.string E.1.Field), (.string E.1.Op), (zt7 g1 E.1.Kids g2)])] [0, 2] (And.intro (And.intro rfl rfl) ztM) fun j => ?_)
 refine zx hO (i := 0) rfl (off := 0) rfl rfl rfl rfl (Nat.le_of_ble_eq_true rfl) rfl fun σ hO => ?_
 have hO := zt57 hO
 refine zc (z9 ?_)
 cases hF
 have g8 := hO.val (i := 0) rfl (off := 0) (agg := true) (n := 6) rfl
 have hO := hO.sel [4, 5, 6]
 refine (hQ _ _ _ _ _ (zbE rfl (g8) rfl) hO hL ?_).1
 exact ⟨_, _, _, _, _, _, rfl, rfl, h, c8, d0, d4⟩
theorem znI (n : Nat) : zhl n ∧ zgR n ∧ zhw n ∧ zik n := by
 induction n with
 | zero =>
  refine ⟨?_, ?_, ?_, ?_⟩
  ·intro τ q0 E t v w z B g h o rr hF; exact nomatch (show none = some rr from hF)
  ·intro τ q0 E t v w z B X p1 g h o V rr hF; exact nomatch (show none = some rr from hF)
  ·intro τ q0 E t v w z B g h o rr hF; exact nomatch (show none = some rr from hF)
  ·intro τ q0 E t v w z B g h o rr hF; exact nomatch (show none = some rr from hF)
 | succ n ih =>
  obtain ⟨G, I, M, U⟩ := ih
  refine ⟨?_, ?_, ?_, ?_⟩
  ·intro τ q0 E t v w z B g h o rr hF; exact zof G I M U g h o hF
  ·intro τ q0 E t v w z B X p1 g h o V rr hF; exact zqk G I M U g h o V hF
  ·intro τ q0 E t v w z B g h o rr hF; exact zn5 G I M U g h o hF
  ·intro τ q0 E t v w z B g h o rr hF; exact zo7 G I M U g h o hF
theorem zb4 : ∀ {τ : Hp} {q0 : zf} {z : Nat} {B E : Value} {G : Ob} {I : Value} {M : Ob} (V : RdT zm τ B q0.cursor.tokens) (X : ze zs 71 τ E q0.prog.Structs G) (Y : ze zr 50 τ I q0.prog.Funcs M) {rr : Except (Value × zf) (zb × zf)} (hF : zdi q0 = some rr), zbK Try.prog 83 #[.pointer (some ⟨z, 0, none⟩)] τ [zE z B q0.cursor.at_ E I, G, M] (fun v τ' vs' => match (generalizing := false) rr with | .ok rr => ∃ (U g h : Value) (o : Ob) (t : Value) (w : Ob), v = .agg #[.int .u8 rr.1.Kind.toNat, .int .i64 rr.1.Num, .string rr.1.Name, .string rr.1.Field, .string rr.1.Op, U] ∧ vs' = [zE z g rr.2.cursor.at_ h t, o, w] ∧ RdT zu τ' U rr.1.Kids ∧ RdT zm τ' g rr.2.cursor.tokens ∧ ze zs 71 τ' h rr.2.prog.Structs o ∧ ze zr 50 τ' t rr.2.prog.Funcs w | .error _ => False) (fun ch τ' vs' => match (generalizing := false) rr with | .ok _ => False | .error ee => ∃ (g h : Value) (o : Ob) (t : Value) (w : Ob), ch = [{ v := ee.1, recovered := false }] ∧ vs' = [zE z g ee.2.cursor.at_ h t, o, w] ∧ RdT zm τ' g ee.2.cursor.tokens ∧ ze zs 71 τ' h ee.2.prog.Structs o ∧ ze zr 50 τ' t ee.2.prog.Funcs w) := (znI big).1
theorem znT : ∀ {τ : Hp} {q0 : zf} {z : Nat} {B E : Value} {G : Ob} {I : Value} {M : Ob} (V : RdT zm τ B q0.cursor.tokens) (X : ze zs 71 τ E q0.prog.Structs G) (Y : ze zr 50 τ I q0.prog.Funcs M) {rr : Except (Value × zf) (zb × zf)} (hF : zkw q0 = some rr), zbK Try.prog 98 #[.pointer (some ⟨z, 0, none⟩)] τ [zE z B q0.cursor.at_ E I, G, M] (fun v τ' vs' => match (generalizing := false) rr with | .ok rr => ∃ (U g h : Value) (o : Ob) (t : Value) (w : Ob), v = .agg #[.int .u8 rr.1.Kind.toNat, .int .i64 rr.1.Num, .string rr.1.Name, .string rr.1.Field, .string rr.1.Op, U] ∧ vs' = [zE z g rr.2.cursor.at_ h t, o, w] ∧ RdT zu τ' U rr.1.Kids ∧ RdT zm τ' g rr.2.cursor.tokens ∧ ze zs 71 τ' h rr.2.prog.Structs o ∧ ze zr 50 τ' t rr.2.prog.Funcs w | .error _ => False) (fun ch τ' vs' => match (generalizing := false) rr with | .ok _ => False | .error ee => ∃ (g h : Value) (o : Ob) (t : Value) (w : Ob), ch = [{ v := ee.1, recovered := false }] ∧ vs' = [zE z g ee.2.cursor.at_ h t, o, w] ∧ RdT zm τ' g ee.2.cursor.tokens ∧ ze zs 71 τ' h ee.2.prog.Structs o ∧ ze zr 50 τ' t ee.2.prog.Funcs w) := (znI big).2.2.2
theorem zm6 {τ : Hp} {q0 : zf} {t : Nat} {b3 b4 : Value} {b5 : Ob} {b6 : Value} {b7 : Ob} {q1 : zh} {h : Nat} {b8 b9 b0 : Value} (c0 : RdT zm τ b3 q0.cursor.tokens) (c1 : ze zs 71 τ b4 q0.prog.Structs b5) (c2 : ze zr 50 τ b6 q0.prog.Funcs b7) (B : RdT zu τ b8 q1.Kids) (w : RdT zy τ b9 q1.Body) (o : RdT zy τ b0 q1.Else) {rr : Except (Value × zf × zh) (zf × zh)} (hF : ziq q0 q1 = some rr) :
  zbK Try.prog 93 #[.pointer (some ⟨t, 0, none⟩), .pointer (some ⟨h, 0, none⟩)] τ [zE t b3 q0.cursor.at_ b4 b6, b5, b7, zby h q1.Kind.toNat q1.Line q1.Name q1.Field q1.Call q1.Type_.Kind.toNat q1.Type_.N q1.Type_.Name b8 b9 b0] (fun v τ' vs' => match (generalizing := false) rr with | .ok rr => ∃ (E G : Value) (I : Ob) (M : Value) (U : Ob) (V X z : Value), v = .tuple #[] ∧ vs' = [zE t E rr.1.cursor.at_ G M, I, U, zby h rr.2.Kind.toNat rr.2.Line rr.2.Name rr.2.Field rr.2.Call rr.2.Type_.Kind.toNat rr.2.Type_.N rr.2.Type_.Name V X z] ∧ RdT zm τ' E rr.1.cursor.tokens ∧ ze zs 71 τ' G rr.1.prog.Structs I ∧ ze zr 50 τ' M rr.1.prog.Funcs U ∧ RdT zu τ' V rr.2.Kids ∧ RdT zy τ' X rr.2.Body ∧ RdT zy τ' z rr.2.Else | .error _ => False) (fun ch τ' vs' => match (generalizing := false) rr with | .ok _ => False | .error ee => ∃ (E G : Value) (I : Ob) (M : Value) (U : Ob) (V X z : Value), ch = [{ v := ee.1, recovered := false }] ∧ vs' = [zE t E ee.2.1.cursor.at_ G M, I, U, zby h ee.2.2.Kind.toNat ee.2.2.Line ee.2.2.Name ee.2.2.Field ee.2.2.Call ee.2.2.Type_.Kind.toNat ee.2.2.Type_.N ee.2.2.Type_.Name V X z] ∧ RdT zm τ' E ee.2.1.cursor.tokens ∧ ze zs 71 τ' G ee.2.1.prog.Structs I ∧ ze zr 50 τ' M ee.2.1.prog.Funcs U ∧ RdT zu τ' V ee.2.2.Kids ∧ RdT zy τ' X ee.2.2.Body ∧ RdT zy τ' z ee.2.2.Else) := by
 refine zcA (args := [.pointer (some ⟨t, 0, none⟩), .pointer (some ⟨h, 0, none⟩)]) hm Try.func93 s93 rfl fun w0 σ hP hO Q hQ => ?_
 unfold ziq at hF
 have hL := Hp.le.refl τ
 show wpn _ _ a93.body _ _ _
 unfold a93
 dsimp only
 refine za hO 5 [] [(4, zt1 h), (5, zt1 h), (8, zt1 t)] [0, 1] ztO fun j => ?_
 have hO := hO.sel [3, 0, 1, 2]
 rcases zX hF with ⟨x7, h8, hF⟩ | ⟨c3, h4, hF⟩
 ·refine zY (hs := [_]) hO (zbV (c0.le hL) (c1.le hL) (c2.le hL) h8) ztI rfl fun _ σ _ _ hO h9 g3 => ?_
  have hL := hL.trans h9
  obtain ⟨k8, l0, l1, l2, l3, rfl, rfl, g4, g5, g6⟩ := g3
  have hO := zt54 hO
  cases hF
  have hO := hO.sel [1, 2, 3, 0]
  exact hP _ _ _ _ hO hL ⟨_, _, _, _, _, _, _, _, rfl, rfl, g4, g5, g6, (B.le hL), (w.le hL), (o.le hL)⟩
 refine zW (hs := [_]) hO (zbV (c0.le hL) (c1.le hL) (c2.le hL) h4) ztI rfl fun _ σ _ _ hO h5 h6 => ?_
 have hL := hL.trans h5
 obtain ⟨l4, l5, l6, l7, l8, rfl, rfl, d9, f0, f1⟩ := h6
 have hO := zt54 hO
 refine za hO 2 [] [(11, zt1 h)] [0, 1, 5, 9] ztO fun j => ?_
 refine zx hO (i := 0) rfl (off := 0) rfl rfl rfl rfl (Nat.le_of_ble_eq_true rfl) rfl fun σ hO => ?_
 have hO := zt54 hO
 refine za hO 2 [] [(13, .pointer (some ⟨h, 2, none⟩))] [0, 1, 9] ztN fun j => ?_
 refine zx hO (i := 0) rfl (off := 2) rfl rfl rfl rfl (Nat.le_of_ble_eq_true rfl) rfl fun σ hO => ?_
 have hO := zt54 hO
 refine zc (za hO 2 [] [(14, zt1 h), (15, zt1 t)] [0, 1] ztN fun j => ?_)
 rcases zX hF with ⟨l9, g7, hF⟩ | ⟨m0, g8, hF⟩
 ·refine zY (hs := [_]) hO (zfN d9 f0 f1 g7) ztI rfl fun _ σ _ _ hO g9 h0 => ?_
  have hL := hL.trans g9
  obtain ⟨m1, m2, m3, m4, m5, rfl, rfl, h1, h2, h3⟩ := h0
  have hO := zt54 hO
  cases hF
  have hO := hO.sel [1, 2, 3, 0]
  exact hP _ _ _ _ hO hL ⟨_, _, _, _, _, _, _, _, rfl, rfl, h1, h2, h3, (B.le hL), (w.le hL), (o.le hL)⟩
 refine zW (hs := [_]) hO (zfN d9 f0 f1 g8) ztI rfl fun _ σ _ _ hO h7 i0 => ?_
 have hL := hL.trans h7
 obtain ⟨m6, m7, m8, m9, n0, rfl, rfl, c5, c6, c7⟩ := i0
 have hO := zt54 hO
 refine za hO 2 [] [(18, .pointer (some ⟨h, 5, none⟩))] [0, 1, 16] ztN fun j => ?_
 refine zx hO (i := 0) rfl (off := 5) rfl rfl rfl rfl (Nat.le_of_ble_eq_true rfl) rfl fun σ hO => ?_
 have hO := zt54 hO
 refine zc (za hO 3 [] [(21, zt1 t)] [0, 1] ztM fun j => ?_)
 refine zt (T := Ty.str) (l := ([zs8] : List ByteArray)) (cs := [.string zs8]) hO rfl ⟨[.string zs8], _, rfl, rfl, rfl⟩ rfl (by decide) fun _ σ n1 i1 hO => ?_
 have hO := zt55 hO
 obtain ⟨_, c4, c8, hO⟩ := i1.share hO (i := 4) rfl
 have hL := hL.trans c4
 have c5 := c5.le c4
 have c6 := c6.le c4
 have c7 := c7.le c4
 have hO := zt55 hO
 obtain ⟨n2, i2, hF⟩ := zt6 hF
 have hO := hO.sel [0, 4, 1, 2, 3]
 refine zz (hs := [_, _]) hO (zb0 c5 c6 c7 c8 i2) rfl fun _ σ _ _ hO f2 i3 => ?_
 have hL := hL.trans f2
 have c8 := c8.le f2
 obtain ⟨n3, n4, n5, n6, n7, rfl, rfl, c9, d0, d4⟩ := i3
 have hO := zt55 hO
 refine zc (zbm (zn hF rfl (fun hF => ?_) fun hF => ?_))
 ·refine za hO 2 [] [(24, zt1 h), (25, zt1 t)] [0, 1] ztN fun j => ?_
  rcases zX hF with ⟨i9, f3, hF⟩ | ⟨g, f4, hF⟩
  ·refine zY (hs := [_, _]) hO (zb4 c9 d0 d4 f3) ztI rfl fun _ σ _ _ hO f5 f6 => ?_
   have hL := hL.trans f5
   obtain ⟨j0, j1, j2, j3, j4, rfl, rfl, f7, f8, f9⟩ := f6
   have hO := zt55 hO
   cases hF
   have hO := hO.sel [2, 3, 4, 0]
   exact hP _ _ _ _ hO hL ⟨_, _, _, _, _, _, _, _, rfl, rfl, f7, f8, f9, (B.le hL), (w.le hL), (o.le hL)⟩
  refine zW (hs := [_, _]) hO (zb4 c9 d0 d4 f4) ztI rfl fun _ σ _ _ hO g0 g1 => ?_
  have hL := hL.trans g0
  obtain ⟨j5, j6, j7, j8, j9, k0, rfl, rfl, d5, b1, b2, Y⟩ := g1
  obtain ⟨d6, d7, rfl, -⟩ := d5.form
  obtain ⟨k1, k4, rfl, -⟩ := Y.form
  have hO := zt55 hO
  refine zt (T := zu) (l := ([(⟨g.1.Kind, g.1.Num, g.1.Name, g.1.Field, g.1.Op, g.1.Kids⟩ : zb)] : List zb)) (cs := [.int .u8 (g.1.Kind.toNat : Int), .int .i64 g.1.Num, .string g.1.Name, .string g.1.Field, .string g.1.Op, zt7 d6 g.1.Kids d7]) hO rfl ⟨[.int .u8 (g.1.Kind.toNat : Int), .int .i64 g.1.Num, .string g.1.Name, .string g.1.Field, .string g.1.Op, zt7 d6 g.1.Kids d7], _, rfl, (zb8 ⟨_, rfl, d5⟩), rfl⟩ rfl (by decide) fun _ σ k5 d8 hO => ?_
  obtain ⟨k6, k7, rfl, -⟩ := d8.form
  have hO := zt56 hO
  refine za hO 2 [] [(29, .pointer (some ⟨h, 8, none⟩))] [0, 1, 27] ztN fun j => ?_
  refine zx hO (i := 0) rfl (off := 8) rfl rfl rfl rfl (Nat.le_of_ble_eq_true rfl) rfl fun σ hO => ?_
  have hO := zt56 hO
  refine zc (zg ?_)
  obtain ⟨_, Z, g2, hO⟩ := d8.share hO (i := 5) rfl
  have hL := hL.trans Z
  have b1 := b1.le Z
  have b2 := b2.le Z
  have Y := Y.le Z
  have hO := zt56 hO
  cases hF
  have hO := hO.sel [2, 3, 4, 0]
  refine (hQ _ _ _ _ _ rfl hO hL ?_).2
  exact ⟨_, _, _, _, _, _, _, _, rfl, rfl, b1, b2, Y, g2, (w.le hL), (o.le hL)⟩
 refine zA (zg ?_)
 cases hF
 have hO := hO.sel [2, 3, 4, 0]
 refine (hQ _ _ _ _ _ rfl hO hL ?_).2
 exact ⟨_, _, _, _, _, _, _, _, rfl, rfl, c9, d0, d4, (B.le hL), (w.le hL), (o.le hL)⟩
end Go.Proofs.Ytnhboaaikehpoaa
