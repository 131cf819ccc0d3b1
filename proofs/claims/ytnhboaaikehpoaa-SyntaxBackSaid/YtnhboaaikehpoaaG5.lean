import Derived.Test.YtnhboaaikehpoaaG4
namespace Go.Proofs.Ytnhboaaikehpoaa
open Go.Ab Go.RowKit
set_option linter.unusedVariables false
set_option linter.unusedSimpArgs false
set_option maxRecDepth 10000
set_option maxHeartbeats 1000000
theorem zrf {τ : Hp} {p0 : zh} {b8 b9 b6 : Value} (c8 : RdT zu τ b8 p0.Kids) (c9 : RdT zy τ b9 p0.Body) (c4 : RdT zy τ b6 p0.Else) {rr : Bool} (hF : zgt p0 = some rr) :
  Ctr Try.prog 74 #[.agg #[.int .u8 p0.Kind.toNat, .int .i64 p0.Line, .string p0.Name, .string p0.Field, .string p0.Call, .int .u8 p0.Type_.Kind.toNat, .int .i64 p0.Type_.N, .string p0.Type_.Name, b8, b9, b6]] τ [] (fun v τ' vs' => v = .bool rr ∧ vs' = []) := by
 obtain ⟨b1, b3, rfl, -⟩ := c8.form
 obtain ⟨b4, b5, rfl, -⟩ := c9.form
 obtain ⟨Z, b0, rfl, -⟩ := c4.form
 refine zbl (args := [.agg #[.int .u8 p0.Kind.toNat, .int .i64 p0.Line, .string p0.Name, .string p0.Field, .string p0.Call, .int .u8 p0.Type_.Kind.toNat, .int .i64 p0.Type_.N, .string p0.Type_.Name, (.slice b1 p0.Kids.length b3), (.slice b4 p0.Body.length b5), (.slice Z p0.Else.length b0)]]) hm Try.func74 s74 rfl fun w0 σ hO Q hQ => ?_
 unfold zgt at hF
 have hL := Hp.le.refl τ
 show wpn _ _ a74.body _ _ _
 unfold a74
 dsimp only
 refine zct (n := 11) hO rfl rfl fun B σ hO => ?_
 have hO := zt51 hO
 refine zd hO [] [] [1] ztK fun j => ?_
 refine zd hO [] [(3, zt0 1)] [1] ztL fun j => ?_
 refine zi (zd hO [0] [(7, .int .u8 (p0.Kind.toNat : Int))] [1, 3] (And.intro (And.intro rfl rfl) ztM) fun j => ?_)
 refine zfo (fun e' σ' => ∃ (b7 : Int) (τ' : Hp), agr [(1, zt1 B), (3, zt0 b7)] e' ∧ Obs τ' σ' [zby B (p0.Kind.toNat : Int) p0.Line p0.Name p0.Field p0.Call (p0.Type_.Kind.toNat : Int) p0.Type_.N p0.Type_.Name (zt7 b1 p0.Kids b3) (zt7 b4 p0.Body b5) (zt7 Z p0.Else b0)] ∧ Hp.le τ τ' ∧ zeb p0 b7 = some rr) ?_ ?_
 ·refine zd hO [] [(8, .bool ((p0.Kind.toNat : Int) == 3))] [1, 3, 7] ztN fun j => ?_
  refine zbm (zn hF rfl (fun hF => ?_) fun hF => ?_)
  ·refine zd hO [] [(3, zt0 2)] [1] ztL fun j => ?_
   refine zg (zC (zj ?_))
   exact ⟨2, _, ztZ ztK, hO, hL, hF⟩
  refine zi (zd hO [] [(10, .bool ((p0.Kind.toNat : Int) == 9))] [1, 3, 7] ztN fun j => ?_)
  refine zn hF rfl (fun hF => ?_) fun hF => ?_
  ·refine zd hO [] [(3, zt0 0)] [1] ztL fun j => ?_
   refine zg (zC (zj ?_))
   exact ⟨0, _, ztZ ztK, hO, hL, hF⟩
  refine zi (zi (zd hO [] [(12, .bool ((p0.Kind.toNat : Int) == 1))] [1, 3, 7] ztN fun j => ?_))
  refine zcO (fun e' σ' => ∃ (c0 : Bool) (τ' : Hp), agr [(1, zt1 B), (3, zt0 1), (7, .int .u8 (p0.Kind.toNat : Int)), (12, .bool c0)] e' ∧ Obs τ' σ' [zby B (p0.Kind.toNat : Int) p0.Line p0.Name p0.Field p0.Call (p0.Type_.Kind.toNat : Int) p0.Type_.N p0.Type_.Name (zt7 b1 p0.Kids b3) (zt7 b4 p0.Body b5) (zt7 Z p0.Else b0)] ∧ Hp.le τ τ' ∧ zg4 p0 c0 = some rr) ?_ ?_
  ·refine zbm (zn hF rfl (fun hF => ?_) fun hF => ?_)
   ·refine zA (zg (zj ?_))
    exact ⟨((p0.Kind.toNat : Int) == 1), _, ztZ ztM, hO, hL, hF⟩
   refine zd hO [] [(12, .bool ((p0.Kind.toNat : Int) == 10))] [1, 3, 7] ztN fun j => ?_
   refine zg (zj ?_)
   exact ⟨((p0.Kind.toNat : Int) == 10), _, ztZ ztM, hO, hL, hF⟩
  rintro e σ ⟨c0, _, hA, hO, hL, hF⟩
  rw [← zM _ _ hA]
  unfold zg4 at hF
  refine zn hF rfl (fun hF => ?_) fun hF => ?_
  ·refine zd hO [0] [(3, zt0 (zdK (p0.Kids.length : Int) 1))] [1] (And.intro (And.intro rfl rfl) ztL) fun j => ?_
   refine zg (zC (zj ?_))
   exact ⟨(zdK (p0.Kids.length : Int) 1), _, ztZ ztK, hO, hL, hF⟩
  refine zi (zd hO [] [(19, .bool ((p0.Kind.toNat : Int) == 5))] [1, 3] ztM fun j => ?_)
  refine zn hF rfl (fun hF => ?_) fun hF => ?_
  ·refine zd hO [0] [(3, zt0 (p0.Kids.length : Int))] [1] (And.intro (And.intro rfl rfl) ztL) fun j => ?_
   refine zg (zC (zj ?_))
   exact ⟨(p0.Kids.length : Int), _, ztZ ztK, hO, hL, hF⟩
  refine zA (zg (zC (zj ?_)))
  exact ⟨1, _, ztZ ztK, hO, hL, hF⟩
 rintro e σ ⟨b7, _, hA, hO, hL, hF⟩
 rw [← zM _ _ hA]
 unfold zeb at hF
 refine zd hO [0, 0] [(4, .bool (((p0.Kind.toNat : Int) == 6) || ((p0.Kind.toNat : Int) == 7)))] [1, 3] (And.intro (And.intro rfl rfl) (And.intro (And.intro rfl rfl) (And.intro (And.intro rfl rfl) (fun _ => ztZ ztL)))) fun j => ?_
 refine zd hO [0, 0] [(5, .bool ((decide ((p0.Kind.toNat : Int) ≤ 4)) || ((p0.Kind.toNat : Int) == 9)))] [1, 3, 4] (And.intro (And.intro rfl rfl) (And.intro (And.intro rfl rfl) (And.intro (And.intro rfl rfl) (fun _ => ztZ ztM)))) fun j => ?_
 refine za hO 10 [0, 0, 0] [(55, .bool (((decide ((p0.Kind.toNat : Int) ≥ 1)) && (decide ((p0.Kind.toNat : Int) ≤ 10))) && ((p0.Kids.length : Int) == b7)))] [1, 4, 5] (And.intro (And.intro rfl rfl) (And.intro (And.intro rfl rfl) (And.intro (And.intro rfl rfl) (fun _ => And.intro (And.intro rfl rfl) (And.intro (And.intro rfl rfl) (fun _ => ztZ ztM)))))) fun j => ?_
 obtain ⟨c5, d0, hF⟩ := zt6 hF
 refine zbQ 4 [(63, .bool c5), (1, zt1 B), (5, .bool ((decide ((p0.Kind.toNat : Int) ≤ 4)) || ((p0.Kind.toNat : Int) == 9)))] (fun Q hQ => ?_) fun j => ?_
 ·have hF := d0
  rcases z1 hF with ⟨h, hF⟩ | ⟨h, hF⟩
  ·refine zF (zt4 h) ?_
   refine za hO 2 [] [(57, .bool (((p0.Kind.toNat : Int) == 6) || ((p0.Kind.toNat : Int) == 7)))] [1, 5, 55] ztN fun j => ?_
   rcases z1 hF with ⟨E, hF⟩ | ⟨E, hF⟩
   ·refine zI (zt3 E) ?_
    refine zF (zt4 h) ?_
    refine zp (zt2 E) ?_
    refine zp (zt2 h) ?_
    refine zc ?_
    cases hF
    refine zg ?_
    exact hQ _ ztM
   refine zF (zt3 E) ?_
   refine za hO 4 [0] [(61, .bool ((p0.Body.length : Int) == 0))] [1, 5, 55, 57] (And.intro (And.intro rfl rfl) ztO) fun j => ?_
   refine zF (zt4 h) ?_
   refine zp (zt2 E) ?_
   refine zp (zt2 h) ?_
   refine zc ?_
   cases hF
   refine zg ?_
   exact hQ _ ztM
  refine zI (zt4 h) ?_
  refine zI rfl ?_
  refine zI (zt4 h) ?_
  refine zp (zt2 h) ?_
  refine zc ?_
  cases hF
  refine zg ?_
  exact hQ _ ztM
 refine za hO 1 [] [(64, .bool c5)] [1, 5] ztM fun j => ?_
 obtain ⟨c1, d4, hF⟩ := zt6 hF
 refine zbQ 4 [(74, .bool c1), (1, zt1 B), (5, .bool ((decide ((p0.Kind.toNat : Int) ≤ 4)) || ((p0.Kind.toNat : Int) == 9)))] (fun Q hQ => ?_) fun j => ?_
 ·have hF := d4
  rcases z1 hF with ⟨o, hF⟩ | ⟨o, hF⟩
  ·refine zF (zt4 o) ?_
   refine za hO 4 [0] [(68, .bool ((p0.Kind.toNat : Int) == 6))] [1, 5, 64] (And.intro (And.intro rfl rfl) ztN) fun j => ?_
   rcases z1 hF with ⟨G, hF⟩ | ⟨G, hF⟩
   ·refine zI (zt3 G) ?_
    refine zF (zt4 o) ?_
    refine zp (zt2 G) ?_
    refine zp (zt2 o) ?_
    refine zc ?_
    cases hF
    refine zg ?_
    exact hQ _ ztM
   refine zF (zt3 G) ?_
   refine za hO 4 [0] [(72, .bool ((p0.Else.length : Int) == 0))] [1, 5, 64, 68] (And.intro (And.intro rfl rfl) ztO) fun j => ?_
   refine zF (zt4 o) ?_
   refine zp (zt2 G) ?_
   refine zp (zt2 o) ?_
   refine zc ?_
   cases hF
   refine zg ?_
   exact hQ _ ztM
  refine zI (zt4 o) ?_
  refine zI rfl ?_
  refine zI (zt4 o) ?_
  refine zp (zt2 o) ?_
  refine zc ?_
  cases hF
  refine zg ?_
  exact hQ _ ztM
 refine za hO 1 [] [(75, .bool c1)] [1, 5] ztM fun j => ?_
 obtain ⟨c6, d5, hF⟩ := zt6 hF
 refine zbQ 6 [(87, .bool c6), (1, zt1 B)] (fun Q hQ => ?_) fun j => ?_
 ·have hF := d5
  rcases z1 hF with ⟨g, hF⟩ | ⟨g, hF⟩
  ·refine zF (zt4 g) ?_
   refine za hO 2 [] [(77, .bool ((decide ((p0.Kind.toNat : Int) ≤ 4)) || ((p0.Kind.toNat : Int) == 9)))] [1, 75] ztM fun j => ?_
   rcases z1 hF with ⟨I, hF⟩ | ⟨I, hF⟩
   ·refine zI (zt3 I) ?_
    refine zF (zt4 g) ?_
    refine zp (zt2 I) ?_
    refine za hO 1 [] [(82, .bool true)] [1, 75] ztM fun j => ?_
    rcases z1 hF with ⟨M, hF⟩ | ⟨M, hF⟩
    ·refine zI (zt3 M) ?_
     refine zF (zt4 g) ?_
     refine zp (zt2 M) ?_
     refine zp (zt2 g) ?_
     refine zc ?_
     cases hF
     refine zg ?_
     exact hQ _ ztL
    refine zF (zt3 M) ?_
    refine za hO 3 [0] [(85, .bool (zV p0.Name zs3))] [1, 75, 82] (And.intro (And.intro rfl rfl) ztN) fun j => ?_
    refine zF (zt4 g) ?_
    refine zp (zt2 M) ?_
    refine zp (zt2 g) ?_
    refine zc ?_
    cases hF
    refine zg ?_
    exact hQ _ ztL
   refine zF (zt3 I) ?_
   refine za hO 3 [0] [(80, .bool ((p0.Kind.toNat : Int) == 5))] [1, 75, 77] (And.intro (And.intro rfl rfl) ztN) fun j => ?_
   refine zF (zt4 g) ?_
   refine zp (zt2 I) ?_
   refine za hO 1 [] [(82, .bool ((p0.Kind.toNat : Int) == 5))] [1, 75] ztM fun j => ?_
   rcases z1 hF with ⟨U, hF⟩ | ⟨U, hF⟩
   ·refine zI (zt3 U) ?_
    refine zF (zt4 g) ?_
    refine zp (zt2 U) ?_
    refine zp (zt2 g) ?_
    refine zc ?_
    cases hF
    refine zg ?_
    exact hQ _ ztL
   refine zF (zt3 U) ?_
   refine zbk hO 3 [0] [(1, zt1 B), (75, .bool c1), (82, .bool ((p0.Kind.toNat : Int) == 5)), (85, .bool (zV p0.Name zs3))] (And.intro (And.intro rfl rfl) ztN) fun j => ?_
   refine zF (zt4 g) ?_
   refine zp (zt2 U) ?_
   refine zp (zt2 g) ?_
   refine zc ?_
   cases hF
   refine zg ?_
   exact hQ _ ztL
  refine zI (zt4 g) ?_
  refine zI rfl ?_
  refine zI (zt4 g) ?_
  refine zI rfl ?_
  refine zI (zt4 g) ?_
  refine zp (zt2 g) ?_
  refine zc ?_
  cases hF
  refine zg ?_
  exact hQ _ ztL
 refine za hO 1 [] [(88, .bool c6)] [1] ztL fun j => ?_
 obtain ⟨c2, d6, hF⟩ := zt6 hF
 refine zbQ 4 [(97, .bool c2), (1, zt1 B)] (fun Q hQ => ?_) fun j => ?_
 ·have hF := d6
  rcases z1 hF with ⟨t, hF⟩ | ⟨t, hF⟩
  ·refine zF (zt4 t) ?_
   refine za hO 4 [0] [(92, .bool ((p0.Kind.toNat : Int) == 4))] [1, 88] (And.intro (And.intro rfl rfl) ztM) fun j => ?_
   rcases z1 hF with ⟨V, hF⟩ | ⟨V, hF⟩
   ·refine zI (zt3 V) ?_
    refine zF (zt4 t) ?_
    refine zp (zt2 V) ?_
    refine zp (zt2 t) ?_
    refine zc ?_
    cases hF
    refine zg ?_
    exact hQ _ ztL
   refine zF (zt3 V) ?_
   refine za hO 3 [0] [(95, .bool (zV p0.Field zs3))] [1, 88, 92] (And.intro (And.intro rfl rfl) ztN) fun j => ?_
   refine zF (zt4 t) ?_
   refine zp (zt2 V) ?_
   refine zp (zt2 t) ?_
   refine zc ?_
   cases hF
   refine zg ?_
   exact hQ _ ztL
  refine zI (zt4 t) ?_
  refine zI rfl ?_
  refine zI (zt4 t) ?_
  refine zp (zt2 t) ?_
  refine zc ?_
  cases hF
  refine zg ?_
  exact hQ _ ztL
 refine za hO 1 [] [(98, .bool c2)] [1] ztL fun j => ?_
 obtain ⟨c3, d7, hF⟩ := zt6 hF
 refine zbQ 4 [(107, .bool c3), (1, zt1 B)] (fun Q hQ => ?_) fun j => ?_
 ·have hF := d7
  rcases z1 hF with ⟨w, hF⟩ | ⟨w, hF⟩
  ·refine zF (zt4 w) ?_
   refine za hO 4 [0] [(102, .bool ((p0.Kind.toNat : Int) == 5))] [1, 98] (And.intro (And.intro rfl rfl) ztM) fun j => ?_
   rcases z1 hF with ⟨X, hF⟩ | ⟨X, hF⟩
   ·refine zI (zt3 X) ?_
    refine zF (zt4 w) ?_
    refine zp (zt2 X) ?_
    refine zp (zt2 w) ?_
    refine zc ?_
    cases hF
    refine zg ?_
    exact hQ _ ztL
   refine zF (zt3 X) ?_
   refine zbk hO 3 [0] [(1, zt1 B), (98, .bool c2), (102, .bool ((p0.Kind.toNat : Int) == 5)), (105, .bool (zV p0.Call zs3))] (And.intro (And.intro rfl rfl) ztN) fun j => ?_
   refine zF (zt4 w) ?_
   refine zp (zt2 X) ?_
   refine zp (zt2 w) ?_
   refine zc ?_
   cases hF
   refine zg ?_
   exact hQ _ ztL
  refine zI (zt4 w) ?_
  refine zI rfl ?_
  refine zI (zt4 w) ?_
  refine zp (zt2 w) ?_
  refine zc ?_
  cases hF
  refine zg ?_
  exact hQ _ ztL
 refine za hO 1 [] [(108, .bool c3)] [1] ztL fun j => ?_
 obtain ⟨c7, d8, hF⟩ := zt6 hF
 refine zbQ 4 [(118, .bool c7)] (fun Q hQ => ?_) fun j => ?_
 ·have hF := d8
  rcases z1 hF with ⟨z, hF⟩ | ⟨z, hF⟩
  ·refine zF (zt4 z) ?_
   refine zbk hO 4 [0] [(1, zt1 B), (108, .bool c3), (112, .bool ((p0.Kind.toNat : Int) == 1))] (And.intro (And.intro rfl rfl) ztM) fun j => ?_
   rcases z1 hF with ⟨Y, hF⟩ | ⟨Y, hF⟩
   ·refine zI (zt3 Y) ?_
    refine zF (zt4 z) ?_
    refine zp (zt2 Y) ?_
    refine zp (zt2 z) ?_
    refine zc ?_
    cases hF
    refine zg ?_
    exact hQ _ (ztZ (trivial))
   refine zF (zt3 Y) ?_
   refine za hO 4 [0] [(116, .bool (( (p0.Type_.Kind.toNat : Int) == 0) && (( p0.Type_.N == 0) && ((zV p0.Type_.Name zs3) && true))))] [108, 112] (And.intro (And.intro rfl rfl) ztM) fun j => ?_
   refine zF (zt4 z) ?_
   refine zp (zt2 Y) ?_
   refine zp (zt2 z) ?_
   refine zc ?_
   cases hF
   refine zg ?_
   exact hQ _ (ztZ (trivial))
  refine zI (zt4 z) ?_
  refine zI rfl ?_
  refine zI (zt4 z) ?_
  refine zp (zt2 z) ?_
  refine zc ?_
  cases hF
  refine zg ?_
  exact hQ _ (ztZ (trivial))
 refine zU hO [] [(2, .bool c7)] ztK fun j => ?_
 refine z9 ?_
 cases hF
 have hO := hO.sel []
 exact hQ _ _ _ _ _ rfl hO hL ⟨rfl, rfl⟩
theorem zow {τ : Hp} {p0 : ByteArray}  {rr : Int} (hF : zfI p0 = some rr) :
  Ctr Try.prog 90 #[.string p0] τ [] (fun v τ' vs' => v = .int .i64 rr ∧ vs' = []) := by
 refine zbl (args := [.string p0]) hm Try.func90 s90 rfl fun w0 σ hO Q hQ => ?_
 unfold zfI at hF
 have hL := Hp.le.refl τ
 show wpn _ _ a90.body _ _ _
 unfold a90
 dsimp only
 refine zd hO [] [] [0] ztK fun j => ?_
 obtain ⟨c2, h3, hF⟩ := zt6 hF
 refine z5 hO (zrv h3) rfl fun _ σ _ _ hO h4 h5 => ?_
 have hL := hL.trans h4
 obtain ⟨v6, o9, rfl, rfl, b5⟩ := h5
 obtain ⟨A7, c8, rfl, -⟩ := b5.form
 have hO := zt51 hO
 refine zd hO [] [(3, zt7 A7 c2 c8)] [0] ztL fun j => ?_
 refine zi (zd hO [] [(4, zt0 0)] [0, 3] ztM fun j => ?_)
 refine zH (zbo (fun (n : Nat) e' σ' => ∃ (Y : Option Addr) (Z : Nat) (b0 : Ob) (t : List (List ByteArray)) (g : Int) (τ' : Hp), agr [(0, .string p0), (3, zt7 Y t Z), (4, zt0 g)] e' ∧ Obs τ' σ' [b0] ∧ Hp.le τ τ' ∧ ze (Ty.slice Ty.str) 69 τ' (zt7 Y t Z) t b0 ∧ zdI p0 n t g = some rr) big ⟨A7, c8, o9, c2, 0, _, ztZ ztL, hO, hL, b5, hF⟩ ?_)
 clear hF hO hL
 rintro w e σ ⟨Y, Z, b0, t, g, _, hA, hO, hL, b6, hF⟩
 rw [← zM _ _ hA]
 cases w with
 | zero => exact nomatch (show none = some rr from hF)
 | succ w =>
 replace hF : zhd (zdI p0 w) p0 t g = some rr := hF
 unfold zhd at hF
 refine zi (zd hO [] [(10, .bool (decide (g < (t.length : Int))))] [0, 3, 4] ztN fun j => ?_)
 refine zn hF rfl (fun hF => ?_) fun hF => ?_
 ·refine zA (zH (zd hO [] [(5, zt0 0)] [0, 3, 4] ztN fun j => ?_))
  refine zbU (zH (zbo (fun (n : Nat) e' σ' => ∃ (z : Option Addr) (B : Nat) (I : Ob) (h : List (List ByteArray)) (o : Int) (τ' : Hp), agr [(0, .string p0), (3, zt7 z h B), (4, zt0 g), (5, zt0 o)] e' ∧ Obs τ' σ' [I] ∧ Hp.le τ τ' ∧ ze (Ty.slice Ty.str) 69 τ' (zt7 z h B) h I ∧ zeH (zdI p0 w) p0 g n h o = some rr) big ⟨Y, Z, b0, t, 0, _, ztZ ztM, hO, hL, b6, hF⟩ ?_))
  clear hF hO hL
  rintro b1 e σ ⟨z, B, I, h, o, _, hA, hO, hL, b2, hF⟩
  rw [← zM _ _ hA]
  cases b1 with
  | zero => exact nomatch (show none = some rr from hF)
  | succ b1 =>
  replace hF : zgC (zeH (zdI p0 w) p0 g b1) (zdI p0 w) p0 g h o = some rr := hF
  unfold zgC at hF
  refine zi (za hO 3 [] [(13, zt0 o), (14, zt7 z h B), (15, zt0 g)] [0, 3, 4, 5] ztQ fun j => ?_)
  obtain ⟨b7, b8, hF⟩ := zt6 hF
  refine zd5 (T := (Ty.slice Ty.str)) hO b2 (i := 0) rfl rfl rfl b8 (by decide) fun a296 _ b9 c0 f4 => ?_
  have c1 := b9
  obtain ⟨f5, rfl, c3⟩ := c1
  obtain ⟨f6, f7, rfl, -⟩ := c3.form
  refine zG rfl c0.fst ?_
  refine zd hO [] [(19, .bool (decide (o < (b7.length : Int))))] [0, 3, 4, 5] ztO fun j => ?_
  refine zn hF rfl (fun hF => ?_) fun hF => ?_
  ·refine zA (zH (za hO 2 [] [(22, zt7 z h B), (23, zt0 g)] [0, 3, 4, 5] ztP fun j => ?_))
   obtain ⟨f8, c4, hF⟩ := zt6 hF
   refine zd5 (T := (Ty.slice Ty.str)) hO b2 (i := 0) rfl rfl rfl c4 (by decide) fun a308 _ c5 c6 f9 => ?_
   have c7 := c5
   obtain ⟨g0, rfl, c9⟩ := c7
   refine zG rfl c6.fst ?_
   refine za hO 1 [] [(26, zt0 o)] [0, 3, 4, 5, 25] ztP fun j => ?_
   obtain ⟨b3, d0, hF⟩ := zt6 hF
   refine zN (T := Ty.str) c9 hO.base rfl rfl d0 (by decide) fun a319 _ d4 d5 => ?_
   obtain rfl : _ = ([.string b3] : List Value) := d4
   refine zG rfl (d5.le hO.base).fst ?_
   refine zd hO [] [(30, .bool (zV b3 p0))] [0, 3, 4, 5] ztO fun j => ?_
   refine zbm (zn hF rfl (fun hF => ?_) fun hF => ?_)
   ·refine zi (zU hO [] [(2, zt0 g)] ztK fun j => ?_)
    refine zbi (z6 (zQ (zQ (z6 (zQ (z6 ?_))))))
    refine zQ (zQ (z6 (zQ ?_)))
    cases hF
    have hO := hO.sel []
    exact hQ _ _ _ _ _ rfl hO hL ⟨rfl, rfl⟩
   refine zA (zg (zC (zj (z3 (zd hO [] [(5, zt0 (IntKind.i64.wrap (o + 1)))] [0, 3, 4] ztN fun j => ?_)))))
   refine zg (zj ?_)
   exact ⟨b1, Nat.lt_succ_self _, z, B, I, h, (IntKind.i64.wrap (o + 1)), _, ztZ ztM, hO, hL, b2, hF⟩
  refine zbs (zbp (zbr (zj (zg (zC (zj ?_))))))
  refine z3 (zd hO [] [(4, zt0 (IntKind.i64.wrap (g + 1)))] [0, 3] ztM fun j => ?_)
  refine zg (zj ?_)
  exact ⟨w, Nat.lt_succ_self _, z, B, I, h, (IntKind.i64.wrap (g + 1)), _, ztZ ztL, hO, hL, b2, hF⟩
 refine zbs (zbp (zbr (zj (zU hO [] [(2, zt0 (-1))] ztK fun j => ?_))))
 refine z9 ?_
 cases hF
 have hO := hO.sel []
 exact hQ _ _ _ _ _ rfl hO hL ⟨rfl, rfl⟩
def zkv (gn : Nat) : Prop := ∀ {τ : Hp} {q0 : zk} {M : Nat} {E : Value} {G : Ob} {p1 : zb} {U : Value} (b4 : ze zm 79 τ E q0.L G) (d6 : RdT zu τ U p1.Kids) {rr : zk} (hF : ((zbL gn).1) q0 p1 = some rr), Ctr Try.prog 75 #[.pointer (some ⟨M, 0, none⟩), .agg #[.int .u8 p1.Kind.toNat, .int .i64 p1.Num, .string p1.Name, .string p1.Field, .string p1.Op, U]] τ [zbh M E q0.Line q0.More q0.Failed, G] (fun v τ' vs' => ∃ (V : Value) (X : Ob), v = .tuple #[] ∧ vs' = [zbh M V rr.Line rr.More rr.Failed, X] ∧ ze zm 79 τ' V rr.L X)
def zkI (gn : Nat) : Prop := ∀ {τ : Hp} {q0 : zk} {M : Nat} {E : Value} {G : Ob} {p1 : zb} {U : Value} (b4 : ze zm 79 τ E q0.L G) (d6 : RdT zu τ U p1.Kids) {rr : zk} (hF : ((zbL gn).2) q0 p1 = some rr), Ctr Try.prog 81 #[.pointer (some ⟨M, 0, none⟩), .agg #[.int .u8 p1.Kind.toNat, .int .i64 p1.Num, .string p1.Name, .string p1.Field, .string p1.Op, U]] τ [zbh M E q0.Line q0.More q0.Failed, G] (fun v τ' vs' => ∃ (V : Value) (X : Ob), v = .tuple #[] ∧ vs' = [zbh M V rr.Line rr.More rr.Failed, X] ∧ ze zm 79 τ' V rr.L X)
theorem zrt {gn : Nat} (ih_ref12_layer_kid : zkv gn) (ih_ref12_layer_exp : zkI gn) {τ : Hp} {q0 : zk} {g : Nat} {c7 : Value} {I : Ob} {p1 : zb} {d4 : Value} (X : ze zm 79 τ c7 q0.L I) (d5 : RdT zu τ d4 p1.Kids) {rr : zk} (hF : zgS ((zbL gn).1) ((zbL gn).2) q0 p1 = some rr) :
  Ctr Try.prog 75 #[.pointer (some ⟨g, 0, none⟩), .agg #[.int .u8 p1.Kind.toNat, .int .i64 p1.Num, .string p1.Name, .string p1.Field, .string p1.Op, d4]] τ [zbh g c7 q0.Line q0.More q0.Failed, I] (fun v τ' vs' => ∃ (d6 : Value) (d7 : Ob), v = .tuple #[] ∧ vs' = [zbh g d6 rr.Line rr.More rr.Failed, d7] ∧ ze zm 79 τ' d6 rr.L d7) := by
 obtain ⟨c8, c9, rfl, -⟩ := X.form
 obtain ⟨Y, Z, rfl, -⟩ := d5.form
 refine zfB (args := [.pointer (some ⟨g, 0, none⟩), .agg #[.int .u8 p1.Kind.toNat, .int .i64 p1.Num, .string p1.Name, .string p1.Field, .string p1.Op, (.slice Y p1.Kids.length Z)]]) hm Try.func75 s75 rfl fun w0 σ hO Q hQ => ?_
 unfold zgS at hF
 have hL := Hp.le.refl τ
 show wpn _ _ a75.body _ _ _
 unfold a75
 dsimp only
 refine zct (n := 6) hO rfl rfl fun b3 σ hO => ?_
 have hO := zt53 hO
 refine zc (zd hO [0] [(4, zt0 q0.More)] [0, 3] (And.intro (And.intro rfl rfl) ztM) fun j => ?_)
 refine zi (zd hO [2, 2] [(18, .bool (((p1.Kind.toNat : Int) == 6) || ((p1.Kind.toNat : Int) == 7)))] [0, 3, 4] (And.intro (And.intro rfl rfl) (And.intro (And.intro rfl rfl) (And.intro (And.intro rfl rfl) (fun _ => ztZ ztM)))) fun j => ?_)
 refine zcO (fun e' σ' => ∃ (A5 : Option Addr) (c6 : Nat) (o7 : Ob) (x8 : List zl) (h : Int) (τ' : Hp), agr [(0, zt1 g), (3, zt1 b3), (4, zt0 h)] e' ∧ Obs τ' σ' [zbh g (zt7 A5 x8 c6) q0.Line q0.More q0.Failed, o7, zeT b3 (p1.Kind.toNat : Int) p1.Num p1.Name p1.Field p1.Op (zt7 Y p1.Kids Z)] ∧ Hp.le τ τ' ∧ ze zm 79 τ' (zt7 A5 x8 c6) x8 o7 ∧ zge (zbL gn).2 q0 p1 x8 h = some rr) ?_ ?_
 ·refine zbm (zn hF rfl (fun hF => ?_) fun hF => ?_)
  ·refine zd hO [] [(4, zt0 (IntKind.i64.wrap (q0.More + 1)))] [0, 3] ztM fun j => ?_
   refine zg (zj ?_)
   exact ⟨c8, c9, I, q0.L, (IntKind.i64.wrap (q0.More + 1)), _, ztZ ztL, hO, hL, (X.le hL), hF⟩
  refine zA (zg (zj ?_))
  exact ⟨c8, c9, I, q0.L, q0.More, _, ztZ ztL, hO, hL, (X.le hL), hF⟩
 rintro e σ ⟨A5, c6, o7, x8, h, _, hA, hO, hL, w9, hF⟩
 rw [← zM _ _ hA]
 unfold zge at hF
 refine zi (zd hO [] [(5, zt0 0)] [0, 3, 4] ztN fun j => ?_)
 refine zH (zbo (fun (n : Nat) e' σ' => ∃ (b8 : Option Addr) (b9 : Nat) (c0 : Ob) (o : List zl) (B E : Int) (G : Bool) (t : Int) (τ' : Hp), agr [(0, zt1 g), (3, zt1 b3), (4, zt0 h), (5, zt0 t)] e' ∧ Obs τ' σ' [zbh g (zt7 b8 o b9) B E G, c0, zeT b3 (p1.Kind.toNat : Int) p1.Num p1.Name p1.Field p1.Op (zt7 Y p1.Kids Z)] ∧ Hp.le τ τ' ∧ ze zm 79 τ' (zt7 b8 o b9) o c0 ∧ zfV (zbL gn).2 p1 h n o B E G t = some rr) big ⟨A5, c6, o7, x8, q0.Line, q0.More, q0.Failed, 0, _, ztZ ztM, hO, hL, w9, hF⟩ ?_)
 clear hF hO hL
 rintro b0 e σ ⟨b8, b9, c0, o, B, E, G, t, _, hA, hO, hL, b1, hF⟩
 rw [← zM _ _ hA]
 cases b0 with
 | zero => exact nomatch (show none = some rr from hF)
 | succ b0 =>
 replace hF : zhN (zfV (zbL gn).2 p1 h b0) (zbL gn).2 p1 h o B E G t = some rr := hF
 unfold zhN at hF
 refine zi (zd hO [] [(23, .bool (decide (t < h)))] [0, 3, 4, 5] ztO fun j => ?_)
 refine zn hF rfl (fun hF => ?_) fun hF => ?_
 ·refine zA (zH (z3 (za hO 1 [] [(26, zt1 g)] [0, 3, 4, 5] ztO fun j => ?_)))
  refine zt (T := Ty.str) (l := ([zs5] : List ByteArray)) (cs := [.string zs5]) hO rfl ⟨[.string zs5], _, rfl, rfl, rfl⟩ rfl (by decide) fun _ σ h8 f9 hO => ?_
  have hO := zt54 hO
  obtain ⟨_, d8, c1, hO⟩ := f9.share hO (i := 3) rfl
  have hL := hL.trans d8
  have b1 := b1.le d8
  have hO := zt54 hO
  obtain ⟨b2, g0, hF⟩ := zt6 hF
  have hO := hO.sel [2, 3, 0, 1]
  refine zz (hs := [_, _]) hO (zbt (q0 := (⟨o, B, E, G⟩ : zk)) b1 c1 g0) rfl fun _ σ _ _ hO d9 g1 => ?_
  have hL := hL.trans d9
  have c1 := c1.le d9
  obtain ⟨h9, g2, rfl, rfl, f0⟩ := g1
  obtain ⟨g3, g4, rfl, -⟩ := f0.form
  have hO := zt54 hO
  refine zc (zg (zC (zj (z3 (zd hO [] [(5, zt0 (IntKind.i64.wrap (t + 1)))] [0, 3, 4] ztN fun j => ?_)))))
  refine zg (zj ?_)
  have hO := hO.sel [2, 3, 0]
  exact ⟨b0, Nat.lt_succ_self _, g3, g4, g2, b2.L, b2.Line, b2.More, b2.Failed, (IntKind.i64.wrap (t + 1)), _, ztZ ztM, hO, hL, f0, hF⟩
 refine zbs (zbp (zbr (zj (za hO 2 [2] [(29, zt1 g), (30, .agg #[(.int .u8 (p1.Kind.toNat : Int)), (.int .i64 p1.Num), (.string p1.Name), (.string p1.Field), (.string p1.Op), (zt7 Y p1.Kids Z)])] [0, 4] (And.intro (And.intro rfl rfl) ztN) fun j => ?_))))
 obtain ⟨b4, g5, hF⟩ := zt6 hF
 have hO := hO.sel [2, 0, 1]
 refine zz (hs := [_]) hO (ih_ref12_layer_exp (q0 := (⟨o, B, E, G⟩ : zk)) b1 (d5.le hL) g5) rfl fun _ σ _ _ hO g6 g7 => ?_
 have hL := hL.trans g6
 obtain ⟨i0, g8, rfl, rfl, f1⟩ := g7
 obtain ⟨g9, h0, rfl, -⟩ := f1.form
 have hO := zt53 hO
 refine zc (zd hO [] [(6, zt0 0)] [0, 4] ztM fun j => ?_)
 refine zbU (zH ?_)
 have hO := hO.sel [1, 2]
 refine zbo (fun (n : Nat) e' σ' => ∃ (c2 : Option Addr) (c3 : Nat) (c4 : Ob) (w : List zl) (M U : Int) (V : Bool) (z : Int) (τ' : Hp), agr [(0, zt1 g), (4, zt0 h), (6, zt0 z)] e' ∧ Obs τ' σ' [zbh g (zt7 c2 w c3) M U V, c4] ∧ Hp.le τ τ' ∧ ze zm 79 τ' (zt7 c2 w c3) w c4 ∧ zfQ h n w M U V z = some rr) big ⟨g9, h0, g8, b4.L, b4.Line, b4.More, b4.Failed, 0, _, ztZ ztL, hO, hL, f1, hF⟩ ?_
 clear hF hO hL
 rintro b5 e σ ⟨c2, c3, c4, w, M, U, V, z, _, hA, hO, hL, b6, hF⟩
 rw [← zM _ _ hA]
 cases b5 with
 | zero => exact nomatch (show none = some rr from hF)
 | succ b5 =>
 replace hF : zie (zfQ h b5) h w M U V z = some rr := hF
 unfold zie at hF
 refine zi (zd hO [] [(34, .bool (decide (z < h)))] [0, 4, 6] ztN fun j => ?_)
 refine zn hF rfl (fun hF => ?_) fun hF => ?_
 ·refine zA (zH (z3 (za hO 1 [] [(37, zt1 g)] [0, 4, 6] ztN fun j => ?_)))
  refine zt (T := Ty.str) (l := ([zs4] : List ByteArray)) (cs := [.string zs4]) hO rfl ⟨[.string zs4], _, rfl, rfl, rfl⟩ rfl (by decide) fun _ σ i1 h1 hO => ?_
  have hO := zt53 hO
  obtain ⟨_, f2, c5, hO⟩ := h1.share hO (i := 2) rfl
  have hL := hL.trans f2
  have b6 := b6.le f2
  have hO := zt53 hO
  obtain ⟨b7, h2, hF⟩ := zt6 hF
  have hO := hO.sel [2, 0, 1]
  refine zz (hs := [_]) hO (zbt (q0 := (⟨w, M, U, V⟩ : zk)) b6 c5 h2) rfl fun _ σ _ _ hO f3 h3 => ?_
  have hL := hL.trans f3
  have c5 := c5.le f3
  obtain ⟨i2, h4, rfl, rfl, f4⟩ := h3
  obtain ⟨h5, h6, rfl, -⟩ := f4.form
  have hO := zt53 hO
  refine zc (zg (zC (zj (z3 (zd hO [] [(6, zt0 (IntKind.i64.wrap (z + 1)))] [0, 4] ztM fun j => ?_)))))
  refine zg (zj ?_)
  have hO := hO.sel [1, 2]
  exact ⟨b5, Nat.lt_succ_self _, h5, h6, h4, b7.L, b7.Line, b7.More, b7.Failed, (IntKind.i64.wrap (z + 1)), _, ztZ ztL, hO, hL, f4, hF⟩
 refine zbs (zbp (zbr (zj (zg ?_))))
 cases hF
 exact (hQ _ _ _ _ _ rfl hO hL ⟨_, _, rfl, rfl, b6⟩).2
theorem zpi {gn : Nat} (ih_ref12_layer_kid : zkv gn) (ih_ref12_layer_exp : zkI gn) {τ : Hp} {q0 : zk} {g : Nat} {h7 : Value} {b1 : Ob} {p1 : zb} {i2 : Value} (c4 : ze zm 79 τ h7 q0.L b1) (b2 : RdT zu τ i2 p1.Kids) {rr : zk} (hF : zhi ((zbL gn).1) ((zbL gn).2) q0 p1 = some rr) :
  Ctr Try.prog 81 #[.pointer (some ⟨g, 0, none⟩), .agg #[.int .u8 p1.Kind.toNat, .int .i64 p1.Num, .string p1.Name, .string p1.Field, .string p1.Op, i2]] τ [zbh g h7 q0.Line q0.More q0.Failed, b1] (fun v τ' vs' => ∃ (i3 : Value) (i4 : Ob), v = .tuple #[] ∧ vs' = [zbh g i3 rr.Line rr.More rr.Failed, i4] ∧ ze zm 79 τ' i3 rr.L i4) := by
 obtain ⟨h8, h9, rfl, -⟩ := c4.form
 obtain ⟨G, I, rfl, -⟩ := b2.form
 refine zfB (args := [.pointer (some ⟨g, 0, none⟩), .agg #[.int .u8 p1.Kind.toNat, .int .i64 p1.Num, .string p1.Name, .string p1.Field, .string p1.Op, (.slice G p1.Kids.length I)]]) hm Try.func81 s81 rfl fun w0 σ hO Q hQ => ?_
 unfold zhi at hF
 have hL := Hp.le.refl τ
 show wpn _ _ a81.body _ _ _
 unfold a81
 dsimp only
 refine zct (n := 6) hO rfl rfl fun U σ hO => ?_
 have hO := zt53 hO
 refine zc (zd hO [] [(4, zt0 0)] [0, 3] ztM fun j => ?_)
 refine zi (zd hO [2] [(8, .int .u8 (p1.Kind.toNat : Int))] [0, 3, 4] (And.intro (And.intro rfl rfl) ztN) fun j => ?_)
 refine zfo (fun e' σ' => ∃ (c1 : Option Addr) (c2 : Nat) (c3 : Ob) (t : List zl) (i0 : Int) (τ' : Hp), agr [(0, zt1 g), (3, zt1 U), (4, zt0 i0)] e' ∧ Obs τ' σ' [zbh g (zt7 c1 t c2) q0.Line q0.More q0.Failed, c3, zeT U (p1.Kind.toNat : Int) p1.Num p1.Name p1.Field p1.Op (zt7 G p1.Kids I)] ∧ Hp.le τ τ' ∧ ze zm 79 τ' (zt7 c1 t c2) t c3 ∧ zfy (zbL gn).1 q0 p1 t i0 = some rr) ?_ ?_
 ·refine zi (zd hO [] [(9, .bool ((p1.Kind.toNat : Int) == 4))] [0, 3, 4, 8] ztO fun j => ?_)
  refine zcO (fun e' σ' => ∃ (Y : Option Addr) (Z : Nat) (b0 : Ob) (M : List zl) (d6 : Bool) (τ' : Hp), agr [(0, zt1 g), (3, zt1 U), (4, zt0 0), (8, .int .u8 (p1.Kind.toNat : Int)), (9, .bool d6)] e' ∧ Obs τ' σ' [zbh g (zt7 Y M Z) q0.Line q0.More q0.Failed, b0, zeT U (p1.Kind.toNat : Int) p1.Num p1.Name p1.Field p1.Op (zt7 G p1.Kids I)] ∧ Hp.le τ τ' ∧ ze zm 79 τ' (zt7 Y M Z) M b0 ∧ zih (zbL gn).1 q0 p1 M d6 = some rr) ?_ ?_
  ·refine zbm (zn hF rfl (fun hF => ?_) fun hF => ?_)
   ·refine zA (zg (zj ?_))
    exact ⟨h8, h9, b1, q0.L, ((p1.Kind.toNat : Int) == 4), _, ztZ ztN, hO, hL, (c4.le hL), hF⟩
   refine zd hO [] [(9, .bool ((p1.Kind.toNat : Int) == 6))] [0, 3, 4, 8] ztO fun j => ?_
   refine zg (zj ?_)
   exact ⟨h8, h9, b1, q0.L, ((p1.Kind.toNat : Int) == 6), _, ztZ ztN, hO, hL, (c4.le hL), hF⟩
  rintro e σ ⟨Y, Z, b0, M, d6, _, hA, hO, hL, d7, hF⟩
  rw [← zM _ _ hA]
  unfold zih at hF
  refine zbm (zn hF rfl (fun hF => ?_) fun hF => ?_)
  ·refine zd hO [] [(4, zt0 1)] [0, 3] ztM fun j => ?_
   refine zg (zC (zj ?_))
   exact ⟨Y, Z, b0, M, 1, _, ztZ ztL, hO, hL, d7, hF⟩
  refine zi (zd hO [] [(12, .bool ((p1.Kind.toNat : Int) == 7))] [0, 3, 4] ztN fun j => ?_)
  refine zn hF rfl (fun hF => ?_) fun hF => ?_
  ·refine zd hO [] [(4, zt0 2)] [0, 3] ztM fun j => ?_
   refine zg (zC (zj ?_))
   exact ⟨Y, Z, b0, M, 2, _, ztZ ztL, hO, hL, d7, hF⟩
  refine zA (zg (zC (zj ?_)))
  exact ⟨Y, Z, b0, M, 0, _, ztZ ztL, hO, hL, d7, hF⟩
 rintro e σ ⟨c1, c2, c3, t, i0, _, hA, hO, hL, o, hF⟩
 rw [← zM _ _ hA]
 unfold zfy at hF
 refine zd hO [2, 2, 2] [(5, .bool ((((p1.Kind.toNat : Int) == 3) || ((p1.Kind.toNat : Int) == 4)) || ((p1.Kind.toNat : Int) == 5)))] [0, 3, 4] (And.intro (And.intro rfl rfl) (And.intro (And.intro rfl rfl) (And.intro (And.intro rfl rfl) (fun _ => And.intro (And.intro rfl rfl) (And.intro (And.intro rfl rfl) (fun _ => ztZ ztM)))))) fun j => ?_
 refine zd hO [2, 2] [(6, .bool (((p1.Kind.toNat : Int) == 6) || ((p1.Kind.toNat : Int) == 7)))] [0, 3, 4, 5] (And.intro (And.intro rfl rfl) (And.intro (And.intro rfl rfl) (And.intro (And.intro rfl rfl) (fun _ => ztZ ztN)))) fun j => ?_
 refine zi (za hO 6 [2] [(40, .bool ((p1.Kids.length : Int) != i0))] [0, 3, 5, 6] (And.intro (And.intro rfl rfl) ztO) fun j => ?_)
 obtain ⟨l3, v6, hF⟩ := zt6 hF
 refine zbQ 4 [(48, .bool l3), (0, zt1 g), (3, zt1 U), (6, .bool (((p1.Kind.toNat : Int) == 6) || ((p1.Kind.toNat : Int) == 7)))] (fun Q hQ => ?_) fun j => ?_
 ·have hF := v6
  rcases z1 hF with ⟨z, hF⟩ | ⟨z, hF⟩
  ·refine zI (zt3 z) ?_
   refine zI rfl ?_
   refine zI (zt3 z) ?_
   refine zp (zt2 z) ?_
   refine zc ?_
   cases hF
   refine zg ?_
   exact hQ _ ztN
  refine zF (zt3 z) ?_
  refine za hO 3 [] [(43, .bool (!((((p1.Kind.toNat : Int) == 3) || ((p1.Kind.toNat : Int) == 4)) || ((p1.Kind.toNat : Int) == 5))))] [0, 3, 6, 40] ztO fun j => ?_
  rcases z1 hF with ⟨b4, hF⟩ | ⟨b4, hF⟩
  ·refine zF (zt4 b4) ?_
   refine za hO 3 [2] [(46, .bool (!(zV p1.Name zs3)))] [0, 3, 6, 40, 43] (And.intro (And.intro rfl rfl) ztP) fun j => ?_
   refine zF (zt3 z) ?_
   refine zp (zt2 b4) ?_
   refine zp (zt2 z) ?_
   refine zc ?_
   cases hF
   refine zg ?_
   exact hQ _ ztN
  refine zI (zt4 b4) ?_
  refine zF (zt3 z) ?_
  refine zp (zt2 b4) ?_
  refine zp (zt2 z) ?_
  refine zc ?_
  cases hF
  refine zg ?_
  exact hQ _ ztN
 refine za hO 1 [] [(49, .bool l3)] [0, 3, 6] ztN fun j => ?_
 obtain ⟨l4, v7, hF⟩ := zt6 hF
 refine zbQ 4 [(58, .bool l4), (0, zt1 g), (3, zt1 U), (6, .bool (((p1.Kind.toNat : Int) == 6) || ((p1.Kind.toNat : Int) == 7)))] (fun Q hQ => ?_) fun j => ?_
 ·have hF := v7
  rcases z1 hF with ⟨B, hF⟩ | ⟨B, hF⟩
  ·refine zI (zt3 B) ?_
   refine zI rfl ?_
   refine zI (zt3 B) ?_
   refine zp (zt2 B) ?_
   refine zc ?_
   cases hF
   refine zg ?_
   exact hQ _ ztN
  refine zF (zt3 B) ?_
  refine za hO 4 [2] [(53, .bool ((p1.Kind.toNat : Int) != 5))] [0, 3, 6, 49] (And.intro (And.intro rfl rfl) ztO) fun j => ?_
  rcases z1 hF with ⟨b5, hF⟩ | ⟨b5, hF⟩
  ·refine zF (zt4 b5) ?_
   refine za hO 3 [2] [(56, .bool (!(zV p1.Field zs3)))] [0, 3, 6, 49, 53] (And.intro (And.intro rfl rfl) ztP) fun j => ?_
   refine zF (zt3 B) ?_
   refine zp (zt2 b5) ?_
   refine zp (zt2 B) ?_
   refine zc ?_
   cases hF
   refine zg ?_
   exact hQ _ ztN
  refine zI (zt4 b5) ?_
  refine zF (zt3 B) ?_
  refine zp (zt2 b5) ?_
  refine zp (zt2 B) ?_
  refine zc ?_
  cases hF
  refine zg ?_
  exact hQ _ ztN
 refine za hO 1 [] [(59, .bool l4)] [0, 3, 6] ztN fun j => ?_
 obtain ⟨i1, v8, hF⟩ := zt6 hF
 refine zbQ 4 [(67, .bool i1), (0, zt1 g), (3, zt1 U)] (fun Q hQ => ?_) fun j => ?_
 ·have hF := v8
  rcases z1 hF with ⟨E, hF⟩ | ⟨E, hF⟩
  ·refine zI (zt3 E) ?_
   refine zI rfl ?_
   refine zI (zt3 E) ?_
   refine zp (zt2 E) ?_
   refine zc ?_
   cases hF
   refine zg ?_
   exact hQ _ ztM
  refine zF (zt3 E) ?_
  refine za hO 3 [] [(62, .bool (!(((p1.Kind.toNat : Int) == 6) || ((p1.Kind.toNat : Int) == 7))))] [0, 3, 59] ztN fun j => ?_
  rcases z1 hF with ⟨b6, hF⟩ | ⟨b6, hF⟩
  ·refine zF (zt4 b6) ?_
   refine za hO 3 [2] [(65, .bool (!(zV p1.Op zs3)))] [0, 3, 59, 62] (And.intro (And.intro rfl rfl) ztO) fun j => ?_
   refine zF (zt3 E) ?_
   refine zp (zt2 b6) ?_
   refine zp (zt2 E) ?_
   refine zc ?_
   cases hF
   refine zg ?_
   exact hQ _ ztM
  refine zI (zt4 b6) ?_
  refine zF (zt3 E) ?_
  refine zp (zt2 b6) ?_
  refine zp (zt2 E) ?_
  refine zc ?_
  cases hF
  refine zg ?_
  exact hQ _ ztM
 refine za hO 1 [] [(68, .bool i1)] [0, 3] ztM fun j => ?_
 obtain ⟨v9, w2, hF⟩ := zt6 hF
 refine zbQ 6 [(82, .bool v9), (0, zt1 g), (3, zt1 U)] (fun Q hQ => ?_) fun j => ?_
 ·have hF := w2
  rcases z1 hF with ⟨h, hF⟩ | ⟨h, hF⟩
  ·refine zI (zt3 h) ?_
   refine zI rfl ?_
   refine zI (zt3 h) ?_
   refine zI rfl ?_
   refine zI (zt3 h) ?_
   refine zp (zt2 h) ?_
   refine zc ?_
   cases hF
   refine zg ?_
   exact hQ _ ztM
  refine zF (zt3 h) ?_
  refine za hO 4 [2] [(72, .bool ((p1.Kind.toNat : Int) != 1))] [0, 3, 68] (And.intro (And.intro rfl rfl) ztN) fun j => ?_
  rcases z1 hF with ⟨b7, hF⟩ | ⟨b7, hF⟩
  ·refine zF (zt4 b7) ?_
   refine za hO 3 [2] [(75, .bool ((p1.Kind.toNat : Int) != 2))] [0, 3, 68, 72] (And.intro (And.intro rfl rfl) ztO) fun j => ?_
   refine zF (zt3 h) ?_
   refine zp (zt2 b7) ?_
   refine zbk hO 1 [] [(0, zt1 g), (3, zt1 U), (68, .bool i1), (77, .bool ((p1.Kind.toNat : Int) != 2))] ztN fun j => ?_
   rcases z1 hF with ⟨b8, hF⟩ | ⟨b8, hF⟩
   ·refine zF (zt4 b8) ?_
    refine za hO 3 [2] [(80, .bool (p1.Num != 0))] [0, 3, 68, 77] (And.intro (And.intro rfl rfl) ztO) fun j => ?_
    refine zF (zt3 h) ?_
    refine zp (zt2 b8) ?_
    refine zp (zt2 h) ?_
    refine zc ?_
    cases hF
    refine zg ?_
    exact hQ _ ztM
   refine zI (zt4 b8) ?_
   refine zF (zt3 h) ?_
   refine zp (zt2 b8) ?_
   refine zp (zt2 h) ?_
   refine zc ?_
   cases hF
   refine zg ?_
   exact hQ _ ztM
  refine zI (zt4 b7) ?_
  refine zF (zt3 h) ?_
  refine zp (zt2 b7) ?_
  refine za hO 1 [] [(77, .bool false)] [0, 3, 68] ztN fun j => ?_
  rcases z1 hF with ⟨b9, hF⟩ | ⟨b9, hF⟩
  ·refine zF (zt4 b9) ?_
   refine zbk hO 3 [2] [(0, zt1 g), (3, zt1 U), (68, .bool i1), (77, .bool false), (80, .bool (p1.Num != 0))] (And.intro (And.intro rfl rfl) ztO) fun j => ?_
   refine zF (zt3 h) ?_
   refine zp (zt2 b9) ?_
   refine zp (zt2 h) ?_
   refine zc ?_
   cases hF
   refine zg ?_
   exact hQ _ ztM
  refine zI (zt4 b9) ?_
  refine zF (zt3 h) ?_
  refine zp (zt2 b9) ?_
  refine zp (zt2 h) ?_
  refine zc ?_
  cases hF
  refine zg ?_
  exact hQ _ ztM
 refine zc (zn hF rfl (fun hF => ?_) fun hF => ?_)
 ·refine zi (za hO 3 [] [(85, .pointer (some ⟨g, 3, none⟩))] [0] ztL fun j => ?_)
  refine zx hO (i := 0) rfl (off := 3) rfl rfl rfl rfl (Nat.le_of_ble_eq_true rfl) rfl fun σ hO => ?_
  have hO := zt53 hO
  refine zc (zbi ?_)
  cases hF
  have hO := hO.sel [0, 1]
  exact (hQ _ _ _ _ _ rfl hO hL ⟨_, _, rfl, rfl, o⟩).1
 refine zA (zd hO [2] [(87, .int .u8 (p1.Kind.toNat : Int))] [0, 3] (And.intro (And.intro rfl rfl) ztM) fun j => ?_)
 refine zbU (zfo (fun e' σ' => ∃ (d8 : Option Addr) (d9 : Nat) (f0 : Ob) (c0 : List zl) (f1 f2 : Int) (f3 : Bool) (τ' : Hp), agr [(0, zt1 g)] e' ∧ Obs τ' σ' [zbh g (zt7 d8 c0 d9) f1 f2 f3, f0] ∧ Hp.le τ τ' ∧ ze zm 79 τ' (zt7 d8 c0 d9) c0 f0 ∧ zdj c0 f1 f2 f3 = some rr) ?_ ?_)
 ·refine zd hO [] [(91, .bool ((p1.Kind.toNat : Int) == 1))] [0, 3, 87] ztN fun j => ?_
  refine zbm (zn hF rfl (fun hF => ?_) fun hF => ?_)
  ·refine zbk hO 3 [2] [(0, zt1 g), (93, zt1 g), (95, zt0 p1.Num)] (And.intro (And.intro rfl rfl) ztM) fun j => ?_
   obtain ⟨c5, l5, hF⟩ := zt6 hF
   have hO := hO.sel [2, 0, 1]
   refine zz (hs := [_]) hO (zm1 (q0 := (⟨t, q0.Line, q0.More, q0.Failed⟩ : zk)) o l5) rfl fun _ σ _ _ hO l6 l7 => ?_
   have hL := hL.trans l6
   obtain ⟨w3, l8, rfl, rfl, i5⟩ := l7
   obtain ⟨l9, m0, rfl, -⟩ := i5.form
   have hO := zt53 hO
   refine zc (zg (zC (zj ?_)))
   have hO := hO.sel [1, 2]
   exact ⟨l9, m0, l8, c5.L, c5.Line, c5.More, c5.Failed, _, ztZ trivial, hO, hL, i5, hF⟩
  refine zi (zU hO [] [(0, zt1 g), (3, zt1 U), (87, .int .u8 (p1.Kind.toNat : Int)), (97, .bool ((p1.Kind.toNat : Int) == 2))] ztN fun j => ?_)
  refine zn hF rfl (fun hF => ?_) fun hF => ?_
  ·refine zi (zd hO [2] [(101, .bool (p1.Num == 1))] [0, 3] (And.intro (And.intro rfl rfl) ztM) fun j => ?_)
   refine zn hF rfl (fun hF => ?_) fun hF => ?_
   ·refine za hO 1 [] [(102, zt1 g)] [0] ztL fun j => ?_
    refine zt (T := Ty.str) (l := ([ztl] : List ByteArray)) (cs := [.string ztl]) hO rfl ⟨[.string ztl], _, rfl, rfl, rfl⟩ rfl (by decide) fun _ σ w4 m1 hO => ?_
    have hO := zt54 hO
    obtain ⟨_, i6, f4, hO⟩ := m1.share hO (i := 3) rfl
    have hL := hL.trans i6
    have o := o.le i6
    have hO := zt54 hO
    obtain ⟨c6, m2, hF⟩ := zt6 hF
    have hO := hO.sel [2, 3, 0, 1]
    refine zz (hs := [_, _]) hO (zbt (q0 := (⟨t, q0.Line, q0.More, q0.Failed⟩ : zk)) o f4 m2) rfl fun _ σ _ _ hO i7 m3 => ?_
    have hL := hL.trans i7
    have f4 := f4.le i7
    obtain ⟨w5, m4, rfl, rfl, i8⟩ := m3
    obtain ⟨m5, m6, rfl, -⟩ := i8.form
    have hO := zt54 hO
    refine zc (zg (zC (zj ?_)))
    have hO := hO.sel [2, 3]
    exact ⟨m5, m6, m4, c6.L, c6.Line, c6.More, c6.Failed, _, ztZ trivial, hO, hL, i8, hF⟩
   refine zi (za hO 10 [0, 2] [(114, .bool (q0.Failed || (p1.Num != 0))), (116, .pointer (some ⟨g, 3, none⟩))] [0] (And.intro (And.intro rfl rfl) (And.intro (And.intro rfl rfl) (And.intro (And.intro rfl rfl) (fun _ => ztZ ztL)))) fun j => ?_)
   refine zx hO (i := 0) rfl (off := 3) rfl rfl rfl rfl (Nat.le_of_ble_eq_true rfl) rfl fun σ hO => ?_
   have hO := zt53 hO
   refine zc (za hO 1 [] [(117, zt1 g)] [0] ztL fun j => ?_)
   refine zt (T := Ty.str) (l := ([zti] : List ByteArray)) (cs := [.string zti]) hO rfl ⟨[.string zti], _, rfl, rfl, rfl⟩ rfl (by decide) fun _ σ w6 m7 hO => ?_
   have hO := zt54 hO
   obtain ⟨_, i9, f5, hO⟩ := m7.share hO (i := 3) rfl
   have hL := hL.trans i9
   have o := o.le i9
   have hO := zt54 hO
   obtain ⟨c7, m8, hF⟩ := zt6 hF
   have hO := hO.sel [2, 3, 0, 1]
   refine zz (hs := [_, _]) hO (zbt (q0 := (⟨t, q0.Line, q0.More, (q0.Failed || (p1.Num != 0))⟩ : zk)) o f5 m8) rfl fun _ σ _ _ hO j0 m9 => ?_
   have hL := hL.trans j0
   have f5 := f5.le j0
   obtain ⟨w7, n0, rfl, rfl, j1⟩ := m9
   obtain ⟨n1, n2, rfl, -⟩ := j1.form
   have hO := zt54 hO
   refine zc (zg (zC (zj ?_)))
   have hO := hO.sel [2, 3]
   exact ⟨n1, n2, n0, c7.L, c7.Line, c7.More, c7.Failed, _, ztZ trivial, hO, hL, j1, hF⟩
  refine zi (zd hO [] [(120, .bool ((p1.Kind.toNat : Int) == 3))] [0, 3, 87] ztN fun j => ?_)
  refine zn hF rfl (fun hF => ?_) fun hF => ?_
  ·refine za hO 3 [2] [(122, zt1 g), (124, .string p1.Name)] [0] (And.intro (And.intro rfl rfl) ztM) fun j => ?_
   obtain ⟨c8, n3, hF⟩ := zt6 hF
   have hO := hO.sel [2, 0, 1]
   refine zz (hs := [_]) hO (zcX (q0 := (⟨t, q0.Line, q0.More, q0.Failed⟩ : zk)) o n3) rfl fun _ σ _ _ hO n4 n5 => ?_
   have hL := hL.trans n4
   obtain ⟨w8, n6, rfl, rfl, j2⟩ := n5
   obtain ⟨n7, n8, rfl, -⟩ := j2.form
   have hO := zt53 hO
   refine zc (zg (zC (zj ?_)))
   have hO := hO.sel [1, 2]
   exact ⟨n7, n8, n6, c8.L, c8.Line, c8.More, c8.Failed, _, ztZ trivial, hO, hL, j2, hF⟩
  refine zi (zd hO [] [(126, .bool ((p1.Kind.toNat : Int) == 4))] [0, 3, 87] ztN fun j => ?_)
  refine zn hF rfl (fun hF => ?_) fun hF => ?_
  ·refine zi (za hO 3 [2] [(128, zt1 g), (130, .string p1.Name)] [0, 3] (And.intro (And.intro rfl rfl) ztN) fun j => ?_)
   obtain ⟨w9, n9, hF⟩ := zt6 hF
   have hO := hO.sel [2, 0, 1]
   refine zz (hs := [_]) hO (zcX (q0 := (⟨t, q0.Line, q0.More, q0.Failed⟩ : zk)) o n9) rfl fun _ σ _ _ hO o0 o1 => ?_
   have hL := hL.trans o0
   obtain ⟨x0, x1, rfl, rfl, f6⟩ := o1
   have hO := zt53 hO
   refine zc (zi (za hO 1 [] [(132, zt1 g)] [0, 3] ztM fun j => ?_))
   refine zt (T := Ty.str) (l := ([ztb] : List ByteArray)) (cs := [.string ztb]) hO rfl ⟨[.string ztb], _, rfl, rfl, rfl⟩ rfl (by decide) fun _ σ x2 o2 hO => ?_
   have hO := zt54 hO
   obtain ⟨_, j3, f7, hO⟩ := o2.share hO (i := 3) rfl
   have hL := hL.trans j3
   have f6 := f6.le j3
   have hO := zt54 hO
   obtain ⟨x3, o3, hF⟩ := zt6 hF
   have hO := hO.sel [0, 3, 1, 2]
   refine zz (hs := [_, _]) hO (zbt f6 f7 o3) rfl fun _ σ _ _ hO j4 o4 => ?_
   have hL := hL.trans j4
   have f7 := f7.le j4
   obtain ⟨x4, x5, rfl, rfl, o5⟩ := o4
   have hO := zt54 hO
   refine zc (zi (za hO 3 [0] [(135, zt1 g), (137, zt7 G p1.Kids I)] [0] (And.intro (And.intro rfl rfl) ztM) fun j => ?_))
   obtain ⟨x6, o6, hF⟩ := zt6 hF
   refine zN (T := zu) (b2.le hL) hO.base rfl rfl o6 (by decide) fun a367 _ o7 f8 => ?_
   obtain ⟨x7, rfl, f9⟩ := zbH o7
   refine zG rfl ((f8.le hO.base).all rfl) ?_
   obtain ⟨x8, o8, hF⟩ := zt6 hF
   refine zz (hs := [_, _]) hO (ih_ref12_layer_kid o5 f9 o8) rfl fun _ σ _ _ hO g0 o9 => ?_
   have hL := hL.trans g0
   have f8 := f8.le g0
   have f9 := f9.le g0
   obtain ⟨x9, y0, rfl, rfl, g1⟩ := o9
   have hO := zt54 hO
   refine zc (za hO 1 [] [(141, zt1 g)] [0] ztL fun j => ?_)
   refine zt (T := Ty.str) (l := ([ztj] : List ByteArray)) (cs := [.string ztj]) hO rfl ⟨[.string ztj], _, rfl, rfl, rfl⟩ rfl (by decide) fun _ σ y1 p2 hO => ?_
   have hO := zt55 hO
   obtain ⟨_, j5, g2, hO⟩ := p2.share hO (i := 4) rfl
   have hL := hL.trans j5
   have g1 := g1.le j5
   have hO := zt55 hO
   obtain ⟨c9, p3, hF⟩ := zt6 hF
   have hO := hO.sel [0, 1, 4, 2, 3]
   refine zz (hs := [_, _, _]) hO (zbt g1 g2 p3) rfl fun _ σ _ _ hO j6 p4 => ?_
   have hL := hL.trans j6
   have g2 := g2.le j6
   obtain ⟨y2, p5, rfl, rfl, j7⟩ := p4
   obtain ⟨p6, p7, rfl, -⟩ := j7.form
   have hO := zt55 hO
   refine zc (zg (zC (zj ?_)))
   have hO := hO.sel [3, 4]
   exact ⟨p6, p7, p5, c9.L, c9.Line, c9.More, c9.Failed, _, ztZ trivial, hO, hL, j7, hF⟩
  refine zi (zd hO [] [(144, .bool ((p1.Kind.toNat : Int) == 5))] [0, 3, 87] ztN fun j => ?_)
  refine zn hF rfl (fun hF => ?_) fun hF => ?_
  ·refine zi (za hO 3 [2] [(146, zt1 g), (148, .string p1.Name)] [0, 3] (And.intro (And.intro rfl rfl) ztN) fun j => ?_)
   obtain ⟨y3, p8, hF⟩ := zt6 hF
   have hO := hO.sel [2, 0, 1]
   refine zz (hs := [_]) hO (zcX (q0 := (⟨t, q0.Line, q0.More, q0.Failed⟩ : zk)) o p8) rfl fun _ σ _ _ hO p9 q2 => ?_
   have hL := hL.trans p9
   obtain ⟨y4, y5, rfl, rfl, g3⟩ := q2
   have hO := zt53 hO
   refine zc (zi (za hO 1 [] [(150, zt1 g)] [0, 3] ztM fun j => ?_))
   refine zt (T := Ty.str) (l := ([ztv] : List ByteArray)) (cs := [.string ztv]) hO rfl ⟨[.string ztv], _, rfl, rfl, rfl⟩ rfl (by decide) fun _ σ y6 q3 hO => ?_
   have hO := zt54 hO
   obtain ⟨_, j8, g4, hO⟩ := q3.share hO (i := 3) rfl
   have hL := hL.trans j8
   have g3 := g3.le j8
   have hO := zt54 hO
   obtain ⟨y7, q4, hF⟩ := zt6 hF
   have hO := hO.sel [0, 3, 1, 2]
   refine zz (hs := [_, _]) hO (zbt g3 g4 q4) rfl fun _ σ _ _ hO j9 q5 => ?_
   have hL := hL.trans j9
   have g4 := g4.le j9
   obtain ⟨y8, y9, rfl, rfl, q6⟩ := q5
   have hO := zt54 hO
   refine zc (za hO 3 [0] [(153, zt1 g), (155, .string p1.Field)] [0] (And.intro (And.intro rfl rfl) ztM) fun j => ?_)
   obtain ⟨d0, q7, hF⟩ := zt6 hF
   refine zz (hs := [_, _]) hO (zcX q6 q7) rfl fun _ σ _ _ hO q8 q9 => ?_
   have hL := hL.trans q8
   obtain ⟨A0, r0, rfl, rfl, k0⟩ := q9
   obtain ⟨r1, r2, rfl, -⟩ := k0.form
   have hO := zt54 hO
   refine zc (zg (zC (zj ?_)))
   have hO := hO.sel [2, 3]
   exact ⟨r1, r2, r0, d0.L, d0.Line, d0.More, d0.Failed, _, ztZ trivial, hO, hL, k0, hF⟩
  refine zi (zd hO [] [(157, .bool ((p1.Kind.toNat : Int) == 6))] [0, 3, 87] ztN fun j => ?_)
  refine zn hF rfl (fun hF => ?_) fun hF => ?_
  ·refine zi (za hO 6 [0] [(159, zt1 g), (164, .bool q0.Failed)] [0, 3] (And.intro (And.intro rfl rfl) ztN) fun j => ?_)
   obtain ⟨k1, r3, hF⟩ := zt6 hF
   refine zbQ 4 [(173, .bool k1), (0, zt1 g), (3, zt1 U), (159, zt1 g)] (fun Q hQ => ?_) fun j => ?_
   ·have hF := r3
    rcases z1 hF with ⟨w, hF⟩ | ⟨w, hF⟩
    ·refine zI (zt3 w) ?_
     refine zI rfl ?_
     refine zI (zt3 w) ?_
     refine zp (zt2 w) ?_
     refine zc ?_
     cases hF
     refine zg ?_
     exact hQ _ ztN
    refine zF (zt3 w) ?_
    refine za hO 4 [2] [(168, .bool (!(zV p1.Op ztf)))] [0, 3, 159, 164] (And.intro (And.intro rfl rfl) ztO) fun j => ?_
    rcases z1 hF with ⟨V, hF⟩ | ⟨V, hF⟩
    ·refine zF (zt4 V) ?_
     refine za hO 3 [2] [(171, .bool (!(zV p1.Op ztH)))] [0, 3, 159, 164, 168] (And.intro (And.intro rfl rfl) ztP) fun j => ?_
     refine zF (zt3 w) ?_
     refine zp (zt2 V) ?_
     refine zp (zt2 w) ?_
     refine zc ?_
     cases hF
     refine zg ?_
     exact hQ _ ztN
    refine zI (zt4 V) ?_
    refine zF (zt3 w) ?_
    refine zp (zt2 V) ?_
    refine zp (zt2 w) ?_
    refine zc ?_
    cases hF
    refine zg ?_
    exact hQ _ ztN
   refine za hO 2 [] [(175, .pointer (some ⟨g, 3, none⟩))] [0, 3, 173] ztN fun j => ?_
   refine zx hO (i := 0) rfl (off := 3) rfl rfl rfl rfl (Nat.le_of_ble_eq_true rfl) rfl fun σ hO => ?_
   have hO := zt53 hO
   refine zc (zi (za hO 3 [2] [(176, zt1 g), (178, .string p1.Op)] [0, 3] (And.intro (And.intro rfl rfl) ztN) fun j => ?_))
   refine zt (T := Ty.str) (l := ([p1.Op] : List ByteArray)) (cs := [.string p1.Op]) hO rfl ⟨[.string p1.Op], _, rfl, rfl, rfl⟩ rfl (by decide) fun _ σ A1 r4 hO => ?_
   have hO := zt54 hO
   obtain ⟨_, k4, g5, hO⟩ := r4.share hO (i := 3) rfl
   have hL := hL.trans k4
   have o := o.le k4
   have hO := zt54 hO
   obtain ⟨A2, r5, hF⟩ := zt6 hF
   have hO := hO.sel [2, 3, 0, 1]
   refine zz (hs := [_, _]) hO (zbt (q0 := (⟨t, q0.Line, q0.More, k1⟩ : zk)) o g5 r5) rfl fun _ σ _ _ hO k5 r6 => ?_
   have hL := hL.trans k5
   have g5 := g5.le k5
   obtain ⟨A3, A4, rfl, rfl, r7⟩ := r6
   have hO := zt54 hO
   refine zc (za hO 3 [0] [(181, zt1 g), (183, zt7 G p1.Kids I)] [0] (And.intro (And.intro rfl rfl) ztM) fun j => ?_)
   obtain ⟨A5, r8, hF⟩ := zt6 hF
   refine zN (T := zu) (b2.le hL) hO.base rfl rfl r8 (by decide) fun a454 _ r9 g6 => ?_
   obtain ⟨A6, rfl, g7⟩ := zbH r9
   refine zG rfl ((g6.le hO.base).all rfl) ?_
   obtain ⟨d4, t0, hF⟩ := zt6 hF
   refine zz (hs := [_, _]) hO (ih_ref12_layer_kid r7 g7 t0) rfl fun _ σ _ _ hO g8 t1 => ?_
   have hL := hL.trans g8
   have g6 := g6.le g8
   have g7 := g7.le g8
   obtain ⟨A7, t2, rfl, rfl, k6⟩ := t1
   obtain ⟨t3, t4, rfl, -⟩ := k6.form
   have hO := zt54 hO
   refine zc (zg (zC (zj ?_)))
   have hO := hO.sel [2, 3]
   exact ⟨t3, t4, t2, d4.L, d4.Line, d4.More, d4.Failed, _, ztZ trivial, hO, hL, k6, hF⟩
  refine zi (zd hO [] [(187, .bool ((p1.Kind.toNat : Int) == 7))] [0, 3] ztM fun j => ?_)
  refine zn hF rfl (fun hF => ?_) fun hF => ?_
  ·refine zi (za hO 6 [0] [(189, zt1 g), (194, .bool q0.Failed)] [0, 3] (And.intro (And.intro rfl rfl) ztN) fun j => ?_)
   obtain ⟨k7, t5, hF⟩ := zt6 hF
   refine zb2 2 (fun e' σ' => ∃ (τ' : Hp), agr [(199, .bool k7), (0, zt1 g), (3, zt1 U), (189, zt1 g)] e' ∧ Obs τ' σ' [zbh g (zt7 c1 t c2) q0.Line q0.More q0.Failed, c3, zeT U (p1.Kind.toNat : Int) p1.Num p1.Name p1.Field p1.Op (zt7 G p1.Kids I)] ∧ Hp.le τ τ' ∧ ze zm 79 τ' (zt7 c1 t c2) t c3) ?_ ?_
   ·have hF := t5
    rcases z1 hF with ⟨X, hF⟩ | ⟨X, hF⟩
    ·refine zI (zt3 X) ?_
     refine zp (zt2 X) ?_
     refine zc ?_
     cases hF
     refine zg ?_
     exact ⟨rfl, _, ztZ ztM, hO, hL, o⟩
    refine zF (zt3 X) ?_
    refine za hO 2 [2] [(196, .string p1.Op)] [0, 3, 189, 194] (And.intro (And.intro rfl rfl) ztO) fun j => ?_
    obtain ⟨t6, t7, hF⟩ := zt6 hF
    refine z5 hO (zow t7) rfl fun _ σ _ _ hO k8 t8 => ?_
    have hL := hL.trans k8
    have o := o.le k8
    obtain ⟨rfl, rfl⟩ := t8
    have hO := zt53 hO
    refine za hO 1 [] [(198, .bool (decide (t6 < 0)))] [0, 3, 189, 194] ztO fun j => ?_
    refine zp (zt2 X) ?_
    refine zc ?_
    cases hF
    refine zg ?_
    exact ⟨rfl, _, ztZ ztM, hO, hL, o⟩
   rintro e σ ⟨_, hA, hO, hL, o⟩
   rw [← zM _ _ hA]
   refine za hO 2 [] [(201, .pointer (some ⟨g, 3, none⟩))] [0, 3, 199] ztN fun j => ?_
   refine zx hO (i := 0) rfl (off := 3) rfl rfl rfl rfl (Nat.le_of_ble_eq_true rfl) rfl fun σ hO => ?_
   have hO := zt53 hO
   refine zc (zi (za hO 3 [2] [(202, zt1 g), (204, zt7 G p1.Kids I)] [0, 3] (And.intro (And.intro rfl rfl) ztN) fun j => ?_))
   obtain ⟨A8, t9, hF⟩ := zt6 hF
   refine zN (T := zu) (b2.le hL) hO.base rfl rfl t9 (by decide) fun a480 _ u0 g9 => ?_
   obtain ⟨A9, rfl, h0⟩ := zbH u0
   refine zG rfl ((g9.le hO.base).all rfl) ?_
   obtain ⟨B0, u1, hF⟩ := zt6 hF
   have hO := hO.sel [2, 0, 1]
   refine zz (hs := [_]) hO (ih_ref12_layer_kid (q0 := (⟨t, q0.Line, q0.More, k7⟩ : zk)) o h0 u1) rfl fun _ σ _ _ hO h1 u2 => ?_
   have hL := hL.trans h1
   have g9 := g9.le h1
   have h0 := h0.le h1
   obtain ⟨B1, B2, rfl, rfl, h2⟩ := u2
   have hO := zt53 hO
   refine zc (zi (zbk hO 3 [0] [(0, zt1 g), (3, zt1 U), (208, zt1 g), (210, .string p1.Op)] (And.intro (And.intro rfl rfl) ztN) fun j => ?_))
   refine zt (T := Ty.str) (l := ([p1.Op] : List ByteArray)) (cs := [.string p1.Op]) hO rfl ⟨[.string p1.Op], _, rfl, rfl, rfl⟩ rfl (by decide) fun _ σ B3 u3 hO => ?_
   have hO := zt54 hO
   obtain ⟨_, l0, h3, hO⟩ := u3.share hO (i := 3) rfl
   have hL := hL.trans l0
   have h2 := h2.le l0
   have hO := zt54 hO
   obtain ⟨B4, u4, hF⟩ := zt6 hF
   have hO := hO.sel [0, 3, 1, 2]
   refine zz (hs := [_, _]) hO (zbt h2 h3 u4) rfl fun _ σ _ _ hO l1 u5 => ?_
   have hL := hL.trans l1
   have h3 := h3.le l1
   obtain ⟨B5, B6, rfl, rfl, u6⟩ := u5
   have hO := zt54 hO
   refine zc (za hO 3 [0] [(213, zt1 g), (215, zt7 G p1.Kids I)] [0] (And.intro (And.intro rfl rfl) ztM) fun j => ?_)
   obtain ⟨B7, u7, hF⟩ := zt6 hF
   refine zN (T := zu) (b2.le hL) hO.base rfl rfl u7 (by decide) fun a513 _ u9 h4 => ?_
   obtain ⟨B8, rfl, h5⟩ := zbH u9
   refine zG rfl ((h4.le hO.base).all rfl) ?_
   obtain ⟨d5, v0, hF⟩ := zt6 hF
   refine zz (hs := [_, _]) hO (ih_ref12_layer_kid u6 h5 v0) rfl fun _ σ _ _ hO h6 v1 => ?_
   have hL := hL.trans h6
   have h4 := h4.le h6
   have h5 := h5.le h6
   obtain ⟨B9, v2, rfl, rfl, l2⟩ := v1
   obtain ⟨v3, v4, rfl, -⟩ := l2.form
   have hO := zt54 hO
   refine zc (zg (zC (zj ?_)))
   have hO := hO.sel [2, 3]
   exact ⟨v3, v4, v2, d5.L, d5.Line, d5.More, d5.Failed, _, ztZ trivial, hO, hL, l2, hF⟩
  refine za hO 3 [] [(90, .pointer (some ⟨g, 3, none⟩))] [0] ztL fun j => ?_
  refine zx hO (i := 0) rfl (off := 3) rfl rfl rfl rfl (Nat.le_of_ble_eq_true rfl) rfl fun σ hO => ?_
  have hO := zt53 hO
  refine zc (zg (zC (zj ?_)))
  have hO := hO.sel [0, 1]
  exact ⟨c1, c2, c3, t, q0.Line, q0.More, true, _, ztZ trivial, hO, hL, o, hF⟩
 rintro e σ ⟨d8, d9, f0, c0, f1, f2, f3, _, hA, hO, hL, v5, hF⟩
 rw [← zM _ _ hA]
 unfold zdj at hF
 refine zg ?_
 cases hF
 exact (hQ _ _ _ _ _ rfl hO hL ⟨_, _, rfl, rfl, v5⟩).2
theorem zqF (n : Nat) : zkv n ∧ zkI n := by
 induction n with
 | zero =>
  refine ⟨?_, ?_⟩
  ·intro τ q0 w o t p1 v g h rr hF; exact nomatch (show none = some rr from hF)
  ·intro τ q0 w o t p1 v g h rr hF; exact nomatch (show none = some rr from hF)
 | succ n ih =>
  obtain ⟨z, B⟩ := ih
  refine ⟨?_, ?_⟩
  ·intro τ q0 w o t p1 v g h rr hF; exact zrt z B g h hF
  ·intro τ q0 w o t p1 v g h rr hF; exact zpi z B g h hF
theorem zez : ∀ {τ : Hp} {q0 : zk} {o : Nat} {g : Value} {h : Ob} {p1 : zb} {t : Value} (B : ze zm 79 τ g q0.L h) (E : RdT zu τ t p1.Kids) {rr : zk} (hF : zd7 q0 p1 = some rr), Ctr Try.prog 75 #[.pointer (some ⟨o, 0, none⟩), .agg #[.int .u8 p1.Kind.toNat, .int .i64 p1.Num, .string p1.Name, .string p1.Field, .string p1.Op, t]] τ [zbh o g q0.Line q0.More q0.Failed, h] (fun v τ' vs' => ∃ (w : Value) (z : Ob), v = .tuple #[] ∧ vs' = [zbh o w rr.Line rr.More rr.Failed, z] ∧ ze zm 79 τ' w rr.L z) := (zqF big).1
theorem zst {τ : Hp} {q0 : zk} {g : Nat} {h : Value} {o : Ob} {v1 : Value} {p1 : (List zb)} (V : ze zm 79 τ h q0.L o) (r1 : RdT zu τ v1 p1) {rr : zk} (hF : zhH q0 p1 = some rr) :
  Ctr Try.prog 76 #[.pointer (some ⟨g, 0, none⟩), v1] τ [zbh g h q0.Line q0.More q0.Failed, o] (fun v τ' vs' => ∃ (w : Value) (z : Ob), v = .tuple #[] ∧ vs' = [zbh g w rr.Line rr.More rr.Failed, z] ∧ ze zm 79 τ' w rr.L z) := by
 obtain ⟨A1, c1, rfl, -⟩ := r1.form
 refine zfB (args := [.pointer (some ⟨g, 0, none⟩), .slice A1 p1.length c1]) hm Try.func76 s76 rfl fun w0 σ hO Q hQ => ?_
 unfold zhH at hF
 have hL := Hp.le.refl τ
 show wpn _ _ a76.body _ _ _
 unfold a76
 dsimp only
 refine za hO 1 [] [(5, zt1 g)] [0, 1] ztM fun j => ?_
 refine zt (T := Ty.str) (l := ([zs5] : List ByteArray)) (cs := [.string zs5]) hO rfl ⟨[.string zs5], _, rfl, rfl, rfl⟩ rfl (by decide) fun _ σ o5 w6 hO => ?_
 have hO := zt53 hO
 obtain ⟨_, h8, r7, hO⟩ := w6.share hO (i := 2) rfl
 have hL := hL.trans h8
 have hO := zt53 hO
 obtain ⟨c9, h7, hF⟩ := zt6 hF
 have hO := hO.sel [2, 0, 1]
 refine zz (hs := [_]) hO (zbt (V.le hL) r7 h7) rfl fun _ σ _ _ hO f2 h9 => ?_
 have hL := hL.trans f2
 have r7 := r7.le f2
 obtain ⟨k6, i0, rfl, rfl, f3⟩ := h9
 obtain ⟨i1, i2, rfl, -⟩ := f3.form
 have hO := zt53 hO
 refine zc (zi (zd hO [] [(4, zt0 0)] [0, 1] ztM fun j => ?_))
 refine zH ?_
 have hO := hO.sel [1, 2]
 refine zbo (fun (n : Nat) e' σ' => ∃ (c0 : Option Addr) (c2 : Nat) (c3 : Ob) (B : List zl) (E G : Int) (I : Bool) (t : Int) (τ' : Hp), agr [(0, zt1 g), (1, zt7 A1 p1 c1), (4, zt0 t)] e' ∧ Obs τ' σ' [zbh g (zt7 c0 B c2) E G I, c3] ∧ Hp.le τ τ' ∧ ze zm 79 τ' (zt7 c0 B c2) B c3 ∧ zfF p1 n B E G I t = some rr) big ⟨i1, i2, i0, c9.L, c9.Line, c9.More, c9.Failed, 0, _, ztZ ztL, hO, hL, f3, hF⟩ ?_
 clear hF hO hL
 rintro M e σ ⟨c0, c2, c3, B, E, G, I, t, _, hA, hO, hL, U, hF⟩
 rw [← zM _ _ hA]
 cases M with
 | zero => exact nomatch (show none = some rr from hF)
 | succ M =>
 replace hF : zex (zfF p1 M) p1 B E G I t = some rr := hF
 unfold zex at hF
 refine zi (zd hO [] [(11, .bool (decide (t < (p1.length : Int))))] [0, 1, 4] ztN fun j => ?_)
 refine zn hF rfl (fun hF => ?_) fun hF => ?_
 ·refine zA (zH (zi (zd hO [] [(15, .bool (decide (t > 0)))] [0, 1, 4] ztN fun j => ?_)))
  refine zn hF rfl (fun hF => ?_) fun hF => ?_
  ·refine za hO 1 [] [(16, zt1 g)] [0, 1, 4] ztN fun j => ?_
   refine zt (T := Ty.str) (l := ([ztt] : List ByteArray)) (cs := [.string ztt]) hO rfl ⟨[.string ztt], _, rfl, rfl, rfl⟩ rfl (by decide) fun _ σ i8 f5 hO => ?_
   have hO := zt53 hO
   obtain ⟨_, c4, Z, hO⟩ := f5.share hO (i := 2) rfl
   have hL := hL.trans c4
   have U := U.le c4
   have hO := zt53 hO
   obtain ⟨i9, f6, hF⟩ := zt6 hF
   have hO := hO.sel [2, 0, 1]
   refine zz (hs := [_]) hO (zbt (q0 := (⟨B, E, G, I⟩ : zk)) U Z f6) rfl fun _ σ _ _ hO c5 f7 => ?_
   have hL := hL.trans c5
   have Z := Z.le c5
   obtain ⟨j0, j1, rfl, rfl, f8⟩ := f7
   have hO := zt53 hO
   refine zc (z3 (za hO 3 [] [(19, zt1 g), (20, zt7 A1 p1 c1), (21, zt0 t)] [0, 1, 4] ztP fun j => ?_))
   obtain ⟨j2, f9, hF⟩ := zt6 hF
   refine zN (T := zu) (r1.le hL) hO.base rfl rfl f9 (by decide) fun a188 _ g0 b0 => ?_
   obtain ⟨j3, rfl, b1⟩ := zbH g0
   refine zG rfl ((b0.le hO.base).all rfl) ?_
   obtain ⟨X, g1, hF⟩ := zt6 hF
   refine zz (hs := [_]) hO (zez f8 b1 g1) rfl fun _ σ _ _ hO b2 g2 => ?_
   have hL := hL.trans b2
   have b0 := b0.le b2
   have b1 := b1.le b2
   obtain ⟨j4, g3, rfl, rfl, c6⟩ := g2
   obtain ⟨g4, g5, rfl, -⟩ := c6.form
   have hO := zt53 hO
   refine zc (zg (zC (zj (z3 (zd hO [] [(4, zt0 (IntKind.i64.wrap (t + 1)))] [0, 1] ztM fun j => ?_)))))
   refine zg (zj ?_)
   have hO := hO.sel [1, 2]
   exact ⟨M, Nat.lt_succ_self _, g4, g5, g3, X.L, X.Line, X.More, X.Failed, (IntKind.i64.wrap (t + 1)), _, ztZ ztL, hO, hL, c6, hF⟩
  refine zA (z3 (za hO 3 [] [(19, zt1 g), (20, zt7 A1 p1 c1), (21, zt0 t)] [0, 1, 4] ztP fun j => ?_))
  obtain ⟨j5, g6, hF⟩ := zt6 hF
  refine zN (T := zu) (r1.le hL) hO.base rfl rfl g6 (by decide) fun a206 _ g7 b3 => ?_
  obtain ⟨j6, rfl, b4⟩ := zbH g7
  refine zG rfl ((b3.le hO.base).all rfl) ?_
  obtain ⟨Y, g8, hF⟩ := zt6 hF
  refine zz (hs := []) hO (zez (q0 := (⟨B, E, G, I⟩ : zk)) U b4 g8) rfl fun _ σ _ _ hO b5 g9 => ?_
  have hL := hL.trans b5
  have b3 := b3.le b5
  have b4 := b4.le b5
  obtain ⟨j7, h0, rfl, rfl, c7⟩ := g9
  obtain ⟨h1, h2, rfl, -⟩ := c7.form
  have hO := zt52 hO
  refine zc (zg (zC (zj (z3 (zd hO [] [(4, zt0 (IntKind.i64.wrap (t + 1)))] [0, 1] ztM fun j => ?_)))))
  refine zg (zj ?_)
  exact ⟨M, Nat.lt_succ_self _, h1, h2, h0, Y.L, Y.Line, Y.More, Y.Failed, (IntKind.i64.wrap (t + 1)), _, ztZ ztL, hO, hL, c7, hF⟩
 refine zbs (zbp (zbr (zj (z3 (za hO 1 [] [(25, zt1 g)] [0] ztL fun j => ?_)))))
 refine zt (T := Ty.str) (l := ([zs4] : List ByteArray)) (cs := [.string zs4]) hO rfl ⟨[.string zs4], _, rfl, rfl, rfl⟩ rfl (by decide) fun _ σ j8 h3 hO => ?_
 have hO := zt53 hO
 obtain ⟨_, c8, b6, hO⟩ := h3.share hO (i := 2) rfl
 have hL := hL.trans c8
 have U := U.le c8
 have hO := zt53 hO
 obtain ⟨j9, h4, hF⟩ := zt6 hF
 have hO := hO.sel [2, 0, 1]
 refine zz (hs := [_]) hO (zbt (q0 := (⟨B, E, G, I⟩ : zk)) U b6 h4) rfl fun _ σ _ _ hO d0 h5 => ?_
 have hL := hL.trans d0
 have b6 := b6.le d0
 obtain ⟨k0, k1, rfl, rfl, h6⟩ := h5
 have hO := zt53 hO
 refine zc (zg ?_)
 cases hF
 have hO := hO.sel [1, 2]
 exact (hQ _ _ _ _ _ rfl hO hL ⟨_, _, rfl, rfl, h6⟩).2
def zkM (gn : Nat) : Prop := ∀ {τ : Hp} {q0 : zk} {g : Nat} {h : Value} {o : Ob} {v1 : Value} {p1 : (List zh)} (V : ze zm 79 τ h q0.L o) (r1 : RdT zy τ v1 p1) {rr : (List zh) × zk} (hF : ((zbS gn).1) q0 p1 = some rr), Ctr Try.prog 35 #[.pointer (some ⟨g, 0, none⟩), v1] τ [zbh g h q0.Line q0.More q0.Failed, o] (fun v τ' vs' => ∃ (v0 : Value) (o0 : Ob) (w : Value) (z : Ob), v = v0 ∧ vs' = [o0, zbh g w rr.2.Line rr.2.More rr.2.Failed, z] ∧ ze zy 53 τ' v0 rr.1 o0 ∧ ze zm 79 τ' w rr.2.L z)
def zk3 (gn : Nat) : Prop := ∀ {τ : Hp} {q0 : zk} {g : Nat} {h : Value} {o : Ob} {p1 : zh} {d4 d5 b7 : Value} (V : ze zm 79 τ h q0.L o) (k4 : RdT zu τ d4 p1.Kids) (k5 : RdT zy τ d5 p1.Body) (i5 : RdT zy τ b7 p1.Else) {rr : zh × zk} (hF : ((zbS gn).2) q0 p1 = some rr), Ctr Try.prog 60 #[.pointer (some ⟨g, 0, none⟩), .agg #[.int .u8 p1.Kind.toNat, .int .i64 p1.Line, .string p1.Name, .string p1.Field, .string p1.Call, .int .u8 p1.Type_.Kind.toNat, .int .i64 p1.Type_.N, .string p1.Type_.Name, d4, d5, b7]] τ [zbh g h q0.Line q0.More q0.Failed, o] (fun v τ' vs' => ∃ (d6 d7 b8 w : Value) (z : Ob), v = .agg #[.int .u8 rr.1.Kind.toNat, .int .i64 rr.1.Line, .string rr.1.Name, .string rr.1.Field, .string rr.1.Call, .int .u8 rr.1.Type_.Kind.toNat, .int .i64 rr.1.Type_.N, .string rr.1.Type_.Name, d6, d7, b8] ∧ vs' = [zbh g w rr.2.Line rr.2.More rr.2.Failed, z] ∧ RdT zu τ' d6 rr.1.Kids ∧ RdT zy τ' d7 rr.1.Body ∧ RdT zy τ' b8 rr.1.Else ∧ ze zm 79 τ' w rr.2.L z)
theorem zrd {gn : Nat} (ih_ref12_layer_block : zkM gn) (ih_ref12_layer_stmt : zk3 gn) {τ : Hp} {q0 : zk} {o : Nat} {b4 : Value} {b5 : Ob} {v1 : Value} {p1 : (List zh)} (c8 : ze zm 79 τ b4 q0.L b5) (r1 : RdT zy τ v1 p1) {rr : (List zh) × zk} (hF : zix ((zbS gn).1) ((zbS gn).2) q0 p1 = some rr) :
  Ctr Try.prog 35 #[.pointer (some ⟨o, 0, none⟩), v1] τ [zbh o b4 q0.Line q0.More q0.Failed, b5] (fun v τ' vs' => ∃ (v0 : Value) (o0 : Ob) (b7 : Value) (b8 : Ob), v = v0 ∧ vs' = [o0, zbh o b7 rr.2.Line rr.2.More rr.2.Failed, b8] ∧ ze zy 53 τ' v0 rr.1 o0 ∧ ze zm 79 τ' b7 rr.2.L b8) := by
 obtain ⟨A1, c1, rfl, -⟩ := r1.form
 refine zbl (args := [.pointer (some ⟨o, 0, none⟩), .slice A1 p1.length c1]) hm Try.func35 s35 rfl fun w0 σ hO Q hQ => ?_
 unfold zix at hF
 have hL := Hp.le.refl τ
 show wpn _ _ a35.body _ _ _
 unfold a35
 dsimp only
 refine zd hO [] [] [0, 1] ztL fun j => ?_
 refine zd hO [] [(5, .slice none 0 0)] [0, 1] ztM fun j => ?_
 refine za hO 1 [] [(7, zt1 o)] [0, 1, 5] ztN fun j => ?_
 refine zt (T := Ty.str) (l := ([ztm] : List ByteArray)) (cs := [.string ztm]) hO rfl ⟨[.string ztm], _, rfl, rfl, rfl⟩ rfl (by decide) fun _ σ o5 w6 hO => ?_
 have hO := zt53 hO
 obtain ⟨_, h8, r7, hO⟩ := w6.share hO (i := 2) rfl
 have hL := hL.trans h8
 have hO := zt53 hO
 obtain ⟨c9, g9, hF⟩ := zt6 hF
 have hO := hO.sel [2, 0, 1]
 refine zz (hs := [_]) hO (zbt (c8.le hL) r7 g9) rfl fun _ σ _ _ hO d5 h0 => ?_
 have hL := hL.trans d5
 have r7 := r7.le d5
 obtain ⟨i9, h1, rfl, rfl, d6⟩ := h0
 obtain ⟨h2, h3, rfl, -⟩ := d6.form
 have hO := zt53 hO
 refine zc (zi (zd hO [] [(6, zt0 0)] [0, 1, 5] ztN fun j => ?_))
 refine zH ?_
 have hO := hO.no
 have hO := zt54 hO
 have hO := hO.sel [1, 2, 3]
 refine zbo (fun (n : Nat) e' σ' => ∃ (b9 : Option Addr) (c0 : Nat) (c2 : Ob) (w : List zl) (E G : Int) (I : Bool) (U : Option Addr) (V : Nat) (c3 : Ob) (h : List zh) (z : Int) (τ' : Hp), agr [(0, zt1 o), (1, zt7 A1 p1 c1), (5, zt7 U h V), (6, zt0 z)] e' ∧ Obs τ' σ' [zbh o (zt7 b9 w c0) E G I, c2, c3] ∧ Hp.le τ τ' ∧ ze zm 79 τ' (zt7 b9 w c0) w c2 ∧ ze zy 53 τ' (zt7 U h V) h c3 ∧ zgh (zbS gn).2 p1 n w E G I h z = some rr) big ⟨h2, h3, h1, c9.L, c9.Line, c9.More, c9.Failed, none, 0, none, [], 0, _, ztZ ztM, hO, hL, d6, ze.nil _ _ _, hF⟩ ?_
 clear hF hO hL
 rintro M e σ ⟨b9, c0, c2, w, E, G, I, U, V, c3, h, z, _, hA, hO, hL, b6, B, hF⟩
 rw [← zM _ _ hA]
 cases M with
 | zero => exact nomatch (show none = some rr from hF)
 | succ M =>
 replace hF : zgI (zgh (zbS gn).2 p1 M) (zbS gn).2 p1 w E G I h z = some rr := hF
 unfold zgI at hF
 refine zi (zd hO [] [(13, .bool (decide (z < (p1.length : Int))))] [0, 1, 5, 6] ztO fun j => ?_)
 refine zn hF rfl (fun hF => ?_) fun hF => ?_
 ·refine zA (zH (z3 (za hO 4 [] [(16, zt7 U h V), (17, zt1 o), (18, zt7 A1 p1 c1), (19, zt0 z)] [0, 1, 6] ztQ fun j => ?_)))
  obtain ⟨h6, f0, hF⟩ := zt6 hF
  refine zN (T := zy) (r1.le hL) hO.base rfl rfl f0 (by decide) fun a160 _ f1 X => ?_
  obtain ⟨h7, h9, i0, rfl, Y, Z, b0⟩ := zc4 f1
  refine zG rfl ((X.le hO.base).all rfl) ?_
  obtain ⟨g, f2, hF⟩ := zt6 hF
  have hO := hO.sel [2, 0, 1]
  refine zz (hs := [_]) hO (ih_ref12_layer_stmt (q0 := (⟨w, E, G, I⟩ : zk)) b6 Y Z b0 f2) rfl fun _ σ _ _ hO t f3 => ?_
  have hL := hL.trans t
  have B := B.le t
  have X := X.le t
  have Y := Y.le t
  have Z := Z.le t
  have b0 := b0.le t
  obtain ⟨i1, i2, i3, i4, f4, rfl, rfl, f5, f6, f7, c4⟩ := f3
  obtain ⟨f8, f9, rfl, -⟩ := c4.form
  have hO := zt53 hO
  obtain ⟨_, d4, hF⟩ := zt6 hF
  refine zl5 (T := zy) (y := (⟨g.1.Kind, g.1.Line, g.1.Name, g.1.Field, g.1.Call, (⟨g.1.Type_.Kind, g.1.Type_.N, g.1.Type_.Name⟩ : zR), g.1.Kids, g.1.Body, g.1.Else⟩ : zh)) hO B (i := 0) rfl rfl (fun _ => rfl) rfl (zjK ⟨_, _, _, rfl, f5, f6, f7⟩) rfl d4 (by decide) fun u _ σ g0 c5 hO => ?_
  obtain ⟨c6, c7, rfl, -⟩ := c5.form
  have hO := zt53 hO
  refine zd hO [] [(5, zt7 c6 (h ++ [(⟨g.1.Kind, g.1.Line, g.1.Name, g.1.Field, g.1.Call, (⟨g.1.Type_.Kind, g.1.Type_.N, g.1.Type_.Name⟩ : zR), g.1.Kids, g.1.Body, g.1.Else⟩ : zh)]) c7)] [0, 1, 6] ztN fun j => ?_
  refine zg (zC (zj (z3 (zd hO [] [(6, zt0 (IntKind.i64.wrap (z + 1)))] [0, 1, 5] ztN fun j => ?_))))
  refine zg (zj ?_)
  have hO := hO.sel [1, 2, 0]
  exact ⟨M, Nat.lt_succ_self _, f8, f9, f4, g.2.L, g.2.Line, g.2.More, g.2.Failed, c6, c7, g0, (h ++ [(⟨g.1.Kind, g.1.Line, g.1.Name, g.1.Field, g.1.Call, (⟨g.1.Type_.Kind, g.1.Type_.N, g.1.Type_.Name⟩ : zR), g.1.Kids, g.1.Body, g.1.Else⟩ : zh)]), (IntKind.i64.wrap (z + 1)), _, ztZ ztM, hO, hL, c4, c5, hF⟩
 refine zbs (zbp (zbr (zj (za hO 1 [] [(25, zt1 o)] [0, 5] ztM fun j => ?_))))
 refine zt (T := Ty.str) (l := ([ztw] : List ByteArray)) (cs := [.string ztw]) hO rfl ⟨[.string ztw], _, rfl, rfl, rfl⟩ rfl (by decide) fun _ σ i5 g1 hO => ?_
 have hO := zt54 hO
 obtain ⟨_, b1, b2, hO⟩ := g1.share hO (i := 3) rfl
 have hL := hL.trans b1
 have B := B.le b1
 have b6 := b6.le b1
 have hO := zt54 hO
 obtain ⟨i6, g2, hF⟩ := zt6 hF
 have hO := hO.sel [2, 3, 0, 1]
 refine zz (hs := [_, _]) hO (zbt (q0 := (⟨w, E, G, I⟩ : zk)) b6 b2 g2) rfl fun _ σ _ _ hO b3 g3 => ?_
 have hL := hL.trans b3
 have B := B.le b3
 have b2 := b2.le b3
 obtain ⟨i7, i8, rfl, rfl, g4⟩ := g3
 have hO := zt54 hO
 refine zc (zd hO [] [(4, zt7 U h V)] [0] ztL fun j => ?_)
 refine z9 ?_
 cases hF
 have hO := hO.sel [0, 2, 3]
 exact hQ _ _ _ _ _ rfl hO hL ⟨_, _, _, _, rfl, rfl, B, g4⟩
theorem zrn {gn : Nat} (ih_ref12_layer_block : zkM gn) (ih_ref12_layer_stmt : zk3 gn) {τ : Hp} {q0 : zk} {g : Nat} {o6 : Value} {b0 : Ob} {p1 : zh} {r3 r4 o7 : Value} (V : ze zm 79 τ o6 q0.L b0) (z : RdT zu τ r3 p1.Kids) (d8 : RdT zy τ r4 p1.Body) (b1 : RdT zy τ o7 p1.Else) {rr : zh × zk} (hF : zhC ((zbS gn).1) ((zbS gn).2) q0 p1 = some rr) :
  Ctr Try.prog 60 #[.pointer (some ⟨g, 0, none⟩), .agg #[.int .u8 p1.Kind.toNat, .int .i64 p1.Line, .string p1.Name, .string p1.Field, .string p1.Call, .int .u8 p1.Type_.Kind.toNat, .int .i64 p1.Type_.N, .string p1.Type_.Name, r3, r4, o7]] τ [zbh g o6 q0.Line q0.More q0.Failed, b0] (fun v τ' vs' => ∃ (r5 r6 o8 r7 : Value) (r8 : Ob), v = .agg #[.int .u8 rr.1.Kind.toNat, .int .i64 rr.1.Line, .string rr.1.Name, .string rr.1.Field, .string rr.1.Call, .int .u8 rr.1.Type_.Kind.toNat, .int .i64 rr.1.Type_.N, .string rr.1.Type_.Name, r5, r6, o8] ∧ vs' = [zbh g r7 rr.2.Line rr.2.More rr.2.Failed, r8] ∧ RdT zu τ' r5 rr.1.Kids ∧ RdT zy τ' r6 rr.1.Body ∧ RdT zy τ' o8 rr.1.Else ∧ ze zm 79 τ' r7 rr.2.L r8) := by
 obtain ⟨c8, c9, rfl, -⟩ := V.form
 obtain ⟨h, o, rfl, -⟩ := z.form
 obtain ⟨E, G, rfl, -⟩ := d8.form
 obtain ⟨t, w, rfl, -⟩ := b1.form
 refine zbl (args := [.pointer (some ⟨g, 0, none⟩), .agg #[.int .u8 p1.Kind.toNat, .int .i64 p1.Line, .string p1.Name, .string p1.Field, .string p1.Call, .int .u8 p1.Type_.Kind.toNat, .int .i64 p1.Type_.N, .string p1.Type_.Name, (.slice h p1.Kids.length o), (.slice E p1.Body.length G), (.slice t p1.Else.length w)]]) hm Try.func60 s60 rfl fun w0 σ hO Q hQ => ?_
 unfold zhC at hF
 have hL := Hp.le.refl τ
 show wpn _ _ a60.body _ _ _
 unfold a60
 dsimp only
 refine zct (n := 11) hO rfl rfl fun X σ hO => ?_
 have hO := zt53 hO
 refine zbC hO fun Z σ hO => ?_
 have hO := zt54 hO
 refine zc (za hO 7 [0] [(10, zt0 (IntKind.i64.wrap (q0.Line + 1))), (12, .pointer (some ⟨g, 1, none⟩))] [0, 3, 4] (And.intro (And.intro rfl rfl) ztO) fun j => ?_)
 refine zx hO (i := 0) rfl (off := 1) rfl rfl rfl rfl (Nat.le_of_ble_eq_true rfl) rfl fun σ hO => ?_
 have hO := zt54 hO
 refine zc (za hO 5 [0] [(16, zt0 (IntKind.i64.wrap (q0.Line + 1))), (17, .pointer (some ⟨X, 1, none⟩))] [0, 3, 4] (And.intro (And.intro rfl rfl) ztO) fun j => ?_)
 refine zx hO (i := 2) rfl (off := 1) rfl rfl rfl rfl (Nat.le_of_ble_eq_true rfl) rfl fun σ hO => ?_
 have hO := zt54 hO
 refine zc (zi (za hO 1 [2] [(18, .agg #[(.int .u8 (p1.Kind.toNat : Int)), (.int .i64 (IntKind.i64.wrap (q0.Line + 1))), (.string p1.Name), (.string p1.Field), (.string p1.Call), (.int .u8 (p1.Type_.Kind.toNat : Int)), (.int .i64 p1.Type_.N), (.string p1.Type_.Name), (zt7 h p1.Kids o), (zt7 E p1.Body G), (zt7 t p1.Else w)])] [0, 3, 4] (And.intro (And.intro rfl rfl) ztN) fun j => ?_))
 obtain ⟨c5, h6, hF⟩ := zt6 hF
 refine z5 hO (zrf (p0 := (⟨p1.Kind, (IntKind.i64.wrap (q0.Line + 1)), p1.Name, p1.Field, p1.Call, (⟨p1.Type_.Kind, p1.Type_.N, p1.Type_.Name⟩ : zR), p1.Kids, p1.Body, p1.Else⟩ : zh)) (z.le hL) (d8.le hL) (b1.le hL) h6) rfl fun _ σ _ _ hO h7 h8 => ?_
 have hL := hL.trans h7
 obtain ⟨rfl, rfl⟩ := h8
 have hO := zt54 hO
 refine zd hO [] [(20, .bool (!c5))] [0, 3, 4] ztN fun j => ?_
 refine zn hF rfl (fun hF => ?_) fun hF => ?_
 ·refine zi (za hO 3 [] [(23, .pointer (some ⟨g, 3, none⟩))] [0, 3, 4] ztN fun j => ?_)
  refine zx hO (i := 0) rfl (off := 3) rfl rfl rfl rfl (Nat.le_of_ble_eq_true rfl) rfl fun σ hO => ?_
  have hO := zt54 hO
  refine zc (zi (za hO 1 [2] [(24, .agg #[(.int .u8 (p1.Kind.toNat : Int)), (.int .i64 (IntKind.i64.wrap (q0.Line + 1))), (.string p1.Name), (.string p1.Field), (.string p1.Call), (.int .u8 (p1.Type_.Kind.toNat : Int)), (.int .i64 p1.Type_.N), (.string p1.Type_.Name), (zt7 h p1.Kids o), (zt7 E p1.Body G), (zt7 t p1.Else w)])] [0, 4] (And.intro (And.intro rfl rfl) ztM) fun j => ?_))
  refine zx hO (i := 3) rfl (off := 0) rfl rfl rfl rfl (Nat.le_of_ble_eq_true rfl) rfl fun σ hO => ?_
  have hO := zt54 hO
  refine zc (zbi ?_)
  cases hF
  have d9 := hO.val (i := 3) rfl (off := 0) (agg := true) (n := 11) rfl
  have hO := hO.sel [0, 1]
  exact hQ _ _ _ _ _ (zbE rfl (d9) rfl) hO hL ⟨_, _, _, _, _, rfl, rfl, (z.le hL), (d8.le hL), (b1.le hL), (V.le hL)⟩
 refine zA (zi (zd hO [2] [(26, .int .u8 (p1.Kind.toNat : Int))] [0, 3, 4] (And.intro (And.intro rfl rfl) ztN) fun j => ?_))
 refine zfo (fun e' σ' => ∃ (l4 : Option Addr) (l5 : Nat) (l6 : Ob) (c1 : List zl) (f6 f7 : Int) (f8 : Bool) (τ' : Hp), agr [(0, zt1 g), (3, zt1 X), (4, zt1 Z)] e' ∧ Obs τ' σ' [zbh g (zt7 l4 c1 l5) f6 f7 f8, l6, zby X (p1.Kind.toNat : Int) (IntKind.i64.wrap (q0.Line + 1)) p1.Name p1.Field p1.Call (p1.Type_.Kind.toNat : Int) p1.Type_.N p1.Type_.Name (zt7 h p1.Kids o) (zt7 E p1.Body G) (zt7 t p1.Else w), zby Z 0 0 zs3 zs3 zs3 0 0 zs3 (.slice none 0 0) (.slice none 0 0) (.slice none 0 0)] ∧ Hp.le τ τ' ∧ ze zm 79 τ' (zt7 l4 c1 l5) c1 l6 ∧ zc7 q0 p1 c1 f6 f7 f8 = some rr) ?_ ?_
 ·refine zd hO [] [(27, .bool ((p1.Kind.toNat : Int) == 1))] [0, 3, 4, 26] ztO fun j => ?_
  refine zbm (zn hF rfl (fun hF => ?_) fun hF => ?_)
  ·refine zi (za hO 1 [] [(29, zt1 g)] [0, 3, 4] ztN fun j => ?_)
   refine zt (T := Ty.str) (l := ([ztn] : List ByteArray)) (cs := [.string ztn]) hO rfl ⟨[.string ztn], _, rfl, rfl, rfl⟩ rfl (by decide) fun _ σ Q6 C4 hO => ?_
   have hO := zt55 hO
   obtain ⟨_, C5, l7, hO⟩ := C4.share hO (i := 4) rfl
   have hL := hL.trans C5
   have hO := zt55 hO
   obtain ⟨Q7, C6, hF⟩ := zt6 hF
   have hO := hO.sel [2, 3, 4, 0, 1]
   refine zz (hs := [_, _, _]) hO (zbt (q0 := (⟨q0.L, (IntKind.i64.wrap (q0.Line + 1)), q0.More, q0.Failed⟩ : zk)) (V.le hL) l7 C6) rfl fun _ σ _ _ hO r9 C7 => ?_
   have hL := hL.trans r9
   have l7 := l7.le r9
   obtain ⟨Q8, Q9, rfl, rfl, C8⟩ := C7
   have hO := zt55 hO
   refine zc (zi (za hO 3 [0] [(32, zt1 g), (34, .string p1.Name)] [0, 3, 4] (And.intro (And.intro rfl rfl) ztO) fun j => ?_))
   obtain ⟨R0, C9, hF⟩ := zt6 hF
   refine zz (hs := [_, _, _]) hO (zcX C8 C9) rfl fun _ σ _ _ hO D0 D1 => ?_
   have hL := hL.trans D0
   obtain ⟨R1, R2, rfl, rfl, D2⟩ := D1
   have hO := zt55 hO
   refine zc (zi (zbk hO 3 [0] [(0, zt1 g), (3, zt1 X), (4, zt1 Z), (36, zt1 g), (38, .agg #[(.int .u8 (p1.Type_.Kind.toNat : Int)), (.int .i64 p1.Type_.N), (.string p1.Type_.Name)])] (And.intro (And.intro rfl rfl) ztO) fun j => ?_))
   obtain ⟨f9, D3, hF⟩ := zt6 hF
   refine zz (hs := [_, _, _]) hO (zkn D2 D3) rfl fun _ σ _ _ hO D4 D5 => ?_
   have hL := hL.trans D4
   obtain ⟨R3, D6, rfl, rfl, f0⟩ := D5
   obtain ⟨D7, D8, rfl, -⟩ := f0.form
   have hO := zt55 hO
   refine zc (zi (zd hO [0] [(43, .bool ((p1.Kids.length : Int) == 1))] [0, 3, 4] (And.intro (And.intro rfl rfl) ztN) fun j => ?_))
   refine zn hF rfl (fun hF => ?_) fun hF => ?_
   ·refine zi (za hO 1 [] [(44, zt1 g)] [0, 3, 4] ztN fun j => ?_)
    refine zt (T := Ty.str) (l := ([zs8] : List ByteArray)) (cs := [.string zs8]) hO rfl ⟨[.string zs8], _, rfl, rfl, rfl⟩ rfl (by decide) fun _ σ R4 D9 hO => ?_
    have hO := zt56 hO
    obtain ⟨_, t0, l8, hO⟩ := D9.share hO (i := 5) rfl
    have hL := hL.trans t0
    have f0 := f0.le t0
    have hO := zt56 hO
    obtain ⟨R5, E1, hF⟩ := zt6 hF
    have hO := hO.sel [0, 1, 2, 5, 3, 4]
    refine zz (hs := [_, _, _, _]) hO (zbt f0 l8 E1) rfl fun _ σ _ _ hO t1 E2 => ?_
    have hL := hL.trans t1
    have l8 := l8.le t1
    obtain ⟨R6, R7, rfl, rfl, E3⟩ := E2
    have hO := zt56 hO
    refine zc (za hO 3 [0] [(47, zt1 g), (49, zt7 h p1.Kids o)] [0, 3, 4] (And.intro (And.intro rfl rfl) ztO) fun j => ?_)
    obtain ⟨R8, E4, hF⟩ := zt6 hF
    refine zN (T := zu) (z.le hL) hO.base rfl rfl E4 (by decide) fun a679 _ E5 l9 => ?_
    obtain ⟨R9, rfl, m0⟩ := zbH E5
    refine zG rfl ((l9.le hO.base).all rfl) ?_
    obtain ⟨g0, E6, hF⟩ := zt6 hF
    refine zz (hs := [_, _, _, _]) hO (zez E3 m0 E6) rfl fun _ σ _ _ hO m1 E7 => ?_
    have hL := hL.trans m1
    have l9 := l9.le m1
    have m0 := m0.le m1
    obtain ⟨S0, E8, rfl, rfl, t2⟩ := E7
    obtain ⟨E9, F0, rfl, -⟩ := t2.form
    have hO := zt56 hO
    refine zc (zg (zC (zj ?_)))
    have hO := hO.sel [4, 5, 0, 1]
    exact ⟨E9, F0, E8, g0.L, g0.Line, g0.More, g0.Failed, _, ztZ ztL, hO, hL, t2, hF⟩
   refine zA (zg (zC (zj ?_)))
   have hO := hO.sel [3, 4, 0, 1]
   exact ⟨D7, D8, D6, f9.L, f9.Line, f9.More, f9.Failed, _, ztZ ztL, hO, hL, f0, hF⟩
  refine zi (zi (zd hO [] [(53, .bool ((p1.Kind.toNat : Int) == 2))] [0, 3, 4, 26] ztO fun j => ?_))
  refine zcO (fun e' σ' => ∃ (c2 : Option Addr) (c3 : Nat) (c4 : Ob) (U : List zl) (m2 : Bool) (τ' : Hp), agr [(0, zt1 g), (3, zt1 X), (4, zt1 Z), (26, .int .u8 (p1.Kind.toNat : Int)), (53, .bool m2)] e' ∧ Obs τ' σ' [zbh g (zt7 c2 U c3) (IntKind.i64.wrap (q0.Line + 1)) q0.More q0.Failed, c4, zby X (p1.Kind.toNat : Int) (IntKind.i64.wrap (q0.Line + 1)) p1.Name p1.Field p1.Call (p1.Type_.Kind.toNat : Int) p1.Type_.N p1.Type_.Name (zt7 h p1.Kids o) (zt7 E p1.Body G) (zt7 t p1.Else w), zby Z 0 0 zs3 zs3 zs3 0 0 zs3 (.slice none 0 0) (.slice none 0 0) (.slice none 0 0)] ∧ Hp.le τ τ' ∧ ze zm 79 τ' (zt7 c2 U c3) U c4 ∧ zft (zbS gn).1 q0 p1 U m2 = some rr) ?_ ?_
  ·refine zbm (zn hF rfl (fun hF => ?_) fun hF => ?_)
   ·refine zA (zg (zj ?_))
    exact ⟨c8, c9, b0, q0.L, ((p1.Kind.toNat : Int) == 2), _, ztZ ztN, hO, hL, (V.le hL), hF⟩
   refine zi (zd hO [] [(53, .bool ((p1.Kind.toNat : Int) == 3))] [0, 3, 4, 26] ztO fun j => ?_)
   refine zn hF rfl (fun hF => ?_) fun hF => ?_
   ·refine zA (zg (zj ?_))
    exact ⟨c8, c9, b0, q0.L, ((p1.Kind.toNat : Int) == 3), _, ztZ ztN, hO, hL, (V.le hL), hF⟩
   refine zi (zU hO [] [(0, zt1 g), (3, zt1 X), (4, zt1 Z), (26, .int .u8 (p1.Kind.toNat : Int)), (53, .bool ((p1.Kind.toNat : Int) == 4))] ztO fun j => ?_)
   refine zn hF rfl (fun hF => ?_) fun hF => ?_
   ·refine zA (zg (zj ?_))
    exact ⟨c8, c9, b0, q0.L, ((p1.Kind.toNat : Int) == 4), _, ztZ ztN, hO, hL, (V.le hL), hF⟩
   refine zd hO [] [(53, .bool ((p1.Kind.toNat : Int) == 9))] [0, 3, 4, 26] ztO fun j => ?_
   refine zg (zj ?_)
   exact ⟨c8, c9, b0, q0.L, ((p1.Kind.toNat : Int) == 9), _, ztZ ztN, hO, hL, (V.le hL), hF⟩
  rintro e σ ⟨c2, c3, c4, U, m2, _, hA, hO, hL, f1, hF⟩
  rw [← zM _ _ hA]
  unfold zft at hF
  refine zn hF rfl (fun hF => ?_) fun hF => ?_
  ·refine zi (za hO 3 [2] [(58, zt1 g), (60, .string p1.Name)] [0, 3, 4] (And.intro (And.intro rfl rfl) ztO) fun j => ?_)
   obtain ⟨g1, F1, hF⟩ := zt6 hF
   have hO := hO.sel [2, 3, 0, 1]
   refine zz (hs := [_, _]) hO (zcX (q0 := (⟨U, (IntKind.i64.wrap (q0.Line + 1)), q0.More, q0.Failed⟩ : zk)) f1 F1) rfl fun _ σ _ _ hO F2 F3 => ?_
   have hL := hL.trans F2
   obtain ⟨S1, F4, rfl, rfl, f2⟩ := F3
   obtain ⟨F5, F6, rfl, -⟩ := f2.form
   have hO := zt54 hO
   refine zc (zi (zi (zd hO [0] [(64, .bool ((p1.Kind.toNat : Int) == 3))] [0, 3, 4] (And.intro (And.intro rfl rfl) ztN) fun j => ?_)))
   refine zcO (fun e' σ' => ∃ (g2 : Option Addr) (g3 : Nat) (g4 : Ob) (b9 : List zl) (f3 f4 : Int) (f5 : Bool) (τ' : Hp), agr [(0, zt1 g), (3, zt1 X), (4, zt1 Z)] e' ∧ Obs τ' σ' [zbh g (zt7 g2 b9 g3) f3 f4 f5, g4, zby X (p1.Kind.toNat : Int) (IntKind.i64.wrap (q0.Line + 1)) p1.Name p1.Field p1.Call (p1.Type_.Kind.toNat : Int) p1.Type_.N p1.Type_.Name (zt7 h p1.Kids o) (zt7 E p1.Body G) (zt7 t p1.Else w), zby Z 0 0 zs3 zs3 zs3 0 0 zs3 (.slice none 0 0) (.slice none 0 0) (.slice none 0 0)] ∧ Hp.le τ τ' ∧ ze zm 79 τ' (zt7 g2 b9 g3) b9 g4 ∧ zeY q0 p1 b9 f3 f4 f5 = some rr) ?_ ?_
   ·refine zbm (zn hF rfl (fun hF => ?_) fun hF => ?_)
    ·refine zi (za hO 1 [] [(65, zt1 g)] [0, 3, 4] ztN fun j => ?_)
     refine zt (T := Ty.str) (l := ([ztb] : List ByteArray)) (cs := [.string ztb]) hO rfl ⟨[.string ztb], _, rfl, rfl, rfl⟩ rfl (by decide) fun _ σ S2 F7 hO => ?_
     have hO := zt55 hO
     obtain ⟨_, t3, m3, hO⟩ := F7.share hO (i := 4) rfl
     have hL := hL.trans t3
     have f2 := f2.le t3
     have hO := zt55 hO
     obtain ⟨S3, F8, hF⟩ := zt6 hF
     have hO := hO.sel [0, 1, 4, 2, 3]
     refine zz (hs := [_, _, _]) hO (zbt f2 m3 F8) rfl fun _ σ _ _ hO t4 F9 => ?_
     have hL := hL.trans t4
     have m3 := m3.le t4
     obtain ⟨S4, S5, rfl, rfl, G0⟩ := F9
     have hO := zt55 hO
     refine zc (zi (za hO 3 [0] [(68, zt1 g), (70, zt7 h p1.Kids o)] [0, 3, 4] (And.intro (And.intro rfl rfl) ztO) fun j => ?_))
     obtain ⟨S6, G1, hF⟩ := zt6 hF
     refine zN (T := zu) (z.le hL) hO.base rfl rfl G1 (by decide) fun a911 _ G2 m4 => ?_
     obtain ⟨S7, rfl, m5⟩ := zbH G2
     refine zG rfl ((m4.le hO.base).all rfl) ?_
     obtain ⟨S8, G3, hF⟩ := zt6 hF
     refine zz (hs := [_, _, _]) hO (zez G0 m5 G3) rfl fun _ σ _ _ hO m6 G4 => ?_
     have hL := hL.trans m6
     have m4 := m4.le m6
     have m5 := m5.le m6
     obtain ⟨S9, T1, rfl, rfl, m7⟩ := G4
     have hO := zt55 hO
     refine zc (za hO 1 [] [(74, zt1 g)] [0, 3, 4] ztN fun j => ?_)
     refine zt (T := Ty.str) (l := ([ztj] : List ByteArray)) (cs := [.string ztj]) hO rfl ⟨[.string ztj], _, rfl, rfl, rfl⟩ rfl (by decide) fun _ σ T2 G5 hO => ?_
     have hO := zt56 hO
     obtain ⟨_, t5, m8, hO⟩ := G5.share hO (i := 5) rfl
     have hL := hL.trans t5
     have m7 := m7.le t5
     have hO := zt56 hO
     obtain ⟨g5, G6, hF⟩ := zt6 hF
     have hO := hO.sel [0, 1, 2, 5, 3, 4]
     refine zz (hs := [_, _, _, _]) hO (zbt m7 m8 G6) rfl fun _ σ _ _ hO t6 G7 => ?_
     have hL := hL.trans t6
     have m8 := m8.le t6
     obtain ⟨T3, G8, rfl, rfl, t7⟩ := G7
     obtain ⟨G9, H0, rfl, -⟩ := t7.form
     have hO := zt56 hO
     refine zc (zg (zj ?_))
     have hO := hO.sel [4, 5, 0, 1]
     exact ⟨G9, H0, G8, g5.L, g5.Line, g5.More, g5.Failed, _, ztZ ztL, hO, hL, t7, hF⟩
    refine zA (zg (zj ?_))
    have hO := hO.sel [2, 3, 0, 1]
    exact ⟨F5, F6, F4, g1.L, g1.Line, g1.More, g1.Failed, _, ztZ ztL, hO, hL, f2, hF⟩
   rintro e σ ⟨g2, g3, g4, b9, f3, f4, f5, _, hA, hO, hL, g6, hF⟩
   rw [← zM _ _ hA]
   unfold zeY at hF
   refine zi (zi (zd hO [2] [(79, .bool ((p1.Kind.toNat : Int) == 4))] [0, 3, 4] (And.intro (And.intro rfl rfl) ztN) fun j => ?_))
   refine zcO (fun e' σ' => ∃ (m9 : Option Addr) (n0 : Nat) (n1 : Ob) (c6 : List zl) (g7 g8 : Int) (g9 : Bool) (τ' : Hp), agr [(0, zt1 g), (3, zt1 X), (4, zt1 Z)] e' ∧ Obs τ' σ' [zbh g (zt7 m9 c6 n0) g7 g8 g9, n1, zby X (p1.Kind.toNat : Int) (IntKind.i64.wrap (q0.Line + 1)) p1.Name p1.Field p1.Call (p1.Type_.Kind.toNat : Int) p1.Type_.N p1.Type_.Name (zt7 h p1.Kids o) (zt7 E p1.Body G) (zt7 t p1.Else w), zby Z 0 0 zs3 zs3 zs3 0 0 zs3 (.slice none 0 0) (.slice none 0 0) (.slice none 0 0)] ∧ Hp.le τ τ' ∧ ze zm 79 τ' (zt7 m9 c6 n0) c6 n1 ∧ zeS q0 p1 c6 g7 g8 g9 = some rr) ?_ ?_
   ·refine zbm (zn hF rfl (fun hF => ?_) fun hF => ?_)
    ·refine zi (za hO 1 [] [(80, zt1 g)] [0, 3, 4] ztN fun j => ?_)
     refine zt (T := Ty.str) (l := ([ztv] : List ByteArray)) (cs := [.string ztv]) hO rfl ⟨[.string ztv], _, rfl, rfl, rfl⟩ rfl (by decide) fun _ σ T4 H1 hO => ?_
     have hO := zt55 hO
     obtain ⟨_, t8, n2, hO⟩ := H1.share hO (i := 4) rfl
     have hL := hL.trans t8
     have g6 := g6.le t8
     have hO := zt55 hO
     obtain ⟨T5, H2, hF⟩ := zt6 hF
     have hO := hO.sel [2, 3, 4, 0, 1]
     refine zz (hs := [_, _, _]) hO (zbt (q0 := (⟨b9, f3, f4, f5⟩ : zk)) g6 n2 H2) rfl fun _ σ _ _ hO t9 H3 => ?_
     have hL := hL.trans t9
     have n2 := n2.le t9
     obtain ⟨T6, T7, rfl, rfl, H4⟩ := H3
     have hO := zt55 hO
     refine zc (za hO 3 [0] [(83, zt1 g), (85, .string p1.Field)] [0, 3, 4] (And.intro (And.intro rfl rfl) ztO) fun j => ?_)
     obtain ⟨h0, H5, hF⟩ := zt6 hF
     refine zz (hs := [_, _, _]) hO (zcX H4 H5) rfl fun _ σ _ _ hO H6 H7 => ?_
     have hL := hL.trans H6
     obtain ⟨T8, H8, rfl, rfl, u0⟩ := H7
     obtain ⟨H9, I0, rfl, -⟩ := u0.form
     have hO := zt55 hO
     refine zc (zg (zj ?_))
     have hO := hO.sel [3, 4, 0, 1]
     exact ⟨H9, I0, H8, h0.L, h0.Line, h0.More, h0.Failed, _, ztZ ztL, hO, hL, u0, hF⟩
    refine zA (zg (zj ?_))
    exact ⟨g2, g3, g4, b9, f3, f4, f5, _, ztZ ztL, hO, hL, g6, hF⟩
   rintro e σ ⟨m9, n0, n1, c6, g7, g8, g9, _, hA, hO, hL, n3, hF⟩
   rw [← zM _ _ hA]
   unfold zeS at hF
   refine zi (za hO 1 [] [(87, zt1 g)] [0, 3, 4] ztN fun j => ?_)
   refine zt (T := Ty.str) (l := ([zs8] : List ByteArray)) (cs := [.string zs8]) hO rfl ⟨[.string zs8], _, rfl, rfl, rfl⟩ rfl (by decide) fun _ σ T9 I1 hO => ?_
   have hO := zt55 hO
   obtain ⟨_, u1, n4, hO⟩ := I1.share hO (i := 4) rfl
   have hL := hL.trans u1
   have n3 := n3.le u1
   have hO := zt55 hO
   obtain ⟨U0, I2, hF⟩ := zt6 hF
   have hO := hO.sel [2, 3, 4, 0, 1]
   refine zz (hs := [_, _, _]) hO (zbt (q0 := (⟨c6, g7, g8, g9⟩ : zk)) n3 n4 I2) rfl fun _ σ _ _ hO u2 I3 => ?_
   have hL := hL.trans u2
   have n4 := n4.le u2
   obtain ⟨U1, U2, rfl, rfl, h1⟩ := I3
   have hO := zt55 hO
   refine zc (zi (zd hO [0] [(92, .bool ((p1.Kind.toNat : Int) == 9))] [0, 3, 4] (And.intro (And.intro rfl rfl) ztN) fun j => ?_))
   refine zn hF rfl (fun hF => ?_) fun hF => ?_
   ·refine zi (za hO 1 [] [(93, zt1 g)] [0, 3, 4] ztN fun j => ?_)
    refine zt (T := Ty.str) (l := ([ztd] : List ByteArray)) (cs := [.string ztd]) hO rfl ⟨[.string ztd], _, rfl, rfl, rfl⟩ rfl (by decide) fun _ σ U3 I4 hO => ?_
    have hO := zt56 hO
    obtain ⟨_, u3, n5, hO⟩ := I4.share hO (i := 5) rfl
    have hL := hL.trans u3
    have h1 := h1.le u3
    have hO := zt56 hO
    obtain ⟨U4, I5, hF⟩ := zt6 hF
    have hO := hO.sel [0, 1, 2, 5, 3, 4]
    refine zz (hs := [_, _, _, _]) hO (zbt h1 n5 I5) rfl fun _ σ _ _ hO u4 I6 => ?_
    have hL := hL.trans u4
    have n5 := n5.le u4
    obtain ⟨U5, U6, rfl, rfl, n6⟩ := I6
    have hO := zt56 hO
    refine zc (za hO 1 [] [(96, zt1 g)] [0, 3, 4] ztN fun j => ?_)
    refine zt (T := Ty.str) (l := ([zs5, zs4] : List ByteArray)) (cs := [.string zs5, .string zs4]) hO rfl ⟨[.string zs5], _, rfl, rfl, ⟨[.string zs4], _, rfl, rfl, rfl⟩⟩ rfl (by decide) fun _ σ U7 I7 hO => ?_
    have hO := zt57 hO
    obtain ⟨_, u5, n7, hO⟩ := I7.share hO (i := 6) rfl
    have hL := hL.trans u5
    have n6 := n6.le u5
    have hO := zt57 hO
    obtain ⟨h2, I8, hF⟩ := zt6 hF
    have hO := hO.sel [0, 1, 2, 3, 6, 4, 5]
    refine zz (hs := [_, _, _, _, _]) hO (zbt n6 n7 I8) rfl fun _ σ _ _ hO u6 I9 => ?_
    have hL := hL.trans u6
    have n7 := n7.le u6
    obtain ⟨U8, J0, rfl, rfl, u7⟩ := I9
    obtain ⟨J1, J2, rfl, -⟩ := u7.form
    have hO := zt57 hO
    refine zc (zg (zC (zj ?_)))
    have hO := hO.sel [5, 6, 0, 1]
    exact ⟨J1, J2, J0, h2.L, h2.Line, h2.More, h2.Failed, _, ztZ ztL, hO, hL, u7, hF⟩
   refine za hO 7 [0, 0] [(99, zt1 g), (101, zt7 h p1.Kids o), (105, zt0 (IntKind.i64.wrap ((p1.Kids.length : Int) - 1)))] [0, 3, 4] (And.intro (And.intro rfl rfl) (And.intro (And.intro rfl rfl) ztP)) fun j => ?_
   obtain ⟨U9, J3, hF⟩ := zt6 hF
   refine zN (T := zu) (z.le hL) hO.base rfl rfl J3 (by decide) fun a852 _ J4 n8 => ?_
   obtain ⟨V0, rfl, n9⟩ := zbH J4
   refine zG rfl ((n8.le hO.base).all rfl) ?_
   obtain ⟨h3, J5, hF⟩ := zt6 hF
   refine zz (hs := [_, _, _]) hO (zez h1 n9 J5) rfl fun _ σ _ _ hO o0 J6 => ?_
   have hL := hL.trans o0
   have n8 := n8.le o0
   have n9 := n9.le o0
   obtain ⟨V1, J7, rfl, rfl, u9⟩ := J6
   obtain ⟨J8, J9, rfl, -⟩ := u9.form
   have hO := zt55 hO
   refine zc (zg (zC (zj ?_)))
   have hO := hO.sel [3, 4, 0, 1]
   exact ⟨J8, J9, J7, h3.L, h3.Line, h3.More, h3.Failed, _, ztZ ztL, hO, hL, u9, hF⟩
  refine zi (zd hO [] [(109, .bool ((p1.Kind.toNat : Int) == 5))] [0, 3, 4, 26] ztO fun j => ?_)
  refine zn hF rfl (fun hF => ?_) fun hF => ?_
  ·refine zi (zi (zd hO [2] [(113, .bool (!(zV p1.Name zs3)))] [0, 3, 4] (And.intro (And.intro rfl rfl) ztN) fun j => ?_))
   refine zcO (fun e' σ' => ∃ (o1 : Option Addr) (o2 : Nat) (o3 : Ob) (c7 : List zl) (h4 h5 : Int) (h9 : Bool) (τ' : Hp), agr [(0, zt1 g), (3, zt1 X), (4, zt1 Z)] e' ∧ Obs τ' σ' [zbh g (zt7 o1 c7 o2) h4 h5 h9, o3, zby X (p1.Kind.toNat : Int) (IntKind.i64.wrap (q0.Line + 1)) p1.Name p1.Field p1.Call (p1.Type_.Kind.toNat : Int) p1.Type_.N p1.Type_.Name (zt7 h p1.Kids o) (zt7 E p1.Body G) (zt7 t p1.Else w), zby Z 0 0 zs3 zs3 zs3 0 0 zs3 (.slice none 0 0) (.slice none 0 0) (.slice none 0 0)] ∧ Hp.le τ τ' ∧ ze zm 79 τ' (zt7 o1 c7 o2) c7 o3 ∧ ziu q0 p1 c7 h4 h5 h9 = some rr) ?_ ?_
   ·refine zbm (zn hF rfl (fun hF => ?_) fun hF => ?_)
    ·refine zi (za hO 3 [2] [(114, zt1 g), (116, .string p1.Name)] [0, 3, 4] (And.intro (And.intro rfl rfl) ztO) fun j => ?_)
     obtain ⟨V2, K0, hF⟩ := zt6 hF
     have hO := hO.sel [2, 3, 0, 1]
     refine zz (hs := [_, _]) hO (zcX (q0 := (⟨U, (IntKind.i64.wrap (q0.Line + 1)), q0.More, q0.Failed⟩ : zk)) f1 K0) rfl fun _ σ _ _ hO K1 K2 => ?_
     have hL := hL.trans K1
     obtain ⟨V3, L8, rfl, rfl, i0⟩ := K2
     have hO := zt54 hO
     refine zc (za hO 1 [] [(118, zt1 g)] [0, 3, 4] ztN fun j => ?_)
     refine zt (T := Ty.str) (l := ([zs8] : List ByteArray)) (cs := [.string zs8]) hO rfl ⟨[.string zs8], _, rfl, rfl, rfl⟩ rfl (by decide) fun _ σ L9 v3 hO => ?_
     have hO := zt55 hO
     obtain ⟨_, o9, i1, hO⟩ := v3.share hO (i := 4) rfl
     have hL := hL.trans o9
     have i0 := i0.le o9
     have hO := zt55 hO
     obtain ⟨d0, v4, hF⟩ := zt6 hF
     have hO := hO.sel [0, 1, 4, 2, 3]
     refine zz (hs := [_, _, _]) hO (zbt i0 i1 v4) rfl fun _ σ _ _ hO p2 v5 => ?_
     have hL := hL.trans p2
     have i1 := i1.le p2
     obtain ⟨M0, v6, rfl, rfl, p3⟩ := v5
     obtain ⟨v7, v8, rfl, -⟩ := p3.form
     have hO := zt55 hO
     refine zc (zg (zj ?_))
     have hO := hO.sel [3, 4, 0, 1]
     exact ⟨v7, v8, v6, d0.L, d0.Line, d0.More, d0.Failed, _, ztZ ztL, hO, hL, p3, hF⟩
    refine zA (zg (zj ?_))
    exact ⟨c2, c3, c4, U, (IntKind.i64.wrap (q0.Line + 1)), q0.More, q0.Failed, _, ztZ ztL, hO, hL, f1, hF⟩
   rintro e σ ⟨o1, o2, o3, c7, h4, h5, h9, _, hA, hO, hL, K3, hF⟩
   rw [← zM _ _ hA]
   unfold ziu at hF
   refine zi (za hO 3 [2] [(121, zt1 g), (123, .string p1.Call)] [0, 3, 4] (And.intro (And.intro rfl rfl) ztO) fun j => ?_)
   obtain ⟨V4, K4, hF⟩ := zt6 hF
   have hO := hO.sel [2, 3, 0, 1]
   refine zz (hs := [_, _]) hO (zcX (q0 := (⟨c7, h4, h5, h9⟩ : zk)) K3 K4) rfl fun _ σ _ _ hO K5 K6 => ?_
   have hL := hL.trans K5
   obtain ⟨V5, V6, rfl, rfl, K7⟩ := K6
   have hO := zt54 hO
   refine zc (za hO 3 [0] [(125, zt1 g), (127, zt7 h p1.Kids o)] [0, 3, 4] (And.intro (And.intro rfl rfl) ztO) fun j => ?_)
   obtain ⟨i2, K8, hF⟩ := zt6 hF
   refine zz (hs := [_, _]) hO (zst K7 (z.le hL) K8) rfl fun _ σ _ _ hO K9 L0 => ?_
   have hL := hL.trans K9
   obtain ⟨V7, L1, rfl, rfl, v0⟩ := L0
   obtain ⟨L2, L3, rfl, -⟩ := v0.form
   have hO := zt54 hO
   refine zc (zg (zC (zj ?_)))
   have hO := hO.sel [2, 3, 0, 1]
   exact ⟨L2, L3, L1, i2.L, i2.Line, i2.More, i2.Failed, _, ztZ ztL, hO, hL, v0, hF⟩
  refine zi (zi (zd hO [] [(129, .bool ((p1.Kind.toNat : Int) == 6))] [0, 3, 4, 26] ztO fun j => ?_))
  refine zcO (fun e' σ' => ∃ (b2 : Option Addr) (b5 : Nat) (b6 : Ob) (B : List zl) (i3 : Bool) (τ' : Hp), agr [(0, zt1 g), (3, zt1 X), (4, zt1 Z), (26, .int .u8 (p1.Kind.toNat : Int)), (129, .bool i3)] e' ∧ Obs τ' σ' [zbh g (zt7 b2 B b5) (IntKind.i64.wrap (q0.Line + 1)) q0.More q0.Failed, b6, zby X (p1.Kind.toNat : Int) (IntKind.i64.wrap (q0.Line + 1)) p1.Name p1.Field p1.Call (p1.Type_.Kind.toNat : Int) p1.Type_.N p1.Type_.Name (zt7 h p1.Kids o) (zt7 E p1.Body G) (zt7 t p1.Else w), zby Z 0 0 zs3 zs3 zs3 0 0 zs3 (.slice none 0 0) (.slice none 0 0) (.slice none 0 0)] ∧ Hp.le τ τ' ∧ ze zm 79 τ' (zt7 b2 B b5) B b6 ∧ zhM (zbS gn).1 q0 p1 B i3 = some rr) ?_ ?_
  ·refine zbm (zn hF rfl (fun hF => ?_) fun hF => ?_)
   ·refine zA (zg (zj ?_))
    exact ⟨c2, c3, c4, U, ((p1.Kind.toNat : Int) == 6), _, ztZ ztN, hO, hL, f1, hF⟩
   refine zd hO [] [(129, .bool ((p1.Kind.toNat : Int) == 7))] [0, 3, 4, 26] ztO fun j => ?_
   refine zg (zj ?_)
   exact ⟨c2, c3, c4, U, ((p1.Kind.toNat : Int) == 7), _, ztZ ztN, hO, hL, f1, hF⟩
  rintro e σ ⟨b2, b5, b6, B, i3, _, hA, hO, hL, I, hF⟩
  rw [← zM _ _ hA]
  unfold zhM at hF
  refine zn hF rfl (fun hF => ?_) fun hF => ?_
  ·refine zi (zd hO [] [(5, .string ztE)] [0, 3, 4] ztN fun j => ?_)
   refine zi (zi (zd hO [2] [(134, .bool ((p1.Kind.toNat : Int) == 7))] [0, 3, 4, 5] (And.intro (And.intro rfl rfl) ztO) fun j => ?_))
   refine zcO (fun e' σ' => ∃ (i4 : Option Addr) (i5 : Nat) (i6 : Ob) (b7 : List zl) (Y : ByteArray) (τ' : Hp), agr [(0, zt1 g), (3, zt1 X), (4, zt1 Z), (5, .string Y)] e' ∧ Obs τ' σ' [zbh g (zt7 i4 b7 i5) (IntKind.i64.wrap (q0.Line + 1)) q0.More q0.Failed, i6, zby X (p1.Kind.toNat : Int) (IntKind.i64.wrap (q0.Line + 1)) p1.Name p1.Field p1.Call (p1.Type_.Kind.toNat : Int) p1.Type_.N p1.Type_.Name (zt7 h p1.Kids o) (zt7 E p1.Body G) (zt7 t p1.Else w), zby Z 0 0 zs3 zs3 zs3 0 0 zs3 (.slice none 0 0) (.slice none 0 0) (.slice none 0 0)] ∧ Hp.le τ τ' ∧ ze zm 79 τ' (zt7 i4 b7 i5) b7 i6 ∧ zgD (zbS gn).1 q0 p1 b7 Y = some rr) ?_ ?_
   ·refine zbm (zn hF rfl (fun hF => ?_) fun hF => ?_)
    ·refine zd hO [] [(5, .string ztx)] [0, 3, 4] ztN fun j => ?_
     refine zg (zj ?_)
     exact ⟨b2, b5, b6, B, ztx, _, ztZ ztM, hO, hL, I, hF⟩
    refine zA (zg (zj ?_))
    exact ⟨b2, b5, b6, B, ztE, _, ztZ ztM, hO, hL, I, hF⟩
   rintro e σ ⟨i4, i5, i6, b7, Y, _, hA, hO, hL, i7, hF⟩
   rw [← zM _ _ hA]
   unfold zgD at hF
   refine zi (za hO 2 [] [(135, zt1 g), (136, .string Y)] [0, 3, 4] ztO fun j => ?_)
   refine zt (T := Ty.str) (l := ([Y] : List ByteArray)) (cs := [.string Y]) hO rfl ⟨[.string Y], _, rfl, rfl, rfl⟩ rfl (by decide) fun _ σ M1 v9 hO => ?_
   have hO := zt55 hO
   obtain ⟨_, p4, i8, hO⟩ := v9.share hO (i := 4) rfl
   have hL := hL.trans p4
   have i7 := i7.le p4
   have hO := zt55 hO
   obtain ⟨M2, w2, hF⟩ := zt6 hF
   have hO := hO.sel [2, 3, 4, 0, 1]
   refine zz (hs := [_, _, _]) hO (zbt (q0 := (⟨b7, (IntKind.i64.wrap (q0.Line + 1)), q0.More, q0.Failed⟩ : zk)) i7 i8 w2) rfl fun _ σ _ _ hO p5 w3 => ?_
   have hL := hL.trans p5
   have i8 := i8.le p5
   obtain ⟨M3, M4, rfl, rfl, w4⟩ := w3
   have hO := zt55 hO
   refine zc (zi (za hO 3 [0] [(139, zt1 g), (141, zt7 h p1.Kids o)] [0, 3, 4] (And.intro (And.intro rfl rfl) ztO) fun j => ?_))
   obtain ⟨M5, w5, hF⟩ := zt6 hF
   refine zN (T := zu) (z.le hL) hO.base rfl rfl w5 (by decide) fun a1051 _ w6 i9 => ?_
   obtain ⟨M6, rfl, j0⟩ := zbH w6
   refine zG rfl ((i9.le hO.base).all rfl) ?_
   obtain ⟨M7, w7, hF⟩ := zt6 hF
   refine zz (hs := [_, _, _]) hO (zez w4 j0 w7) rfl fun _ σ _ _ hO j1 w8 => ?_
   have hL := hL.trans j1
   have i9 := i9.le j1
   have j0 := j0.le j1
   obtain ⟨M8, M9, rfl, rfl, w9⟩ := w8
   have hO := zt55 hO
   refine zc (zi (za hO 3 [0] [(145, zt1 g), (147, zt7 E p1.Body G)] [0, 3, 4] (And.intro (And.intro rfl rfl) ztO) fun j => ?_))
   obtain ⟨p6, x0, hF⟩ := zt6 hF
   refine zz (hs := [_, _, _]) hO (ih_ref12_layer_block w9 (d8.le hL) x0) rfl fun _ σ _ _ hO x1 x2 => ?_
   have hL := hL.trans x1
   obtain ⟨N0, N1, N2, N3, rfl, rfl, M, b8⟩ := x2
   obtain ⟨p7, p8, rfl, -⟩ := M.form
   have hO := zt56 hO
   refine za hO 1 [] [(149, .pointer (some ⟨X, 9, none⟩))] [0, 3, 4, 148] ztO fun j => ?_
   refine zx hO (i := 0) rfl (off := 9) rfl rfl rfl rfl (Nat.le_of_ble_eq_true rfl) rfl fun σ hO => ?_
   have hO := zt56 hO
   refine zc (zi (zi (zd hO [0] [(153, .bool (decide ((p1.Else.length : Int) > 0)))] [0, 3, 4] (And.intro (And.intro rfl rfl) ztN) fun j => ?_)))
   refine zn hF rfl (fun hF => ?_) fun hF => ?_
   ·refine zi (za hO 1 [] [(154, zt1 g)] [0, 3, 4] ztN fun j => ?_)
    refine zt (T := Ty.str) (l := ([zth] : List ByteArray)) (cs := [.string zth]) hO rfl ⟨[.string zth], _, rfl, rfl, rfl⟩ rfl (by decide) fun _ σ N4 x3 hO => ?_
    have hO := zt57 hO
    obtain ⟨_, j2, j3, hO⟩ := x3.share hO (i := 6) rfl
    have hL := hL.trans j2
    have M := M.le j2
    have b8 := b8.le j2
    have hO := zt57 hO
    obtain ⟨N5, x4, hF⟩ := zt6 hF
    have hO := hO.sel [0, 1, 2, 3, 6, 4, 5]
    refine zz (hs := [_, _, _, _, _]) hO (zbt b8 j3 x4) rfl fun _ σ _ _ hO j4 x5 => ?_
    have hL := hL.trans j4
    have j3 := j3.le j4
    have M := M.le j4
    obtain ⟨N6, N7, rfl, rfl, x6⟩ := x5
    have hO := zt57 hO
    refine zc (za hO 3 [0] [(157, zt1 g), (159, zt7 t p1.Else w)] [0, 3, 4] (And.intro (And.intro rfl rfl) ztO) fun j => ?_)
    obtain ⟨x7, x8, hF⟩ := zt6 hF
    refine zz (hs := [_, _, _, _, _]) hO (ih_ref12_layer_block x6 (b1.le hL) x8) rfl fun _ σ _ _ hO p9 x9 => ?_
    have hL := hL.trans p9
    have M := M.le p9
    obtain ⟨N8, N9, O0, O1, rfl, rfl, d4, c0⟩ := x9
    obtain ⟨y0, y1, rfl, -⟩ := d4.form
    have hO := zt58 hO
    refine za hO 1 [] [(161, .pointer (some ⟨X, 10, none⟩))] [0, 3, 4, 160] ztO fun j => ?_
    refine zx hO (i := 0) rfl (off := 10) rfl rfl rfl rfl (Nat.le_of_ble_eq_true rfl) rfl fun σ hO => ?_
    have hO := zt58 hO
    refine zc (zi (zbk hO 1 [0] [(0, zt1 g), (4, zt1 Z), (162, .agg #[(.int .u8 (p1.Kind.toNat : Int)), (.int .i64 (IntKind.i64.wrap (q0.Line + 1))), (.string p1.Name), (.string p1.Field), (.string p1.Call), (.int .u8 (p1.Type_.Kind.toNat : Int)), (.int .i64 p1.Type_.N), (.string p1.Type_.Name), (zt7 h p1.Kids o), (zt7 p7 p6.1 p8), (zt7 y0 x7.1 y1)])] (And.intro (And.intro rfl rfl) ztM) fun j => ?_))
    refine zx hO (i := 1) rfl (off := 0) rfl rfl rfl rfl (Nat.le_of_ble_eq_true rfl) rfl fun σ hO => ?_
    have hO := zt58 hO
    refine zc (zbi (z6 (zQ ?_)))
    obtain ⟨_, j5, j6, hO⟩ := M.share hO (i := 3) rfl
    have hL := hL.trans j5
    have d4 := d4.le j5
    have c0 := c0.le j5
    have hO := zt58 hO
    obtain ⟨_, j7, y2, hO⟩ := d4.share hO (i := 5) rfl
    have hL := hL.trans j7
    have j6 := j6.le j7
    have c0 := c0.le j7
    have hO := zt58 hO
    cases hF
    have d9 := hO.val (i := 1) rfl (off := 0) (agg := true) (n := 11) rfl
    have hO := hO.sel [6, 7]
    exact hQ _ _ _ _ _ (zbE rfl (d9) rfl) hO hL ⟨_, _, _, _, _, rfl, rfl, (z.le hL), j6, y2, c0⟩
   refine zA (zi (za hO 1 [0] [(162, .agg #[(.int .u8 (p1.Kind.toNat : Int)), (.int .i64 (IntKind.i64.wrap (q0.Line + 1))), (.string p1.Name), (.string p1.Field), (.string p1.Call), (.int .u8 (p1.Type_.Kind.toNat : Int)), (.int .i64 p1.Type_.N), (.string p1.Type_.Name), (zt7 h p1.Kids o), (zt7 p7 p6.1 p8), (zt7 t p1.Else w)])] [0, 4] (And.intro (And.intro rfl rfl) ztM) fun j => ?_))
   refine zx hO (i := 1) rfl (off := 0) rfl rfl rfl rfl (Nat.le_of_ble_eq_true rfl) rfl fun σ hO => ?_
   have hO := zt56 hO
   refine zc (zbi (z6 (zQ ?_)))
   obtain ⟨_, q2, y3, hO⟩ := M.share hO (i := 3) rfl
   have hL := hL.trans q2
   have b8 := b8.le q2
   have hO := zt56 hO
   cases hF
   have d9 := hO.val (i := 1) rfl (off := 0) (agg := true) (n := 11) rfl
   have hO := hO.sel [4, 5]
   exact hQ _ _ _ _ _ (zbE rfl (d9) rfl) hO hL ⟨_, _, _, _, _, rfl, rfl, (z.le hL), y3, (b1.le hL), b8⟩
  refine zi (zd hO [] [(163, .bool ((p1.Kind.toNat : Int) == 8))] [0, 3, 4, 26] ztO fun j => ?_)
  refine zn hF rfl (fun hF => ?_) fun hF => ?_
  ·refine zi (za hO 1 [] [(165, zt1 g)] [0, 3, 4] ztN fun j => ?_)
   refine zt (T := Ty.str) (l := ([ztg] : List ByteArray)) (cs := [.string ztg]) hO rfl ⟨[.string ztg], _, rfl, rfl, rfl⟩ rfl (by decide) fun _ σ O2 y4 hO => ?_
   have hO := zt55 hO
   obtain ⟨_, q3, j8, hO⟩ := y4.share hO (i := 4) rfl
   have hL := hL.trans q3
   have I := I.le q3
   have hO := zt55 hO
   obtain ⟨O3, y5, hF⟩ := zt6 hF
   have hO := hO.sel [2, 3, 4, 0, 1]
   refine zz (hs := [_, _, _]) hO (zbt (q0 := (⟨B, (IntKind.i64.wrap (q0.Line + 1)), q0.More, q0.Failed⟩ : zk)) I j8 y5) rfl fun _ σ _ _ hO q4 y6 => ?_
   have hL := hL.trans q4
   have j8 := j8.le q4
   obtain ⟨O4, O5, rfl, rfl, j9⟩ := y6
   have hO := zt55 hO
   refine zc (zi (za hO 1 [] [(168, zt1 g)] [0, 3, 4] ztN fun j => ?_))
   refine zt (T := Ty.str) (l := ([zs5] : List ByteArray)) (cs := [.string zs5]) hO rfl ⟨[.string zs5], _, rfl, rfl, rfl⟩ rfl (by decide) fun _ σ O6 y7 hO => ?_
   have hO := zt56 hO
   obtain ⟨_, q5, k0, hO⟩ := y7.share hO (i := 5) rfl
   have hL := hL.trans q5
   have j9 := j9.le q5
   have hO := zt56 hO
   obtain ⟨O7, y8, hF⟩ := zt6 hF
   have hO := hO.sel [0, 1, 2, 5, 3, 4]
   refine zz (hs := [_, _, _, _]) hO (zbt j9 k0 y8) rfl fun _ σ _ _ hO q6 y9 => ?_
   have hL := hL.trans q6
   have k0 := k0.le q6
   obtain ⟨O8, O9, rfl, rfl, A0⟩ := y9
   have hO := zt56 hO
   refine zc (zi (za hO 3 [0] [(171, zt1 g), (173, zt7 h p1.Kids o)] [0, 3, 4] (And.intro (And.intro rfl rfl) ztO) fun j => ?_))
   obtain ⟨P0, A1, hF⟩ := zt6 hF
   refine zN (T := zu) (z.le hL) hO.base rfl rfl A1 (by decide) fun a1151 _ A2 k1 => ?_
   obtain ⟨P1, rfl, k4⟩ := zbH A2
   refine zG rfl ((k1.le hO.base).all rfl) ?_
   obtain ⟨P2, A3, hF⟩ := zt6 hF
   refine zz (hs := [_, _, _, _]) hO (zez A0 k4 A3) rfl fun _ σ _ _ hO k5 A4 => ?_
   have hL := hL.trans k5
   have k1 := k1.le k5
   have k4 := k4.le k5
   obtain ⟨P3, P4, rfl, rfl, k6⟩ := A4
   have hO := zt56 hO
   refine zc (za hO 1 [] [(177, zt1 g)] [0, 3, 4] ztN fun j => ?_)
   refine zt (T := Ty.str) (l := ([zs4] : List ByteArray)) (cs := [.string zs4]) hO rfl ⟨[.string zs4], _, rfl, rfl, rfl⟩ rfl (by decide) fun _ σ P5 A5 hO => ?_
   have hO := zt57 hO
   obtain ⟨_, q7, k7, hO⟩ := A5.share hO (i := 6) rfl
   have hL := hL.trans q7
   have k6 := k6.le q7
   have hO := zt57 hO
   obtain ⟨d5, A6, hF⟩ := zt6 hF
   have hO := hO.sel [0, 1, 2, 3, 6, 4, 5]
   refine zz (hs := [_, _, _, _, _]) hO (zbt k6 k7 A6) rfl fun _ σ _ _ hO q8 A7 => ?_
   have hL := hL.trans q8
   have k7 := k7.le q8
   obtain ⟨P6, A8, rfl, rfl, q9⟩ := A7
   obtain ⟨A9, B0, rfl, -⟩ := q9.form
   have hO := zt57 hO
   refine zc (zg (zC (zj ?_)))
   have hO := hO.sel [5, 6, 0, 1]
   exact ⟨A9, B0, A8, d5.L, d5.Line, d5.More, d5.Failed, _, ztZ ztL, hO, hL, q9, hF⟩
  refine zi (zd hO [] [(180, .bool ((p1.Kind.toNat : Int) == 10))] [0, 3, 4] ztN fun j => ?_)
  refine zn hF rfl (fun hF => ?_) fun hF => ?_
  ·refine zi (za hO 1 [] [(182, zt1 g)] [0, 3, 4] ztN fun j => ?_)
   refine zt (T := Ty.str) (l := ([zs9] : List ByteArray)) (cs := [.string zs9]) hO rfl ⟨[.string zs9], _, rfl, rfl, rfl⟩ rfl (by decide) fun _ σ P7 B1 hO => ?_
   have hO := zt55 hO
   obtain ⟨_, r0, k8, hO⟩ := B1.share hO (i := 4) rfl
   have hL := hL.trans r0
   have I := I.le r0
   have hO := zt55 hO
   obtain ⟨d6, B2, hF⟩ := zt6 hF
   have hO := hO.sel [2, 3, 4, 0, 1]
   refine zz (hs := [_, _, _]) hO (zbt (q0 := (⟨B, (IntKind.i64.wrap (q0.Line + 1)), q0.More, q0.Failed⟩ : zk)) I k8 B2) rfl fun _ σ _ _ hO r1 B3 => ?_
   have hL := hL.trans r1
   have k8 := k8.le r1
   obtain ⟨P8, B4, rfl, rfl, l0⟩ := B3
   obtain ⟨B5, B6, rfl, -⟩ := l0.form
   have hO := zt55 hO
   refine zc (zi (zd hO [0] [(188, .bool ((p1.Kids.length : Int) == 1))] [0, 3, 4] (And.intro (And.intro rfl rfl) ztN) fun j => ?_))
   refine zn hF rfl (fun hF => ?_) fun hF => ?_
   ·refine za hO 3 [0] [(189, zt1 g), (191, zt7 h p1.Kids o)] [0, 3, 4] (And.intro (And.intro rfl rfl) ztO) fun j => ?_
    obtain ⟨P9, B7, hF⟩ := zt6 hF
    refine zN (T := zu) (z.le hL) hO.base rfl rfl B7 (by decide) fun a1201 _ B8 l1 => ?_
    obtain ⟨Q0, rfl, l2⟩ := zbH B8
    refine zG rfl ((l1.le hO.base).all rfl) ?_
    obtain ⟨d7, B9, hF⟩ := zt6 hF
    refine zz (hs := [_, _, _]) hO (zez l0 l2 B9) rfl fun _ σ _ _ hO l3 C0 => ?_
    have hL := hL.trans l3
    have l1 := l1.le l3
    have l2 := l2.le l3
    obtain ⟨Q1, C1, rfl, rfl, r2⟩ := C0
    obtain ⟨C2, C3, rfl, -⟩ := r2.form
    have hO := zt55 hO
    refine zc (zg (zC (zj ?_)))
    have hO := hO.sel [3, 4, 0, 1]
    exact ⟨C2, C3, C1, d7.L, d7.Line, d7.More, d7.Failed, _, ztZ ztL, hO, hL, r2, hF⟩
   refine zA (zg (zC (zj ?_)))
   have hO := hO.sel [3, 4, 0, 1]
   exact ⟨B5, B6, B4, d6.L, d6.Line, d6.More, d6.Failed, _, ztZ ztL, hO, hL, l0, hF⟩
  refine zA (zg (zC (zj ?_)))
  exact ⟨b2, b5, b6, B, (IntKind.i64.wrap (q0.Line + 1)), q0.More, q0.Failed, _, ztZ ztL, hO, hL, I, hF⟩
 rintro e σ ⟨l4, l5, l6, c1, f6, f7, f8, _, hA, hO, hL, o4, hF⟩
 rw [← zM _ _ hA]
 unfold zc7 at hF
 refine za hO 1 [] [(195, zt1 g)] [0, 3, 4] ztN fun j => ?_
 refine zt (T := Ty.str) (l := ([zta] : List ByteArray)) (cs := [.string zta]) hO rfl ⟨[.string zta], _, rfl, rfl, rfl⟩ rfl (by decide) fun _ σ V8 L4 hO => ?_
 have hO := zt55 hO
 obtain ⟨_, v1, o5, hO⟩ := L4.share hO (i := 4) rfl
 have hL := hL.trans v1
 have o4 := o4.le v1
 have hO := zt55 hO
 obtain ⟨V9, L5, hF⟩ := zt6 hF
 have hO := hO.sel [2, 3, 4, 0, 1]
 refine zz (hs := [_, _, _]) hO (zbt (q0 := (⟨c1, f6, f7, f8⟩ : zk)) o4 o5 L5) rfl fun _ σ _ _ hO v2 L6 => ?_
 have hL := hL.trans v2
 have o5 := o5.le v2
 obtain ⟨W0, W1, rfl, rfl, L7⟩ := L6
 have hO := zt55 hO
 refine zc (za hO 1 [0] [(198, .agg #[(.int .u8 (p1.Kind.toNat : Int)), (.int .i64 (IntKind.i64.wrap (q0.Line + 1))), (.string p1.Name), (.string p1.Field), (.string p1.Call), (.int .u8 (p1.Type_.Kind.toNat : Int)), (.int .i64 p1.Type_.N), (.string p1.Type_.Name), (zt7 h p1.Kids o), (zt7 E p1.Body G), (zt7 t p1.Else w)])] [0, 4] (And.intro (And.intro rfl rfl) ztM) fun j => ?_)
 refine zx hO (i := 1) rfl (off := 0) rfl rfl rfl rfl (Nat.le_of_ble_eq_true rfl) rfl fun σ hO => ?_
 have hO := zt55 hO
 refine zc (z9 ?_)
 cases hF
 have d9 := hO.val (i := 1) rfl (off := 0) (agg := true) (n := 11) rfl
 have hO := hO.sel [3, 4]
 exact hQ _ _ _ _ _ (zbE rfl (d9) rfl) hO hL ⟨_, _, _, _, _, rfl, rfl, (z.le hL), (d8.le hL), (b1.le hL), L7⟩
theorem zsz (n : Nat) : zkM n ∧ zk3 n := by
 induction n with
 | zero =>
  refine ⟨?_, ?_⟩
  ·intro τ q0 v h o V p1 g I rr hF; exact nomatch (show none = some rr from hF)
  ·intro τ q0 v h o p1 E G B g w z t rr hF; exact nomatch (show none = some rr from hF)
 | succ n ih =>
  obtain ⟨M, U⟩ := ih
  refine ⟨?_, ?_⟩
  ·intro τ q0 v h o V p1 g I rr hF; exact zrd M U g I hF
  ·intro τ q0 v h o p1 E G B g w z t rr hF; exact zrn M U g w z t hF
theorem zpp : ∀ {τ : Hp} {q0 : zk} {o : Nat} {g : Value} {h : Ob} {z : Value} {p1 : (List zh)} (G : ze zm 79 τ g q0.L h) (I : RdT zy τ z p1) {rr : (List zh) × zk} (hF : zj7 q0 p1 = some rr), Ctr Try.prog 35 #[.pointer (some ⟨o, 0, none⟩), z] τ [zbh o g q0.Line q0.More q0.Failed, h] (fun v τ' vs' => ∃ (B : Value) (E : Ob) (t : Value) (w : Ob), v = B ∧ vs' = [E, zbh o t rr.2.Line rr.2.More rr.2.Failed, w] ∧ ze zy 53 τ' B rr.1 E ∧ ze zm 79 τ' t rr.2.L w) := (zsz big).1
end Go.Proofs.Ytnhboaaikehpoaa
