import Derived.Test.YtgkllgoelpfdkaaGreatF
import Derived.Test.YtgkllgoelpfdkaaGreatM00
import Derived.Test.YtgkllgoelpfdkaaGreatM01
namespace Go.Proofs.YtgkllgoelpfdkaaGreat
open Go.Ab Go.RowKit
set_option linter.unusedVariables false
set_option linter.unusedSimpArgs false
set_option maxRecDepth 10000
set_option maxHeartbeats 1000000
theorem zsG {τ : Hp} {p0 : zbs} {v0_0 v0_1 v0_4 : Value} (r0_0 : RdT zfs τ v0_0 p0.Code) (r0_1 : RdT Ty.u8 τ v0_1 p0.Bytes) (r0_4 : RdT (Ty.int .i64) τ v0_4 p0.Input) {rr : Bool} (hF : zfT p0 = some rr) :
  Ctr Tryz.prog 6 #[.agg #[v0_0, v0_1, .int .i64 p0.Start, .int .i64 p0.Words, v0_4, .int .i64 p0.Fuel]] τ [] (fun v τ' vs' => v = .bool rr ∧ vs' = []) := by
 obtain ⟨A0_0, c0_0, rfl, -⟩ := r0_0.form
 obtain ⟨A0_1, c0_1, rfl, -⟩ := r0_1.form
 obtain ⟨A0_4, c0_4, rfl, -⟩ := r0_4.form
 refine zu (args := [.agg #[(zs9 A0_0 p0.Code c0_0), (zs9 A0_1 p0.Bytes c0_1), .int .i64 p0.Start, .int .i64 p0.Words, (zs9 A0_4 p0.Input c0_4), .int .i64 p0.Fuel]]) hm Tryz.func6 s6 rfl fun w0 σ hO Q hQ => ?_
 unfold zfT at hF
 have hL := Hp.le.refl τ
 show wpn _ _ a6.body _ _ _
 unfold a6
 dsimp only
 refine zbq (n := 6) hO rfl rfl fun b2 σ hO => ?_
 have hO := zs71 hO
 refine za hO [] [] [1] zsM fun j => ?_
 refine zc hO 8 [0, 0] [(13, .bool ((decide ((p0.Code.length : Int) > 200)) || (decide ((p0.Bytes.length : Int) > 4096))))] [1] (And.intro (And.intro rfl rfl) (And.intro (And.intro rfl rfl) (And.intro (And.intro rfl rfl) (fun _ => zs1 zsM)))) fun j => ?_
 obtain ⟨c3, h4, hF⟩ := zs8 hF
 refine zcg 4 [(22, .bool c3), (1, zs3 b2)] (fun Q hQ => ?_) fun j => ?_
 ·have hF := h4
  rcases z1 hF with ⟨hb5, hF⟩ | ⟨hb5, hF⟩
  ·refine zP (zs5 hb5) ?_
   refine zP rfl ?_
   refine zP (zs5 hb5) ?_
   refine zw (zs4 hb5) ?_
   refine ze ?_
   cases hF
   refine zg ?_
   exact hQ _ zsN
  refine zK (zs5 hb5) ?_
  refine zc hO 4 [0] [(17, .bool (decide (p0.Words > 1024)))] [1, 13] (And.intro (And.intro rfl rfl) zsO) fun j => ?_
  rcases z1 hF with ⟨hb6, hF⟩ | ⟨hb6, hF⟩
  ·refine zK (zs6 hb6) ?_
   refine zc hO 3 [0] [(20, .bool (decide (p0.Words ≤ 65536)))] [1, 13, 17] (And.intro (And.intro rfl rfl) zsP) fun j => ?_
   refine zK (zs5 hb5) ?_
   refine zw (zs4 hb6) ?_
   refine zw (zs4 hb5) ?_
   refine ze ?_
   cases hF
   refine zg ?_
   exact hQ _ zsN
  refine zP (zs6 hb6) ?_
  refine zK (zs5 hb5) ?_
  refine zw (zs4 hb6) ?_
  refine zw (zs4 hb5) ?_
  refine ze ?_
  cases hF
  refine zg ?_
  exact hQ _ zsN
 refine zj hO [0, 0] [(2, .bool ((c3 || (decide ((p0.Input.length : Int) > 100))) || (decide (p0.Fuel > 1000))))] (And.intro (And.intro rfl rfl) (And.intro (And.intro rfl rfl) (fun _ => And.intro (And.intro rfl rfl) (And.intro (And.intro rfl rfl) (fun _ => zs1 trivial))))) fun j => ?_
 refine zq ?_
 cases hF
 have hO := hO.sel []
 exact hQ _ _ _ _ _ rfl hO hL ⟨rfl, rfl⟩
theorem zgN {τ : Hp} {v0 : Value} {p0 : (List UInt8)} (r0 : RdT Ty.u8 τ v0 p0) {rr : (List UInt8)} (hF : zdo p0 = some rr) :
  Ctr Tryz.prog 27 #[v0] τ [] (fun v τ' vs' => ∃ (v0 : Value) (o0 : Ob), v = v0 ∧ vs' = [o0] ∧ zd Ty.u8 5 τ' v0 rr o0) := by
 obtain ⟨A0, c0, rfl, -⟩ := r0.form
 refine zu (args := [.slice A0 p0.length c0]) hm Tryz.func27 s27 rfl fun w0 σ hO Q hQ => ?_
 unfold zdo at hF
 obtain ⟨_, hr, hF⟩ := zs8 hF
 injection hF with hF
 subst hF
 have hL := Hp.le.refl τ
 show wpn _ _ a27.body _ _ _
 unfold a27
 dsimp only
 refine zj hO [] [(0, zs9 A0 p0 c0)] zsM fun j => ?_
 refine zb (zj hO [] [(0, zs9 A0 p0 c0), (4, .bool A0.isNone)] zsN fun j => ?_)
 rcases (Bool.eq_false_or_eq_true A0.isNone).symm with hA | hA
 ·refine zbU (zs4 hA) ?_
  refine zl (zbv (T := Ty.u8) (l := []) (cs := []) hO rfl rfl rfl (by decide) fun _ σ o1 w1 hO => ?_)
  obtain ⟨A1, c1, rfl, -⟩ := w1.form
  refine zZ hO 1 [] [(5, .slice A1 0 c1), (6, zs9 A0 p0 c0)] zsN fun j => ?_
  refine zdt (T := Ty.u8) hO w1 (i := 0) rfl rfl rfl r0 (by simpa using hr) (by decide) fun _ σ o2 w2 hO => ?_
  refine zj hO [] [(2, _)] zsM fun j => ?_
  refine zq ?_
  exact hQ _ _ _ _ _ rfl hO hL ⟨_, _, rfl, rfl, w2⟩
 refine zcT (zs4 hA) ?_
 have := r0.empty (by decide) hA
 subst this
 refine zb (zj hO [] [(2, .slice none 0 0)] zsM fun j => ?_)
 refine zp ?_
 have hO := hO.no
 exact hQ _ _ _ _ _ rfl hO hL ⟨_, _, rfl, rfl, zd.nil _ _ _⟩
theorem zfx {τ : Hp} {v0 : Value} {p0 : (List Int)} (r0 : RdT (Ty.int .i64) τ v0 p0) {rr : (List Int)} (hF : zeg p0 = some rr) :
  Ctr Tryz.prog 28 #[v0] τ [] (fun v τ' vs' => ∃ (v0 : Value) (o0 : Ob), v = v0 ∧ vs' = [o0] ∧ zd (Ty.int .i64) 2 τ' v0 rr o0) := by
 obtain ⟨A0, c0, rfl, -⟩ := r0.form
 refine zu (args := [.slice A0 p0.length c0]) hm Tryz.func28 s28 rfl fun w0 σ hO Q hQ => ?_
 unfold zeg at hF
 obtain ⟨_, hr, hF⟩ := zs8 hF
 injection hF with hF
 subst hF
 have hL := Hp.le.refl τ
 show wpn _ _ a28.body _ _ _
 unfold a28
 dsimp only
 refine zj hO [] [(0, zs9 A0 p0 c0)] zsM fun j => ?_
 refine zb (zj hO [] [(0, zs9 A0 p0 c0), (4, .bool A0.isNone)] zsN fun j => ?_)
 rcases (Bool.eq_false_or_eq_true A0.isNone).symm with hA | hA
 ·refine zbU (zs4 hA) ?_
  refine zl (zbv (T := (Ty.int .i64)) (l := []) (cs := []) hO rfl rfl rfl (by decide) fun _ σ o1 w1 hO => ?_)
  obtain ⟨A1, c1, rfl, -⟩ := w1.form
  refine zZ hO 1 [] [(5, .slice A1 0 c1), (6, zs9 A0 p0 c0)] zsN fun j => ?_
  refine zdt (T := (Ty.int .i64)) hO w1 (i := 0) rfl rfl rfl r0 (by simpa using hr) (by decide) fun _ σ o2 w2 hO => ?_
  refine zj hO [] [(2, _)] zsM fun j => ?_
  refine zq ?_
  exact hQ _ _ _ _ _ rfl hO hL ⟨_, _, rfl, rfl, w2⟩
 refine zcT (zs4 hA) ?_
 have := r0.empty (by decide) hA
 subst this
 refine zb (zj hO [] [(2, .slice none 0 0)] zsM fun j => ?_)
 refine zp ?_
 have hO := hO.no
 exact hQ _ _ _ _ _ rfl hO hL ⟨_, _, rfl, rfl, zd.nil _ _ _⟩
theorem zlN {τ : Hp} {v0 : Value} {p0 : (List UInt8)} {p1 p2 : Int} {v3 : Value} {p3 : (List Int)} (r0 : RdT Ty.u8 τ v0 p0) (r3 : RdT (Ty.int .i64) τ v3 p3) {rr : (Option zh) × Int} (hF : zfL p0 p1 p2 p3 = some rr) :
  Ctr Tryz.prog 9 #[v0, .int .i64 p1, .int .i64 p2, v3] τ [] (fun v τ' vs' => match rr.1 with | none => v = .tuple #[.pointer none, .int .i64 rr.2] ∧ vs' = [] | some m => ∃ (b : Nat) (u0 : Value) (y0 : Ob) (u18 : Value) (y18 : Ob) (u19 : Value) (y19 : Ob) (u20 : Value) (y20 : Ob), v = .tuple #[.pointer (some ⟨b, 0, none⟩), .int .i64 rr.2] ∧ vs' = [zI b u0 m.pc m.regs u18 u19 u20 m.how.toNat m.halting, y0, y18, y19, y20] ∧ zd Ty.u8 5 τ' u0 m.code y0 ∧ zd (Ty.int .i64) 2 τ' u18 m.words y18 ∧ zd (Ty.int .i64) 2 τ' u19 m.input y19 ∧ zd (Ty.int .i64) 2 τ' u20 m.out y20) := by
 obtain ⟨A0, c0, rfl, -⟩ := r0.form
 obtain ⟨A3, c3, rfl, -⟩ := r3.form
 refine zu (args := [.slice A0 p0.length c0, .int .i64 p1, .int .i64 p2, .slice A3 p3.length c3]) hm Tryz.func9 s9 rfl fun w0 σ hO Q hQ => ?_
 unfold zfL at hF
 have hL := Hp.le.refl τ
 show wpn _ _ a9.body _ _ _
 unfold a9
 dsimp only
 refine za hO [] [] [0, 1, 2, 3] zsP fun j => ?_
 refine zb (za hO [] [(31, .bool (((((decide ((p0.length : Int) > 1048576)) || (decide (p1 < 0))) || (decide (p1 > (p0.length : Int)))) || (decide (p2 < 1))) || (decide (p2 > 65536))))] [0, 1, 2, 3] (And.intro (And.intro rfl rfl) (fun _ => And.intro (And.intro rfl rfl) (fun _ => And.intro (And.intro rfl rfl) (fun _ => And.intro (And.intro rfl rfl) (fun _ => zs1 zsP))))) fun j => ?_)
 refine zi hF rfl (fun hF => ?_) fun hF => ?_
 ·refine zb (zj hO [] [(8, .pointer none), (9, zs2 1)] zsN fun j => ?_)
  refine zp ?_
  cases hF
  exact hQ _ _ _ _ _ rfl hO hL ⟨rfl, rfl⟩
 refine zl (zG (za hO [] [(32, zs9 A0 p0 c0)] [1, 2, 3] zsP fun j => ?_))
 refine zG (za hO [] [(34, zs2 p1)] [2, 3, 32] zsP fun j => ?_)
 refine zG (za hO [] [(35, zs2 p2)] [2, 3, 32, 34] zsQ fun j => ?_)
 refine zG (za hO [] [(37, zs9 A3 p3 c3)] [2, 32, 34, 35] zsQ fun j => ?_)
 refine zbK (fun e' σ' => ∃ (b32 : Nat) (A33 : Option Addr) (c34 : Nat) (o35 : Ob) (x36 : List UInt8) (A38 : Option Addr) (c39 : Nat) (o40 : Ob) (x41 : List Int) (A43 : Option Addr) (c44 : Nat) (o45 : Ob) (x46 : List Int) (τ' : Hp), agr [(2, zs2 p2), (10, zs3 b32)] e' ∧ Obs τ' σ' [zI b32 (zs9 A33 x36 c34) p1 (zfo [0, 0, 0, 0, 0, 0, 0, 0, 0, 0, 0, 0, 0, 0, 0, 0]) (zs9 A38 x41 c39) (zs9 A43 x46 c44) (.slice none 0 0) 0 0, o35, o40, o45] ∧ Hp.le τ τ' ∧ zd Ty.u8 5 τ' (zs9 A33 x36 c34) x36 o35 ∧ zd (Ty.int .i64) 2 τ' (zs9 A38 x41 c39) x41 o40 ∧ zd (Ty.int .i64) 2 τ' (zs9 A43 x46 c44) x46 o45 ∧ zkJ p1 p2 x36 x41 x46 = some rr) ?_ ?_
 ·refine ziC ?_
  obtain ⟨c49, h50, hF⟩ := zs8 hF
  obtain ⟨y58, g59, hF⟩ := zs8 hF
  obtain ⟨c65, h66, hF⟩ := zs8 hF
  refine zdr ?_ ?_
  ·refine zU (zo hO (zgN (r0.le hL) h50) rfl fun _ σ _ _ hO h51 h52 => ?_)
   have hL := hL.trans h51
   obtain ⟨v53, o56, rfl, rfl, w57⟩ := h52
   obtain ⟨A54, c55, rfl, -⟩ := w57.form
   have hO := zs71 hO
   refine ze (zdr ?_ ?_)
   ·refine zU (zcS (T := (Ty.int .i64)) hO rfl rfl g59 (show _ = _ from rfl) (by decide) fun b64 c61 σ o62 w63 hO => ?_)
    have hO := zs72 hO
    refine ze (zU (zo hO (zfx (r3.le hL) h66) rfl fun _ σ _ _ hO h67 h68 => ?_))
    have hL := hL.trans h67
    have w57 := w57.le h67
    have w63 := w63.le h67
    obtain ⟨v69, o72, rfl, rfl, w73⟩ := h68
    obtain ⟨A70, c71, rfl, -⟩ := w73.form
    have hO := zs73 hO
    refine ze (zG (za hO [] [(39, .agg #[(zs9 A54 c49 c55), (.int .i64 p1), (.int .i64 0), (.int .i64 0), (.int .i64 0), (.int .i64 0), (.int .i64 0), (.int .i64 0), (.int .i64 0), (.int .i64 0), (.int .i64 0), (.int .i64 0), (.int .i64 0), (.int .i64 0), (.int .i64 0), (.int .i64 0), (.int .i64 0), (.int .i64 0), (zs9 (some ⟨b64, 0, none⟩) y58 c61), (zs9 A70 c65 c71), (.slice none 0 0), (.int .u8 0), (.int .i64 0)])] [2] zsN fun j => ?_))
    refine zU (zbq (n := 23) hO rfl rfl fun b74 σ hO => ?_)
    have hO := zs74 hO
    refine ze (zG (za hO [] [(10, zs3 b74)] [2] zsN fun j => ?_))
    refine zcq (zg (zk ?_))
    have hO := hO.sel [3, 0, 1, 2]
    exact ⟨b74, A54, c55, o56, c49, (some ⟨b64, 0, none⟩), c61, o62, y58, A70, c71, o72, c65, _, zs1 zsM, hO, hL, w57, w63, w73, hF⟩
   refine zU (zo hO (zfx (r3.le hL) h66) rfl fun _ σ _ _ hO h67 h68 => ?_)
   have hL := hL.trans h67
   have w57 := w57.le h67
   obtain ⟨v69, o72, rfl, rfl, w73⟩ := h68
   obtain ⟨A70, c71, rfl, -⟩ := w73.form
   have hO := zs72 hO
   refine ze (zU (zcS (T := (Ty.int .i64)) hO rfl rfl g59 (show _ = _ from rfl) (by decide) fun b64 c61 σ o62 w63 hO => ?_))
   have hO := zs73 hO
   refine ze (zG (za hO [] [(39, .agg #[(zs9 A54 c49 c55), (.int .i64 p1), (.int .i64 0), (.int .i64 0), (.int .i64 0), (.int .i64 0), (.int .i64 0), (.int .i64 0), (.int .i64 0), (.int .i64 0), (.int .i64 0), (.int .i64 0), (.int .i64 0), (.int .i64 0), (.int .i64 0), (.int .i64 0), (.int .i64 0), (.int .i64 0), (zs9 (some ⟨b64, 0, none⟩) y58 c61), (zs9 A70 c65 c71), (.slice none 0 0), (.int .u8 0), (.int .i64 0)])] [2] zsN fun j => ?_))
   refine zU (zbq (n := 23) hO rfl rfl fun b74 σ hO => ?_)
   have hO := zs74 hO
   refine ze (zG (za hO [] [(10, zs3 b74)] [2] zsN fun j => ?_))
   refine zcq (zg (zk ?_))
   have hO := hO.sel [3, 0, 2, 1]
   exact ⟨b74, A54, c55, o56, c49, (some ⟨b64, 0, none⟩), c61, o62, y58, A70, c71, o72, c65, _, zs1 zsM, hO, hL, w57, w63, w73, hF⟩
  refine zU (zcS (T := (Ty.int .i64)) hO rfl rfl g59 (show _ = _ from rfl) (by decide) fun b64 c61 σ o62 w63 hO => ?_)
  have hO := zs71 hO
  refine ze (zU (zo hO (zgN (r0.le hL) h50) rfl fun _ σ _ _ hO h51 h52 => ?_))
  have hL := hL.trans h51
  have w63 := w63.le h51
  obtain ⟨v53, o56, rfl, rfl, w57⟩ := h52
  obtain ⟨A54, c55, rfl, -⟩ := w57.form
  have hO := zs72 hO
  refine ze (zU (zo hO (zfx (r3.le hL) h66) rfl fun _ σ _ _ hO h67 h68 => ?_))
  have hL := hL.trans h67
  have w57 := w57.le h67
  have w63 := w63.le h67
  obtain ⟨v69, o72, rfl, rfl, w73⟩ := h68
  obtain ⟨A70, c71, rfl, -⟩ := w73.form
  have hO := zs73 hO
  refine ze (zG (za hO [] [(39, .agg #[(zs9 A54 c49 c55), (.int .i64 p1), (.int .i64 0), (.int .i64 0), (.int .i64 0), (.int .i64 0), (.int .i64 0), (.int .i64 0), (.int .i64 0), (.int .i64 0), (.int .i64 0), (.int .i64 0), (.int .i64 0), (.int .i64 0), (.int .i64 0), (.int .i64 0), (.int .i64 0), (.int .i64 0), (zs9 (some ⟨b64, 0, none⟩) y58 c61), (zs9 A70 c65 c71), (.slice none 0 0), (.int .u8 0), (.int .i64 0)])] [2] zsN fun j => ?_))
  refine zU (zbq (n := 23) hO rfl rfl fun b74 σ hO => ?_)
  have hO := zs74 hO
  refine ze (zG (za hO [] [(10, zs3 b74)] [2] zsN fun j => ?_))
  refine zcq (zg (zk ?_))
  have hO := hO.sel [3, 1, 0, 2]
  exact ⟨b74, A54, c55, o56, c49, (some ⟨b64, 0, none⟩), c61, o62, y58, A70, c71, o72, c65, _, zs1 zsM, hO, hL, w57, w63, w73, hF⟩
 rintro e σ ⟨b32, A33, c34, o35, x36, A38, c39, o40, x41, A43, c44, o45, x46, _, hA, hO, hL, w37, w42, w47, hF⟩
 rw [← zD _ _ hA]
 unfold zkJ at hF
 refine zc hO 5 [] [(42, zs2 p2), (45, .pointer (some ⟨b32, 17, none⟩))] [10] zsO fun j => ?_
 refine zH hO (i := 0) rfl (off := 17) rfl rfl rfl rfl (Nat.le_of_ble_eq_true rfl) rfl fun σ hO => ?_
 have hO := zs74 hO
 refine ze (zj hO [] [(8, zs3 b32), (9, zs2 0)] zsN fun j => ?_)
 refine zq ?_
 have hO := hO.no
 have hO := zs75 hO
 have w48 := zd.nil0 (T := (Ty.int .i64)) (ty := 2) hO
 cases hF
 exact hQ _ _ _ _ _ rfl hO hL ⟨_, _, _, _, _, _, _, _, _, rfl, rfl, w37, w42, w47, w48⟩
theorem zkM {rr : (Option zh) × Int} : ∀ (v : Value) (τ1 τ2 : Hp) (vs : List Ob), (fun v τ' vs' => match rr.1 with | none => v = .tuple #[.pointer none, .int .i64 rr.2] ∧ vs' = [] | some m => ∃ (b : Nat) (u0 : Value) (y0 : Ob) (u18 : Value) (y18 : Ob) (u19 : Value) (y19 : Ob) (u20 : Value) (y20 : Ob), v = .tuple #[.pointer (some ⟨b, 0, none⟩), .int .i64 rr.2] ∧ vs' = [zI b u0 m.pc m.regs u18 u19 u20 m.how.toNat m.halting, y0, y18, y19, y20] ∧ zd Ty.u8 5 τ' u0 m.code y0 ∧ zd (Ty.int .i64) 2 τ' u18 m.words y18 ∧ zd (Ty.int .i64) 2 τ' u19 m.input y19 ∧ zd (Ty.int .i64) 2 τ' u20 m.out y20) v τ1 vs → (fun v τ' vs' => match rr.1 with | none => v = .tuple #[.pointer none, .int .i64 rr.2] ∧ vs' = [] | some m => ∃ (b : Nat) (u0 : Value) (y0 : Ob) (u18 : Value) (y18 : Ob) (u19 : Value) (y19 : Ob) (u20 : Value) (y20 : Ob), v = .tuple #[.pointer (some ⟨b, 0, none⟩), .int .i64 rr.2] ∧ vs' = [zI b u0 m.pc m.regs u18 u19 u20 m.how.toNat m.halting, y0, y18, y19, y20] ∧ zd Ty.u8 5 τ' u0 m.code y0 ∧ zd (Ty.int .i64) 2 τ' u18 m.words y18 ∧ zd (Ty.int .i64) 2 τ' u19 m.input y19 ∧ zd (Ty.int .i64) 2 τ' u20 m.out y20) v τ2 vs := fun v τ1 τ2 vs h => by
 dsimp only at h ⊢
 revert h
 cases rr.1 with
 | none => exact fun h => h
 | some m => exact fun ⟨b, u0, y0, u18, y18, u19, y19, u20, y20, h1, h2, f0, f18, f19, f20⟩ => ⟨b, u0, y0, u18, y18, u19, y19, u20, y20, h1, h2, f0.flat zjG, f18.flat (zdu .i64), f19.flat (zdu .i64), f20.flat (zdu .i64)⟩
theorem zg0 {τ : Hp} {q0 : zh} {bm0 : Nat} {vm0_0 vm0_18 : Value} {om0_18 : Ob} {vm0_19 vm0_20 : Value} {om0_20 : Ob} (rm0_0 : RdT Ty.u8 τ vm0_0 q0.code) (wm0_18 : zd (Ty.int .i64) 2 τ vm0_18 q0.words om0_18) (rm0_19 : RdT (Ty.int .i64) τ vm0_19 q0.input) (wm0_20 : zd (Ty.int .i64) 2 τ vm0_20 q0.out om0_20) {rr : Int} (hF : zdD q0 = some rr) :
  Ctr Tryz.prog 18 #[.pointer (some ⟨bm0, 0, none⟩)] τ [zI bm0 vm0_0 q0.pc q0.regs vm0_18 vm0_19 vm0_20 q0.how.toNat q0.halting, om0_18, om0_20] (fun v τ' vs' => v = .int .u8 rr ∧ vs' = [zI bm0 vm0_0 q0.pc q0.regs vm0_18 vm0_19 vm0_20 q0.how.toNat q0.halting, om0_18, om0_20]) := by
 obtain ⟨Am0_0, cm0_0, rfl, -⟩ := rm0_0.form
 obtain ⟨Am0_18, cm0_18, rfl, -⟩ := wm0_18.form
 obtain ⟨Am0_19, cm0_19, rfl, -⟩ := rm0_19.form
 obtain ⟨Am0_20, cm0_20, rfl, -⟩ := wm0_20.form
 refine zu (args := [.pointer (some ⟨bm0, 0, none⟩)]) hm Tryz.func18 s18 rfl fun w0 σ hO Q hQ => ?_
 unfold zdD at hF
 have hL := Hp.le.refl τ
 show wpn _ _ a18.body _ _ _
 unfold a18
 dsimp only
 refine za hO [] [] [0] zsM fun j => ?_
 refine zb (za hO [] [(4, .bool false)] [0] zsN fun j => ?_)
 refine zbU rfl ?_
 refine zl (za hO [0] [(2, .int .u8 (q0.how.toNat : Int))] [0] (And.intro (And.intro rfl rfl) zsN) fun j => ?_)
 refine zq ?_
 cases hF
 exact hQ _ _ _ _ _ rfl hO hL ⟨rfl, rfl⟩
theorem zr0 {τ : Hp} {q0 : zf} {bm0 : Nat}  {rr : Bool × zf} (hF : ziW q0 = some rr) :
  Ctr Tryz.prog 73 #[.pointer (some ⟨bm0, 0, none⟩)] τ [zy bm0 q0.Kind.toNat q0.Op.toNat q0.R q0.S q0.T q0.N q0.M] (fun v τ' vs' => v = .bool rr.1 ∧ vs' = [zy bm0 rr.2.Kind.toNat rr.2.Op.toNat rr.2.R rr.2.S rr.2.T rr.2.N rr.2.M]) := by
 refine zu (args := [.pointer (some ⟨bm0, 0, none⟩)]) hm Tryz.func73 s73 rfl fun w0 σ hO Q hQ => ?_
 unfold ziW at hF
 have hL := Hp.le.refl τ
 show wpn _ _ a73.body _ _ _
 unfold a73
 dsimp only
 refine za hO [] [] [0] zsM fun j => ?_
 refine za hO [] [(2, .bool true)] [0] zsN fun j => ?_
 refine zq ?_
 cases hF
 exact hQ _ _ _ _ _ rfl hO hL ⟨rfl, rfl⟩
theorem zlK {τ : Hp} {v0 : Value} {p0 : (List UInt8)} {p1 p2 : Int} (r0 : RdT Ty.u8 τ v0 p0) {rr : (List UInt8) × Int × Int} (hF : zer p0 p1 p2 = some rr) :
  Ctr Tryz.prog 125 #[v0, .int .i64 p1, .int .i64 p2] τ [] (fun v τ' vs' => ∃ (v0 : Value), v = .tuple #[v0, .int .i64 rr.2.1, .int .i64 rr.2.2] ∧ vs' = [] ∧ RdT Ty.u8 τ' v0 rr.1) := by
 obtain ⟨A0, c0, rfl, -⟩ := r0.form
 refine zu (args := [.slice A0 p0.length c0, .int .i64 p1, .int .i64 p2]) hm Tryz.func125 zoc rfl fun w0 σ hO Q hQ => ?_
 unfold zer at hF
 have hL := Hp.le.refl τ
 show wpn _ _ zeE.body _ _ _
 unfold zeE
 dsimp only
 refine za hO [] [] [0, 1, 2] zsO fun j => ?_
 refine zb (za hO [] [(17, .bool ((decide (p1 < 0)) || (decide (p1 > (p0.length : Int)))))] [0, 1, 2] (And.intro (And.intro rfl rfl) (fun _ => zs1 zsO)) fun j => ?_)
 refine zi hF rfl (fun hF => ?_) fun hF => ?_
 ·refine zb (zj hO [] [(6, .slice none 0 0), (7, zs2 0), (8, zs2 1)] zsO fun j => ?_)
  refine zp ?_
  cases hF
  exact hQ _ _ _ _ _ rfl hO hL ⟨_, rfl, rfl, (RdT.nil _ _)⟩
 refine zl (zb (zc hO 2 [] [(18, zs9 A0 p0 c0), (19, zs2 p1)] [1, 2] zsP fun j => ?_))
 obtain ⟨y5, g6, hF⟩ := zs8 hF
 refine zdB (T := Ty.u8) (r0.le hL) rfl rfl rfl g6 fun _ r7 => ?_
 obtain ⟨A8, c9, rfl, -⟩ := r7.form
 refine za hO [] [(9, zs9 A8 y5 c9)] [1, 2] zsO fun j => ?_
 refine zb (za hO [] [(24, .bool (decide ((y5.length : Int) ≥ p2)))] [1, 2, 9] zsP fun j => ?_)
 refine zi hF rfl (fun hF => ?_) fun hF => ?_
 ·refine zb (zc hO 2 [] [(25, zs9 A8 y5 c9), (26, zs2 p2)] [1, 2] zsP fun j => ?_)
  obtain ⟨y11, g12, hF⟩ := zs8 hF
  refine zdB (T := Ty.u8) r7 rfl rfl rfl g12 fun _ r13 => ?_
  obtain ⟨A14, c15, rfl, -⟩ := r13.form
  refine zj hO [] [(6, zs9 A14 y11 c15), (7, zs2 (IntKind.i64.wrap (p1 + p2))), (8, zs2 0)] zsO fun j => ?_
  refine zp ?_
  cases hF
  exact hQ _ _ _ _ _ rfl hO hL ⟨_, rfl, rfl, r13⟩
 refine zl (zj hO [] [(6, .slice none 0 0), (7, zs2 0), (8, zs2 5)] zsO fun j => ?_)
 refine zq ?_
 cases hF
 exact hQ _ _ _ _ _ rfl hO hL ⟨_, rfl, rfl, (RdT.nil _ _)⟩
theorem zgv {τ : Hp} {v0 : Value} {p0 : (List UInt8)} {p1 : Int} (r0 : RdT Ty.u8 τ v0 p0) {rr : Int × Int × Int} (hF : zcR p0 p1 = some rr) :
  Ctr Tryz.prog 119 #[v0, .int .i64 p1] τ [] (fun v τ' vs' => v = .tuple #[.int .u8 rr.1, .int .i64 rr.2.1, .int .i64 rr.2.2] ∧ vs' = []) := by
 obtain ⟨A0, c0, rfl, -⟩ := r0.form
 refine zu (args := [.slice A0 p0.length c0, .int .i64 p1]) hm Tryz.func119 zoJ rfl fun w0 σ hO Q hQ => ?_
 unfold zcR at hF
 have hL := Hp.le.refl τ
 show wpn _ _ zkt.body _ _ _
 unfold zkt
 dsimp only
 refine za hO [] [] [0, 1] zsN fun j => ?_
 refine zZ hO 2 [] [(9, zs9 A0 p0 c0), (10, zs2 p1)] zsN fun j => ?_
 obtain ⟨c3, h4, hF⟩ := zs8 hF
 refine zo hO (zlK (r0.le hL) h4) rfl fun _ σ _ _ hO h5 h6 => ?_
 have hL := hL.trans h5
 obtain ⟨v7, rfl, rfl, r10⟩ := h6
 obtain ⟨A8, c9, rfl, -⟩ := r10.form
 have hO : Obs _ _ [] := hO
 refine zj hO [] [(5, zs2 c3.2.1), (6, zs2 c3.2.2), (7, zs9 A8 c3.1 c9)] zsO fun j => ?_
 refine zb (za hO [] [(16, .bool (c3.2.2 != 0))] [5, 6, 7] zsP fun j => ?_)
 refine zi hF rfl (fun hF => ?_) fun hF => ?_
 ·refine zb (zj hO [] [(4, .int .u8 0), (5, zs2 0), (6, zs2 c3.2.2)] zsO fun j => ?_)
  refine zp ?_
  cases hF
  exact hQ _ _ _ _ _ rfl hO hL ⟨rfl, rfl⟩
 refine zl (zc hO 1 [] [(18, zs9 A8 c3.1 c9)] [5] zsN fun j => ?_)
 obtain ⟨y12, g13, hF⟩ := zs8 hF
 refine zbJ (T := Ty.u8) r10 hO.base rfl rfl g13 (by decide) fun a14 _ k15 m16 => ?_
 obtain rfl : _ = ([.int .u8 y12.toNat] : List Value) := k15
 refine zL rfl (m16.le hO.base).fst ?_
 refine zj hO [] [(4, .int .u8 (y12.toNat : Int)), (5, zs2 c3.2.1), (6, zs2 0)] zsO fun j => ?_
 refine zq ?_
 cases hF
 exact hQ _ _ _ _ _ rfl hO hL ⟨rfl, rfl⟩
theorem ziN {τ : Hp} {p0 : Int}  {rr : Bool} (hF : zdZ p0 = some rr) :
  Ctr Tryz.prog 86 #[.int .i64 p0] τ [] (fun v τ' vs' => v = .bool rr ∧ vs' = []) := by
 refine zu (args := [.int .i64 p0]) hm Tryz.func86 s86 rfl fun w0 σ hO Q hQ => ?_
 unfold zdZ at hF
 have hL := Hp.le.refl τ
 show wpn _ _ a86.body _ _ _
 unfold a86
 dsimp only
 refine za hO [] [] [0] zsM fun j => ?_
 refine zj hO [] [(2, .bool ((decide (p0 ≥ 0)) && (decide (p0 < 16))))] (And.intro (And.intro rfl rfl) (fun _ => zs1 trivial)) fun j => ?_
 refine zq ?_
 cases hF
 exact hQ _ _ _ _ _ rfl hO hL ⟨rfl, rfl⟩
theorem zsI {τ : Hp} {q0 : zf} {bm0 : Nat}  {rr : Bool × zf} (hF : ziX q0 = some rr) :
  Ctr Tryz.prog 85 #[.pointer (some ⟨bm0, 0, none⟩)] τ [zy bm0 q0.Kind.toNat q0.Op.toNat q0.R q0.S q0.T q0.N q0.M] (fun v τ' vs' => v = .bool rr.1 ∧ vs' = [zy bm0 rr.2.Kind.toNat rr.2.Op.toNat rr.2.R rr.2.S rr.2.T rr.2.N rr.2.M]) := by
 refine zu (args := [.pointer (some ⟨bm0, 0, none⟩)]) hm Tryz.func85 s85 rfl fun w0 σ hO Q hQ => ?_
 unfold ziX at hF
 have hL := Hp.le.refl τ
 show wpn _ _ a85.body _ _ _
 unfold a85
 dsimp only
 refine za hO [] [] [0] zsM fun j => ?_
 refine zc hO 4 [0] [(6, zs2 q0.R)] [0] (And.intro (And.intro rfl rfl) zsN) fun j => ?_
 obtain ⟨c2, h3, hF⟩ := zs8 hF
 refine zo hO (ziN h3) rfl fun _ σ _ _ hO h4 h5 => ?_
 have hL := hL.trans h4
 obtain ⟨rfl, rfl⟩ := h5
 have hO := zs71 hO
 refine za hO [] [(2, .bool c2)] [0] zsN fun j => ?_
 refine zq ?_
 cases hF
 exact hQ _ _ _ _ _ rfl hO hL ⟨rfl, rfl⟩
theorem zrn {τ : Hp} {q0 : zf} {bm0 : Nat}  {rr : Int × zf} (hF : ziT q0 = some rr) :
  Ctr Tryz.prog 87 #[.pointer (some ⟨bm0, 0, none⟩)] τ [zy bm0 q0.Kind.toNat q0.Op.toNat q0.R q0.S q0.T q0.N q0.M] (fun v τ' vs' => v = .int .u8 rr.1 ∧ vs' = [zy bm0 rr.2.Kind.toNat rr.2.Op.toNat rr.2.R rr.2.S rr.2.T rr.2.N rr.2.M]) := by
 refine zu (args := [.pointer (some ⟨bm0, 0, none⟩)]) hm Tryz.func87 s87 rfl fun w0 σ hO Q hQ => ?_
 unfold ziT at hF
 have hL := Hp.le.refl τ
 show wpn _ _ a87.body _ _ _
 unfold a87
 dsimp only
 refine za hO [] [] [0] zsM fun j => ?_
 refine za hO [0] [(2, .int .u8 (IntKind.u8.wrap q0.R))] [0] (And.intro (And.intro rfl rfl) zsN) fun j => ?_
 refine zq ?_
 cases hF
 exact hQ _ _ _ _ _ rfl hO hL ⟨rfl, rfl⟩
theorem zpy {τ : Hp} {q0 : zf} {bm0 : Nat} {p1 : Int}  {rr : zf} (hF : zgI q0 p1 = some rr) :
  Ctr Tryz.prog 88 #[.pointer (some ⟨bm0, 0, none⟩), .int .u8 p1] τ [zy bm0 q0.Kind.toNat q0.Op.toNat q0.R q0.S q0.T q0.N q0.M] (fun v τ' vs' => v = .tuple #[] ∧ vs' = [zy bm0 rr.Kind.toNat rr.Op.toNat rr.R rr.S rr.T rr.N rr.M]) := by
 refine zh0 (args := [.pointer (some ⟨bm0, 0, none⟩), .int .u8 p1]) hm Tryz.func88 s88 rfl fun w0 σ hO Q hQ => ?_
 unfold zgI at hF
 have hL := Hp.le.refl τ
 show wpn _ _ a88.body _ _ _
 unfold a88
 dsimp only
 refine zV (zc hO 5 [] [(6, zs2 (IntKind.i64.wrap p1)), (8, .pointer (some ⟨bm0, 2, none⟩))] [0] zsO fun j => ?_)
 refine zH hO (i := 0) rfl (off := 2) rfl rfl rfl rfl (Nat.le_of_ble_eq_true rfl) rfl fun σ hO => ?_
 have hO := zs71 hO
 refine ze (zg ?_)
 cases hF
 exact (hQ _ _ _ _ _ rfl hO hL ⟨rfl, rfl⟩).2
theorem zsh {τ : Hp}   {rr : zA} (hF : zku  = some rr) :
  Ctr Tryz.prog 84 #[.func (.func 85) #[] #[], .func (.func 87) #[] #[], .func (.func 88) #[] #[]] τ [] (fun v τ' vs' => ∃ (f0_0 : Fn) (a0_0 c0_0 : Array Value) (f0_1 : Fn) (a0_1 c0_1 : Array Value) (f0_2 : Fn) (a0_2 c0_2 : Array Value), v = .agg #[.func f0_0 a0_0 c0_0, .func f0_1 a0_1 c0_1, .func f0_2 a0_2 c0_2] ∧ vs' = [] ∧ zbX τ' rr (.func f0_0 a0_0 c0_0) (.func f0_1 a0_1 c0_1) (.func f0_2 a0_2 c0_2)) := by
 refine zu (args := [.func (.func 85) #[] #[], .func (.func 87) #[] #[], .func (.func 88) #[] #[]]) hm Tryz.func84 s84 rfl fun w0 σ hO Q hQ => ?_
 unfold zku at hF
 have hL := Hp.le.refl τ
 show wpn _ _ a84.body _ _ _
 unfold a84
 dsimp only
 refine zbq (n := 1) hO rfl rfl fun b4 σ hO => ?_
 have hO := zs71 hO
 refine zbq (n := 1) hO rfl rfl fun b5 σ hO => ?_
 have hO := zs72 hO
 refine zbE hO fun b6 σ hO => ?_
 have hO := zs73 hO
 refine ze (zc hO 4 [] [(10, .agg #[(.func (.func 85) #[] #[]), (.func (.func 117) #[] #[(.pointer (some ⟨b4, 0, none⟩))]), (.func (.func 118) #[] #[(.pointer (some ⟨b5, 0, none⟩))])])] [6] zsN fun j => ?_)
 refine zH hO (i := 2) rfl (off := 0) rfl rfl rfl rfl (Nat.le_of_ble_eq_true rfl) rfl fun σ hO => ?_
 have hO := zs73 hO
 refine ze (zq ?_)
 obtain ⟨_, h8, m7, hO⟩ := hO.shareV (i := 0) rfl
 have hL := hL.trans h8
 have hO := zs73 hO
 obtain ⟨_, h10, m9, hO⟩ := hO.shareV (i := 1) rfl
 have hL := hL.trans h10
 have m7 := m7.le h10
 have hO := zs73 hO
 cases hF
 have hV0 := hO.val (i := 2) rfl (off := 0) (agg := true) (n := 3) rfl
 have hO := hO.sel []
 exact hQ _ _ _ _ _ (zbH rfl (hV0) rfl) hO hL ⟨_, _, _, _, _, _, _, _, _, rfl, rfl, ⟨(⟨b4, 0, none⟩ : Addr), (⟨b5, 0, none⟩ : Addr), rfl, rfl, rfl, m7, m9⟩⟩
theorem zkC {τ : Hp}   {rr : zA} (hF : zhB  = some rr) :
  Ctr Tryz.prog 74 #[] τ [] (fun v τ' vs' => ∃ (f0_0 : Fn) (a0_0 c0_0 : Array Value) (f0_1 : Fn) (a0_1 c0_1 : Array Value) (f0_2 : Fn) (a0_2 c0_2 : Array Value), v = .agg #[.func f0_0 a0_0 c0_0, .func f0_1 a0_1 c0_1, .func f0_2 a0_2 c0_2] ∧ vs' = [] ∧ zbX τ' rr (.func f0_0 a0_0 c0_0) (.func f0_1 a0_1 c0_1) (.func f0_2 a0_2 c0_2)) := by
 refine zu (args := []) hm Tryz.func74 s74 rfl fun w0 σ hO Q hQ => ?_
 unfold zhB at hF
 have hL := Hp.le.refl τ
 show wpn _ _ a74.body _ _ _
 unfold a74
 dsimp only
 refine zbE hO fun b1 σ hO => ?_
 have hO := zs71 hO
 refine ze ?_
 obtain ⟨c2, h3, hF⟩ := zs8 hF
 refine zo hO (zsh h3) rfl fun _ σ _ _ hO h4 h5 => ?_
 have hL := hL.trans h4
 obtain ⟨f7, a8, c9, f10, a11, c12, f13, a14, c15, rfl, rfl, r6⟩ := h5
 have hO := zs71 hO
 refine zH hO (i := 0) rfl (off := 0) rfl rfl rfl rfl (Nat.le_of_ble_eq_true rfl) rfl fun σ hO => ?_
 have hO := zs71 hO
 refine ze (zq ?_)
 cases hF
 have hV0 := hO.val (i := 0) rfl (off := 0) (agg := true) (n := 3) rfl
 have hO := hO.sel []
 exact hQ _ _ _ _ _ (zbH rfl (hV0) rfl) hO hL ⟨_, _, _, _, _, _, _, _, _, rfl, rfl, r6⟩
theorem zlR {τ : Hp} {v0 : Value} {p0 : (List UInt8)} {p1 : Int} (r0 : RdT Ty.u8 τ v0 p0) {rr : (List UInt8)} (hF : zfZ p0 p1 = some rr) :
  Ctr Tryz.prog 90 #[v0, .int .i64 p1] τ [] (fun v τ' vs' => ∃ (v0 : Value) (o0 : Ob), v = v0 ∧ vs' = [o0] ∧ zd Ty.u8 5 τ' v0 rr o0) := by
 obtain ⟨A0, c0, rfl, -⟩ := r0.form
 refine zu (args := [.slice A0 p0.length c0, .int .i64 p1]) hm Tryz.func90 s90 rfl fun w0 σ hO Q hQ => ?_
 unfold zfZ at hF
 have hL := Hp.le.refl τ
 show wpn _ _ a90.body _ _ _
 unfold a90
 dsimp only
 refine za hO [] [] [0, 1] zsN fun j => ?_
 refine zc hO 1 [] [(6, zs9 A0 p0 c0)] [1] zsN fun j => ?_
 obtain ⟨c3, h4, hF⟩ := zs8 hF
 refine zo hO (zgN (r0.le hL) h4) rfl fun _ σ _ _ hO h5 h6 => ?_
 have hL := hL.trans h5
 obtain ⟨v7, o10, rfl, rfl, w11⟩ := h6
 obtain ⟨A8, c9, rfl, -⟩ := w11.form
 have hO := zs71 hO
 refine za hO [] [(5, zs9 A8 c3 c9)] [1] zsN fun j => ?_
 refine zW (zbG (fun (n : Nat) e' σ' => ∃ (x30 : Int) (A31 : Option Addr) (c32 : Nat) (o33 : Ob) (x34 : List UInt8) (τ' : Hp), agr [(1, zs2 x30), (5, zs9 A31 x34 c32)] e' ∧ Obs τ' σ' [o33] ∧ Hp.le τ τ' ∧ zd Ty.u8 5 τ' (zs9 A31 x34 c32) x34 o33 ∧ zgZ  n x30 x34 = some rr) big ⟨p1, A8, c9, o10, c3, _, zs1 zsM, hO, hL, w11, hF⟩ ?_)
 clear hF hO hL
 rintro n49 e σ ⟨x30, A31, c32, o33, x34, _, hA, hO, hL, w35, hF⟩
 rw [← zD _ _ hA]
 cases n49 with
 | zero => exact nomatch (show none = some rr from hF)
 | succ n49 =>
 replace hF : zhm (zgZ  n49) x30 x34 = some rr := hF
 unfold zhm at hF
 refine zb (za hO [] [(13, .bool ((decide (x30 > 63)) || (decide (x30 < (-64)))))] [1, 5] (And.intro (And.intro rfl rfl) (fun _ => zs1 zsN)) fun j => ?_)
 refine zi hF rfl (fun hF => ?_) fun hF => ?_
 ·refine zl (zcY (zW (zc hO 4 [] [(14, zs9 A31 x34 c32), (17, .int .u8 (orI .u8 (IntKind.u8.wrap x30) 128))] [1] zsO fun j => ?_)))
  obtain ⟨z51, hz51, hF⟩ := zs8 hF
  obtain ⟨_, hr56, hF⟩ := zs8 hF
  refine zb8 (T := Ty.u8) (y := z51) hO w35 (i := 0) rfl rfl (fun _ => rfl) rfl (u8R hz51) rfl hr56 (by decide) fun u _ σ o54 w55 hO => ?_
  obtain ⟨A52, c53, rfl, -⟩ := w55.form
  have hO := zs71 hO
  refine za hO [] [(5, zs9 A52 (x34 ++ [z51]) c53)] [1] zsN fun j => ?_
  refine zV (za hO [] [(1, zs2 (zcj .i64 x30 7))] [5] zsN fun j => ?_)
  refine zg (zF (zk (zg (zk ?_))))
  exact ⟨n49, Nat.lt_succ_self _, (zcj .i64 x30 7), A52, c53, o54, (x34 ++ [z51]), _, zs1 zsM, hO, hL, w55, hF⟩
 refine zbl (zbw (zbD (zk (zZ hO 4 [] [(22, zs9 A31 x34 c32), (25, .int .u8 (zcz .u8 (IntKind.u8.wrap x30) 127))] zsN fun j => ?_))))
 obtain ⟨z57, hz57, hF⟩ := zs8 hF
 obtain ⟨_, hr62, hF⟩ := zs8 hF
 refine zb8 (T := Ty.u8) (y := z57) hO w35 (i := 0) rfl rfl (fun _ => rfl) rfl (u8R hz57) rfl hr62 (by decide) fun u _ σ o60 w61 hO => ?_
 obtain ⟨A58, c59, rfl, -⟩ := w61.form
 have hO := zs71 hO
 refine zj hO [] [(4, zs9 A58 (x34 ++ [z57]) c59)] zsM fun j => ?_
 refine zq ?_
 cases hF
 exact hQ _ _ _ _ _ rfl hO hL ⟨_, _, rfl, rfl, w61⟩
theorem zmS {τ : Hp} {v0 : Value} {p0 : (List UInt8)} (r0 : RdT Ty.u8 τ v0 p0) {rr : Int × Int} (hF : zgz p0 = some rr) :
  Ctr Tryz.prog 126 #[v0] τ [] (fun v τ' vs' => v = .tuple #[.int .u64 rr.1, .int .i64 rr.2] ∧ vs' = []) := by
 obtain ⟨A0, c0, rfl, -⟩ := r0.form
 refine zu (args := [.slice A0 p0.length c0]) hm Tryz.func126 zrp rfl fun w0 σ hO Q hQ => ?_
 unfold zgz at hF
 have hL := Hp.le.refl τ
 show wpn _ _ zle.body _ _ _
 unfold zle
 dsimp only
 refine za hO [] [(2, .int .u64 0)] [0] zsN fun j => ?_
 refine zb (za hO [] [(7, zs2 (zdG (p0.length : Int) 10)), (8, zs2 0)] [0, 2] zsP fun j => ?_)
 refine zW (zbG (fun (n : Nat) e' σ' => ∃ (x16 x17 : Int) (τ' : Hp), agr [(0, zs9 A0 p0 c0), (2, .int .u64 x16), (7, zs2 (zdG (p0.length : Int) 10)), (8, zs2 x17)] e' ∧ Obs τ' σ' [] ∧ Hp.le τ τ' ∧ zgm p0 n x16 x17 = some rr) big ⟨0, 0, _, zs1 zsO, hO, hL, hF⟩ ?_)
 clear hF hO hL
 rintro n32 e σ ⟨x16, x17, _, hA, hO, hL, hF⟩
 rw [← zD _ _ hA]
 cases n32 with
 | zero => exact nomatch (show none = some rr from hF)
 | succ n32 =>
 replace hF : zhL (zgm p0 n32) p0 x16 x17 = some rr := hF
 unfold zhL at hF
 refine za hO [] [(9, .bool (decide (x17 < (zdG (p0.length : Int) 10))))] [0, 2, 7, 8] zsQ fun j => ?_
 refine zi hF rfl (fun hF => ?_) fun hF => ?_
 ·refine zl (zW (za hO [] [(4, zs2 x17)] [0, 2, 7, 8] zsQ fun j => ?_))
  refine zc hO 3 [] [(11, .int .u64 x16), (12, zs9 A0 p0 c0), (13, zs2 x17)] [0, 4, 7, 8] zsS fun j => ?_
  obtain ⟨y34, g35, hF⟩ := zs8 hF
  refine zbJ (T := Ty.u8) (r0.le hL) hO.base rfl rfl g35 (by decide) fun a36 _ k37 m38 => ?_
  obtain rfl : _ = ([.int .u8 y34.toNat] : List Value) := k37
  refine zL rfl (m38.le hO.base).fst ?_
  refine zc hO 4 [] [(17, .int .u64 (IntKind.u64.wrap (zcz .u8 (y34.toNat : Int) 127))), (19, zs2 (IntKind.i64.wrap (7 * x17)))] [0, 4, 7, 8, 11] zsS fun j => ?_
  obtain ⟨y39, g40, hF⟩ := zs8 hF
  refine zc7 (zfy g40) ?_
  refine za hO [] [(2, .int .u64 (orI .u64 x16 y39))] [0, 4, 7, 8] zsQ fun j => ?_
  refine zc hO 2 [] [(22, zs9 A0 p0 c0), (23, zs2 x17)] [0, 2, 4, 7, 8] zsS fun j => ?_
  obtain ⟨y41, g42, hF⟩ := zs8 hF
  refine zbJ (T := Ty.u8) (r0.le hL) hO.base rfl rfl g42 (by decide) fun a43 _ k44 m45 => ?_
  obtain rfl : _ = ([.int .u8 y41.toNat] : List Value) := k44
  refine zL rfl (m45.le hO.base).fst ?_
  refine za hO [] [(26, .bool (decide ((y41.toNat : Int) < 128)))] [0, 2, 4, 7, 8] zsR fun j => ?_
  refine z5 (zi hF rfl (fun hF => ?_) fun hF => ?_)
  ·refine zb (zj hO [] [(2, .int .u64 (orI .u64 x16 y39)), (3, zs2 (IntKind.i64.wrap (x17 + 1)))] zsN fun j => ?_)
   refine zp (zJ (zB (zB (zJ (zB ?_)))))
   cases hF
   exact hQ _ _ _ _ _ rfl hO hL ⟨rfl, rfl⟩
  refine zl (zg (zF (zk (zV (za hO [] [(8, zs2 (IntKind.i64.wrap (x17 + 1)))] [0, 2, 7] zsP fun j => ?_)))))
  refine zg (zk ?_)
  exact ⟨n32, Nat.lt_succ_self _, (orI .u64 x16 y39), (IntKind.i64.wrap (x17 + 1)), _, zs1 zsO, hO, hL, hF⟩
 refine zbl (zbw (zbD (zk (zj hO [] [(2, .int .u64 0), (3, zs2 0)] zsN fun j => ?_))))
 refine zq ?_
 cases hF
 exact hQ _ _ _ _ _ rfl hO hL ⟨rfl, rfl⟩
theorem znU {τ : Hp} {v0 : Value} {p0 : (List UInt8)} {v1 : Value} {p1 : (List UInt8)} (r0 : RdT Ty.u8 τ v0 p0) (r1 : RdT Ty.u8 τ v1 p1) {rr : Bool} (hF : zfW p0 p1 = some rr) :
  Ctr Tryz.prog 127 #[v0, v1] τ [] (fun v τ' vs' => v = .bool rr ∧ vs' = []) := by
 obtain ⟨A0, c0, rfl, -⟩ := r0.form
 obtain ⟨A1, c1, rfl, -⟩ := r1.form
 refine zu (args := [.slice A0 p0.length c0, .slice A1 p1.length c1]) hm Tryz.func127 zn6 rfl fun w0 σ hO Q hQ => ?_
 unfold zfW at hF
 have hL := Hp.le.refl τ
 show wpn _ _ zjL.body _ _ _
 unfold zjL
 dsimp only
 refine za hO [] [] [0, 1] zsN fun j => ?_
 refine zb (za hO [] [(10, .bool ((p0.length : Int) != (p1.length : Int)))] [0, 1] zsO fun j => ?_)
 refine zi hF rfl (fun hF => ?_) fun hF => ?_
 ·refine zb (zj hO [] [(4, .bool false)] zsM fun j => ?_)
  refine zp ?_
  cases hF
  exact hQ _ _ _ _ _ rfl hO hL ⟨rfl, rfl⟩
 refine zl (zb (za hO [] [(12, zs2 (p0.length : Int)), (13, zs2 0)] [0, 1] zsP fun j => ?_))
 refine zW (zbG (fun (n : Nat) e' σ' => ∃ (x16 : Int) (τ' : Hp), agr [(0, zs9 A0 p0 c0), (1, zs9 A1 p1 c1), (12, zs2 (p0.length : Int)), (13, zs2 x16)] e' ∧ Obs τ' σ' [] ∧ Hp.le τ τ' ∧ zg9 p0 p1 n x16 = some rr) big ⟨0, _, zs1 zsO, hO, hL, hF⟩ ?_)
 clear hF hO hL
 rintro n29 e σ ⟨x16, _, hA, hO, hL, hF⟩
 rw [← zD _ _ hA]
 cases n29 with
 | zero => exact nomatch (show none = some rr from hF)
 | succ n29 =>
 replace hF : zgW (zg9 p0 p1 n29) p0 p1 x16 = some rr := hF
 unfold zgW at hF
 refine za hO [] [(14, .bool (decide (x16 < (p0.length : Int))))] [0, 1, 12, 13] zsQ fun j => ?_
 refine zi hF rfl (fun hF => ?_) fun hF => ?_
 ·refine zl (zW (za hO [] [(5, zs2 x16)] [0, 1, 12, 13] zsQ fun j => ?_))
  refine z8 (zc hO 2 [] [(16, zs9 A0 p0 c0), (17, zs2 x16)] [0, 1, 5, 12, 13] zsS fun j => ?_)
  obtain ⟨y31, g32, hF⟩ := zs8 hF
  refine zbJ (T := Ty.u8) (r0.le hL) hO.base rfl rfl g32 (by decide) fun a33 _ k34 m35 => ?_
  obtain rfl : _ = ([.int .u8 y31.toNat] : List Value) := k34
  refine zL rfl (m35.le hO.base).fst ?_
  refine zc hO 2 [] [(20, zs9 A1 p1 c1), (21, zs2 x16)] [0, 1, 12, 13, 19] zsS fun j => ?_
  obtain ⟨y36, g37, hF⟩ := zs8 hF
  refine zbJ (T := Ty.u8) (r1.le hL) hO.base rfl rfl g37 (by decide) fun a38 _ k39 m40 => ?_
  obtain rfl : _ = ([.int .u8 y36.toNat] : List Value) := k39
  refine zL rfl (m40.le hO.base).fst ?_
  refine za hO [] [(24, .bool ((y31.toNat : Int) != (y36.toNat : Int)))] [0, 1, 12, 13] zsQ fun j => ?_
  refine z5 (zi hF rfl (fun hF => ?_) fun hF => ?_)
  ·refine zb (zj hO [] [(4, .bool false)] zsM fun j => ?_)
   refine zp (zJ (zB (zB (zJ (zB ?_)))))
   cases hF
   exact hQ _ _ _ _ _ rfl hO hL ⟨rfl, rfl⟩
  refine zl (zg (zF (zk (zV (za hO [] [(13, zs2 (IntKind.i64.wrap (x16 + 1)))] [0, 1, 12] zsP fun j => ?_)))))
  refine zg (zk ?_)
  exact ⟨n29, Nat.lt_succ_self _, (IntKind.i64.wrap (x16 + 1)), _, zs1 zsO, hO, hL, hF⟩
 refine zbl (zbw (zbD (zk (zj hO [] [(4, .bool true)] zsM fun j => ?_))))
 refine zq ?_
 cases hF
 exact hQ _ _ _ _ _ rfl hO hL ⟨rfl, rfl⟩
theorem zrE {τ : Hp} {p0 p1 : Int}  {rr : Int} (hF : zgJ p0 p1 = some rr) :
  Ctr Tryz.prog 121 #[.int .u64 p0, .int .i64 p1] τ [] (fun v τ' vs' => v = .int .i64 rr ∧ vs' = []) := by
 refine zu (args := [.int .u64 p0, .int .i64 p1]) hm Tryz.func121 zp0 rfl fun w0 σ hO Q hQ => ?_
 unfold zgJ at hF
 have hL := Hp.le.refl τ
 show wpn _ _ zkH.body _ _ _
 unfold zkH
 dsimp only
 refine za hO [] [] [0, 1] zsN fun j => ?_
 refine za hO [] [(5, zs2 (zdy 0 (IntKind.i64.wrap (64 - (IntKind.i64.wrap (7 * p1))))))] [0] zsN fun j => ?_
 refine zc hO 2 [] [(10, .int .u64 p0), (11, zs2 (zdy 0 (IntKind.i64.wrap (64 - (IntKind.i64.wrap (7 * p1))))))] [5] zsO fun j => ?_
 obtain ⟨y3, g4, hF⟩ := zs8 hF
 refine zc7 (zfy g4) ?_
 refine zZ hO 2 [] [(13, zs2 (IntKind.i64.wrap y3)), (14, zs2 (zdy 0 (IntKind.i64.wrap (64 - (IntKind.i64.wrap (7 * p1))))))] zsN fun j => ?_
 obtain ⟨y5, g6, hF⟩ := zs8 hF
 refine zc7 (znl g6) ?_
 refine zj hO [] [(4, zs2 y5)] zsM fun j => ?_
 refine zq ?_
 cases hF
 exact hQ _ _ _ _ _ rfl hO hL ⟨rfl, rfl⟩
theorem zry {τ : Hp} {v0 : Value} {p0 : (List UInt8)} {p1 : Int} (r0 : RdT Ty.u8 τ v0 p0) {rr : Int × Int × Int} (hF : ziH p0 p1 = some rr) :
  Ctr Tryz.prog 120 #[v0, .int .i64 p1, .func (.func 121) #[] #[], .func (.func 90) #[] #[]] τ [] (fun v τ' vs' => v = .tuple #[.int .i64 rr.1, .int .i64 rr.2.1, .int .i64 rr.2.2] ∧ vs' = []) := by
 obtain ⟨A0, c0, rfl, -⟩ := r0.form
 refine zu (args := [.slice A0 p0.length c0, .int .i64 p1, .func (.func 121) #[] #[], .func (.func 90) #[] #[]]) hm Tryz.func120 zpv rfl fun w0 σ hO Q hQ => ?_
 unfold ziH at hF
 have hL := Hp.le.refl τ
 show wpn _ _ zjV.body _ _ _
 unfold zjV
 dsimp only
 refine za hO [] [] [0, 1, 2, 3] zsP fun j => ?_
 refine zb (za hO [] [(21, .bool ((decide (p1 < 0)) || (decide (p1 > (p0.length : Int)))))] [0, 1, 2, 3] (And.intro (And.intro rfl rfl) (fun _ => zs1 zsP)) fun j => ?_)
 refine zi hF rfl (fun hF => ?_) fun hF => ?_
 ·refine zb (zj hO [] [(8, zs2 0), (9, zs2 0), (10, zs2 1)] zsO fun j => ?_)
  refine zp ?_
  cases hF
  exact hQ _ _ _ _ _ rfl hO hL ⟨rfl, rfl⟩
 refine zl (zc hO 2 [] [(23, zs9 A0 p0 c0), (24, zs2 p1)] [0, 1, 2, 3] zsR fun j => ?_)
 obtain ⟨y6, g7, hF⟩ := zs8 hF
 refine zdB (T := Ty.u8) (r0.le hL) rfl rfl rfl g7 fun _ r8 => ?_
 obtain ⟨A9, c10, rfl, -⟩ := r8.form
 obtain ⟨c11, h12, hF⟩ := zs8 hF
 refine zo hO (zmS r8 h12) rfl fun _ σ _ _ hO h13 h14 => ?_
 have hL := hL.trans h13
 have r8 := r8.le h13
 obtain ⟨rfl, rfl⟩ := h14
 have hO : Obs _ _ [] := hO
 refine za hO [] [(11, .int .u64 c11.1), (12, zs2 c11.2)] [0, 1, 2, 3] zsR fun j => ?_
 refine zc hO 3 [] [(29, .func (.func 121) #[] #[]), (30, .int .u64 c11.1), (31, zs2 c11.2)] [0, 1, 3, 12] zsS fun j => ?_
 obtain ⟨c15, h16, hF⟩ := zs8 hF
 refine zim rfl (by kernel_rfl) hO (zrE h16) rfl fun _ σ _ _ hO h17 h18 => ?_
 have hL := hL.trans h17
 obtain ⟨rfl, rfl⟩ := h18
 have hO : Obs _ _ [] := hO
 refine za hO [] [(13, zs2 c15)] [0, 1, 3, 12] zsQ fun j => ?_
 refine zb (z8 (zc hO 3 [] [(35, .bool (c11.2 == 0))] [0, 1, 3, 12, 13] zsR fun j => ?_))
 obtain ⟨c19, h20, hF⟩ := zs8 hF
 refine zbN 2 (fun e' σ' => ∃ (τ' : Hp), agr [(47, .bool c19), (1, zs2 p1), (12, zs2 c11.2), (13, zs2 c15)] e' ∧ Obs τ' σ' [] ∧ Hp.le τ τ') ?_ ?_
 ·have hF := h20
  rcases z1 hF with ⟨hb21, hF⟩ | ⟨hb21, hF⟩
  ·refine zP (zs5 hb21) ?_
   refine zw (zs4 hb21) ?_
   refine ze ?_
   cases hF
   refine zg ?_
   exact ⟨rfl, _, zs1 zsO, hO, hL⟩
  refine zK (zs5 hb21) ?_
  refine zc hO 7 [] [(36, .func (.func 90) #[] #[]), (37, zs2 c15), (39, zs9 A0 p0 c0), (40, zs2 p1), (43, zs2 (IntKind.i64.wrap (p1 + c11.2)))] [1, 12, 13, 35] zsU fun j => ?_
  obtain ⟨y22, g23, hF⟩ := zs8 hF
  refine zdB (T := Ty.u8) (r0.le hL) rfl rfl rfl g23 fun _ r24 => ?_
  obtain ⟨A25, c26, rfl, -⟩ := r24.form
  obtain ⟨c27, h28, hF⟩ := zs8 hF
  refine zim rfl (by kernel_rfl) hO (zlR (RdT.nil Ty.u8 _) h28) rfl fun _ σ _ _ hO h29 h30 => ?_
  have hL := hL.trans h29
  have r24 := r24.le h29
  obtain ⟨v31, o34, rfl, rfl, w35⟩ := h30
  obtain ⟨A32, c33, rfl, -⟩ := w35.form
  have hO := zs71 hO
  obtain ⟨_, h37, r36, hO⟩ := w35.share hO (i := 0) rfl
  have hL := hL.trans h37
  have r24 := r24.le h37
  have hO := zs71 hO
  obtain ⟨c38, h39, hF⟩ := zs8 hF
  refine zo hO (znU r36 r24 h39) rfl fun _ σ _ _ hO h40 h41 => ?_
  have hL := hL.trans h40
  have r36 := r36.le h40
  have r24 := r24.le h40
  obtain ⟨rfl, rfl⟩ := h41
  have hO := zs71 hO
  refine zZ hO 1 [] [(1, zs2 p1), (12, zs2 c11.2), (13, zs2 c15), (35, .bool (c11.2 == 0)), (46, .bool (!c38))] zsQ fun j => ?_
  refine zw (zs4 hb21) ?_
  refine ze ?_
  cases hF
  refine zg ?_
  have hO := hO.sel []
  exact ⟨rfl, _, zs1 zsO, hO, hL⟩
 rintro e σ ⟨_, hA, hO, hL⟩
 rw [← zD _ _ hA]
 refine ze (zi hF rfl (fun hF => ?_) fun hF => ?_)
 ·refine zb (zj hO [] [(8, zs2 0), (9, zs2 0), (10, zs2 5)] zsO fun j => ?_)
  refine zp ?_
  cases hF
  exact hQ _ _ _ _ _ rfl hO hL ⟨rfl, rfl⟩
 refine zl (zj hO [] [(8, zs2 c15), (9, zs2 (IntKind.i64.wrap (p1 + c11.2))), (10, zs2 0)] zsO fun j => ?_)
 refine zq ?_
 cases hF
 exact hQ _ _ _ _ _ rfl hO hL ⟨rfl, rfl⟩
theorem zqn {τ : Hp} {v0 : Value} {p0 : (List UInt8)} {p1 : Int} (r0 : RdT Ty.u8 τ v0 p0) {rr : Int × Int × Int} (hF : zhG p0 p1 = some rr) :
  Ctr Tryz.prog 92 #[v0, .int .i64 p1] τ [] (fun v τ' vs' => v = .tuple #[.int .i64 rr.1, .int .i64 rr.2.1, .int .i64 rr.2.2] ∧ vs' = []) := by
 obtain ⟨A0, c0, rfl, -⟩ := r0.form
 refine zu (args := [.slice A0 p0.length c0, .int .i64 p1]) hm Tryz.func92 s92 rfl fun w0 σ hO Q hQ => ?_
 unfold zhG at hF
 have hL := Hp.le.refl τ
 show wpn _ _ a92.body _ _ _
 unfold a92
 dsimp only
 refine za hO [] [] [0, 1] zsN fun j => ?_
 refine zZ hO 2 [] [(7, zs9 A0 p0 c0), (8, zs2 p1)] zsN fun j => ?_
 obtain ⟨c3, h4, hF⟩ := zs8 hF
 refine zo hO (zry (r0.le hL) h4) rfl fun _ σ _ _ hO h5 h6 => ?_
 have hL := hL.trans h5
 obtain ⟨rfl, rfl⟩ := h6
 have hO : Obs _ _ [] := hO
 refine zj hO [] [(4, zs2 c3.1), (5, zs2 c3.2.1), (6, zs2 c3.2.2)] zsO fun j => ?_
 refine zq ?_
 cases hF
 exact hQ _ _ _ _ _ rfl hO hL ⟨rfl, rfl⟩
theorem zlv {τ : Hp} {v0 : Value} {p0 : (List UInt8)} {p1 : Int} {q2 : zf} {bm2 : Nat} (r0 : RdT Ty.u8 τ v0 p0) {rr : Int × Bool × zf} (hF : zek p0 p1 q2 = some rr) :
  Ctr Tryz.prog 91 #[v0, .int .i64 p1, .pointer (some ⟨bm2, 0, none⟩)] τ [zy bm2 q2.Kind.toNat q2.Op.toNat q2.R q2.S q2.T q2.N q2.M] (fun v τ' vs' => v = .tuple #[.int .i64 rr.1, .bool rr.2.1] ∧ vs' = [zy bm2 rr.2.2.Kind.toNat rr.2.2.Op.toNat rr.2.2.R rr.2.2.S rr.2.2.T rr.2.2.N rr.2.2.M]) := by
 obtain ⟨A0, c0, rfl, -⟩ := r0.form
 refine zu (args := [.slice A0 p0.length c0, .int .i64 p1, .pointer (some ⟨bm2, 0, none⟩)]) hm Tryz.func91 s91 rfl fun w0 σ hO Q hQ => ?_
 unfold zek at hF
 have hL := Hp.le.refl τ
 show wpn _ _ a91.body _ _ _
 unfold a91
 dsimp only
 refine za hO [] [] [0, 1, 2] zsO fun j => ?_
 refine zc hO 2 [] [(12, zs9 A0 p0 c0), (13, zs2 p1)] [2] zsO fun j => ?_
 obtain ⟨c4, h5, hF⟩ := zs8 hF
 refine zo hO (zqn (r0.le hL) h5) rfl fun _ σ _ _ hO h6 h7 => ?_
 have hL := hL.trans h6
 obtain ⟨rfl, rfl⟩ := h7
 have hO := zs71 hO
 refine za hO [] [(8, zs2 c4.1), (9, zs2 c4.2.1), (10, zs2 c4.2.2)] [2] zsP fun j => ?_
 refine zc hO 4 [] [(19, zs2 c4.1), (21, .pointer (some ⟨bm2, 5, none⟩))] [2, 9, 10] zsQ fun j => ?_
 refine zH hO (i := 0) rfl (off := 5) rfl rfl rfl rfl (Nat.le_of_ble_eq_true rfl) rfl fun σ hO => ?_
 have hO := zs71 hO
 refine ze (za hO [] [(6, zs2 c4.2.1), (7, .bool (c4.2.2 == 0))] [2] zsO fun j => ?_)
 refine zq ?_
 cases hF
 exact hQ _ _ _ _ _ rfl hO hL ⟨rfl, rfl⟩
theorem zpH {τ : Hp} {q0 : zf} {bm0 : Nat}  {rr : Bool × zf} (hF : zjp q0 = some rr) :
  Ctr Tryz.prog 93 #[.pointer (some ⟨bm0, 0, none⟩)] τ [zy bm0 q0.Kind.toNat q0.Op.toNat q0.R q0.S q0.T q0.N q0.M] (fun v τ' vs' => v = .bool rr.1 ∧ vs' = [zy bm0 rr.2.Kind.toNat rr.2.Op.toNat rr.2.R rr.2.S rr.2.T rr.2.N rr.2.M]) := by
 refine zu (args := [.pointer (some ⟨bm0, 0, none⟩)]) hm Tryz.func93 s93 rfl fun w0 σ hO Q hQ => ?_
 unfold zjp at hF
 have hL := Hp.le.refl τ
 show wpn _ _ a93.body _ _ _
 unfold a93
 dsimp only
 refine za hO [] [] [0] zsM fun j => ?_
 refine zc hO 4 [0] [(6, zs2 q0.R)] [0] (And.intro (And.intro rfl rfl) zsN) fun j => ?_
 obtain ⟨c2, h3, hF⟩ := zs8 hF
 refine zo hO (ziN h3) rfl fun _ σ _ _ hO h4 h5 => ?_
 have hL := hL.trans h4
 obtain ⟨rfl, rfl⟩ := h5
 have hO := zs71 hO
 refine zc hO 1 [] [(8, .bool c2)] [0] zsN fun j => ?_
 obtain ⟨c6, h7, hF⟩ := zs8 hF
 refine zbN 2 (fun e' σ' => ∃ (τ' : Hp), agr [(14, .bool c6), (0, zs3 bm0)] e' ∧ Obs τ' σ' [zy bm0 (q0.Kind.toNat : Int) (q0.Op.toNat : Int) q0.R q0.S q0.T q0.N q0.M] ∧ Hp.le τ τ') ?_ ?_
 ·have hF := h7
  rcases z1 hF with ⟨hb8, hF⟩ | ⟨hb8, hF⟩
  ·refine zK (zs6 hb8) ?_
   refine zc hO 4 [0] [(12, zs2 q0.S)] [0, 8] (And.intro (And.intro rfl rfl) zsO) fun j => ?_
   obtain ⟨c9, h10, hF⟩ := zs8 hF
   refine zo hO (ziN h10) rfl fun _ σ _ _ hO h11 h12 => ?_
   have hL := hL.trans h11
   obtain ⟨rfl, rfl⟩ := h12
   have hO := zs71 hO
   refine zw (zs4 hb8) ?_
   refine ze ?_
   cases hF
   refine zg ?_
   exact ⟨rfl, _, zs1 zsM, hO, hL⟩
  refine zP (zs6 hb8) ?_
  refine zw (zs4 hb8) ?_
  refine ze ?_
  cases hF
  refine zg ?_
  exact ⟨rfl, _, zs1 zsM, hO, hL⟩
 rintro e σ ⟨_, hA, hO, hL⟩
 rw [← zD _ _ hA]
 refine za hO [] [(2, .bool c6)] [0] zsN fun j => ?_
 refine zq ?_
 cases hF
 exact hQ _ _ _ _ _ rfl hO hL ⟨rfl, rfl⟩
theorem zpl {τ : Hp} {p0 p1 : Int}  {rr : Int × Bool} (hF : zhe p0 p1 = some rr) :
  Ctr Tryz.prog 95 #[.int .i64 p0, .int .i64 p1] τ [] (fun v τ' vs' => v = .tuple #[.int .u8 rr.1, .bool rr.2] ∧ vs' = []) := by
 refine zu (args := [.int .i64 p0, .int .i64 p1]) hm Tryz.func95 s95 rfl fun w0 σ hO Q hQ => ?_
 unfold zhe at hF
 have hL := Hp.le.refl τ
 show wpn _ _ a95.body _ _ _
 unfold a95
 dsimp only
 refine za hO [] [] [0, 1] zsN fun j => ?_
 refine zb (za hO [] [(19, .bool ((((decide (p0 < 0)) || (decide (p0 ≥ 16))) || (decide (p1 < 0))) || (decide (p1 ≥ 16))))] [0, 1] (And.intro (And.intro rfl rfl) (fun _ => And.intro (And.intro rfl rfl) (fun _ => And.intro (And.intro rfl rfl) (fun _ => zs1 zsN)))) fun j => ?_)
 refine zi hF rfl (fun hF => ?_) fun hF => ?_
 ·refine zb (zj hO [] [(4, .int .u8 0), (5, .bool false)] zsN fun j => ?_)
  refine zp ?_
  cases hF
  exact hQ _ _ _ _ _ rfl hO hL ⟨rfl, rfl⟩
 refine zl (zj hO [] [(4, .int .u8 (IntKind.u8.wrap (orI .i64 (zct .i64 p0 4) p1))), (5, .bool true)] zsN fun j => ?_)
 refine zq ?_
 cases hF
 exact hQ _ _ _ _ _ rfl hO hL ⟨rfl, rfl⟩
theorem zr3 {τ : Hp} {q0 : zf} {bm0 : Nat}  {rr : Int × zf} (hF : ziv q0 = some rr) :
  Ctr Tryz.prog 94 #[.pointer (some ⟨bm0, 0, none⟩)] τ [zy bm0 q0.Kind.toNat q0.Op.toNat q0.R q0.S q0.T q0.N q0.M] (fun v τ' vs' => v = .int .u8 rr.1 ∧ vs' = [zy bm0 rr.2.Kind.toNat rr.2.Op.toNat rr.2.R rr.2.S rr.2.T rr.2.N rr.2.M]) := by
 refine zu (args := [.pointer (some ⟨bm0, 0, none⟩)]) hm Tryz.func94 s94 rfl fun w0 σ hO Q hQ => ?_
 unfold ziv at hF
 have hL := Hp.le.refl τ
 show wpn _ _ a94.body _ _ _
 unfold a94
 dsimp only
 refine za hO [] [] [0] zsM fun j => ?_
 refine z8 (zc hO 8 [0, 0] [(9, zs2 q0.R), (13, zs2 q0.S)] [0] (And.intro (And.intro rfl rfl) (And.intro (And.intro rfl rfl) zsO)) fun j => ?_)
 obtain ⟨c2, h3, hF⟩ := zs8 hF
 refine zo hO (zpl h3) rfl fun _ σ _ _ hO h4 h5 => ?_
 have hL := hL.trans h4
 obtain ⟨rfl, rfl⟩ := h5
 have hO := zs71 hO
 refine za hO [] [(3, .int .u8 c2.1)] [0] zsN fun j => ?_
 refine za hO [] [(2, .int .u8 c2.1)] [0] zsN fun j => ?_
 refine zq ?_
 cases hF
 exact hQ _ _ _ _ _ rfl hO hL ⟨rfl, rfl⟩
theorem zrL {τ : Hp} {p0 : Int}  {rr : Int × Int} (hF : zhq p0 = some rr) :
  Ctr Tryz.prog 97 #[.int .u8 p0] τ [] (fun v τ' vs' => v = .tuple #[.int .i64 rr.1, .int .i64 rr.2] ∧ vs' = []) := by
 refine zu (args := [.int .u8 p0]) hm Tryz.func97 s97 rfl fun w0 σ hO Q hQ => ?_
 unfold zhq at hF
 have hL := Hp.le.refl τ
 show wpn _ _ a97.body _ _ _
 unfold a97
 dsimp only
 refine za hO [] [] [0] zsM fun j => ?_
 refine zj hO [] [(2, zs2 (IntKind.i64.wrap (zcj .u8 p0 4))), (3, zs2 (IntKind.i64.wrap (zcz .u8 p0 15)))] zsN fun j => ?_
 refine zq ?_
 cases hF
 exact hQ _ _ _ _ _ rfl hO hL ⟨rfl, rfl⟩
theorem zr2 {τ : Hp} {q0 : zf} {bm0 : Nat} {p1 : Int}  {rr : zf} (hF : zhc q0 p1 = some rr) :
  Ctr Tryz.prog 96 #[.pointer (some ⟨bm0, 0, none⟩), .int .u8 p1] τ [zy bm0 q0.Kind.toNat q0.Op.toNat q0.R q0.S q0.T q0.N q0.M] (fun v τ' vs' => v = .tuple #[] ∧ vs' = [zy bm0 rr.Kind.toNat rr.Op.toNat rr.R rr.S rr.T rr.N rr.M]) := by
 refine zh0 (args := [.pointer (some ⟨bm0, 0, none⟩), .int .u8 p1]) hm Tryz.func96 s96 rfl fun w0 σ hO Q hQ => ?_
 unfold zhc at hF
 have hL := Hp.le.refl τ
 show wpn _ _ a96.body _ _ _
 unfold a96
 dsimp only
 refine zV (zc hO 3 [] [(5, zs3 bm0), (6, zs3 bm0), (7, .int .u8 p1)] [0] zsP fun j => ?_)
 obtain ⟨c3, h4, hF⟩ := zs8 hF
 refine zo hO (zrL h4) rfl fun _ σ _ _ hO h5 h6 => ?_
 have hL := hL.trans h5
 obtain ⟨rfl, rfl⟩ := h6
 have hO := zs71 hO
 refine zc hO 5 [] [(9, zs2 c3.1), (10, zs2 c3.2), (12, .pointer (some ⟨bm0, 2, none⟩))] [0, 6] zsQ fun j => ?_
 refine zH hO (i := 0) rfl (off := 2) rfl rfl rfl rfl (Nat.le_of_ble_eq_true rfl) rfl fun σ hO => ?_
 have hO := zs71 hO
 refine zc hO 2 [] [(14, .pointer (some ⟨bm0, 3, none⟩))] [0, 10] zsO fun j => ?_
 refine zH hO (i := 0) rfl (off := 3) rfl rfl rfl rfl (Nat.le_of_ble_eq_true rfl) rfl fun σ hO => ?_
 have hO := zs71 hO
 refine ze (zg ?_)
 cases hF
 exact (hQ _ _ _ _ _ rfl hO hL ⟨rfl, rfl⟩).2
theorem zrN {τ : Hp}   {rr : zA} (hF : zjN  = some rr) :
  Ctr Tryz.prog 84 #[.func (.func 93) #[] #[], .func (.func 94) #[] #[], .func (.func 96) #[] #[]] τ [] (fun v τ' vs' => ∃ (f0_0 : Fn) (a0_0 c0_0 : Array Value) (f0_1 : Fn) (a0_1 c0_1 : Array Value) (f0_2 : Fn) (a0_2 c0_2 : Array Value), v = .agg #[.func f0_0 a0_0 c0_0, .func f0_1 a0_1 c0_1, .func f0_2 a0_2 c0_2] ∧ vs' = [] ∧ zbX τ' rr (.func f0_0 a0_0 c0_0) (.func f0_1 a0_1 c0_1) (.func f0_2 a0_2 c0_2)) := by
 refine zu (args := [.func (.func 93) #[] #[], .func (.func 94) #[] #[], .func (.func 96) #[] #[]]) hm Tryz.func84 s84 rfl fun w0 σ hO Q hQ => ?_
 unfold zjN at hF
 have hL := Hp.le.refl τ
 show wpn _ _ a84.body _ _ _
 unfold a84
 dsimp only
 refine zbq (n := 1) hO rfl rfl fun b4 σ hO => ?_
 have hO := zs71 hO
 refine zbq (n := 1) hO rfl rfl fun b5 σ hO => ?_
 have hO := zs72 hO
 refine zbE hO fun b6 σ hO => ?_
 have hO := zs73 hO
 refine ze (zc hO 4 [] [(10, .agg #[(.func (.func 93) #[] #[]), (.func (.func 117) #[] #[(.pointer (some ⟨b4, 0, none⟩))]), (.func (.func 118) #[] #[(.pointer (some ⟨b5, 0, none⟩))])])] [6] zsN fun j => ?_)
 refine zH hO (i := 2) rfl (off := 0) rfl rfl rfl rfl (Nat.le_of_ble_eq_true rfl) rfl fun σ hO => ?_
 have hO := zs73 hO
 refine ze (zq ?_)
 obtain ⟨_, h8, m7, hO⟩ := hO.shareV (i := 0) rfl
 have hL := hL.trans h8
 have hO := zs73 hO
 obtain ⟨_, h10, m9, hO⟩ := hO.shareV (i := 1) rfl
 have hL := hL.trans h10
 have m7 := m7.le h10
 have hO := zs73 hO
 cases hF
 have hV0 := hO.val (i := 2) rfl (off := 0) (agg := true) (n := 3) rfl
 have hO := hO.sel []
 exact hQ _ _ _ _ _ (zbH rfl (hV0) rfl) hO hL ⟨_, _, _, _, _, _, _, _, _, rfl, rfl, ⟨(⟨b4, 0, none⟩ : Addr), (⟨b5, 0, none⟩ : Addr), rfl, rfl, rfl, m7, m9⟩⟩
theorem zh2 {τ : Hp}   {rr : zA} (hF : zfq  = some rr) :
  Ctr Tryz.prog 76 #[] τ [] (fun v τ' vs' => ∃ (f0_0 : Fn) (a0_0 c0_0 : Array Value) (f0_1 : Fn) (a0_1 c0_1 : Array Value) (f0_2 : Fn) (a0_2 c0_2 : Array Value), v = .agg #[.func f0_0 a0_0 c0_0, .func f0_1 a0_1 c0_1, .func f0_2 a0_2 c0_2] ∧ vs' = [] ∧ zbX τ' rr (.func f0_0 a0_0 c0_0) (.func f0_1 a0_1 c0_1) (.func f0_2 a0_2 c0_2)) := by
 refine zu (args := []) hm Tryz.func76 s76 rfl fun w0 σ hO Q hQ => ?_
 unfold zfq at hF
 have hL := Hp.le.refl τ
 show wpn _ _ a76.body _ _ _
 unfold a76
 dsimp only
 refine zbE hO fun b1 σ hO => ?_
 have hO := zs71 hO
 refine ze ?_
 obtain ⟨c2, h3, hF⟩ := zs8 hF
 refine zo hO (zrN h3) rfl fun _ σ _ _ hO h4 h5 => ?_
 have hL := hL.trans h4
 obtain ⟨f7, a8, c9, f10, a11, c12, f13, a14, c15, rfl, rfl, r6⟩ := h5
 have hO := zs71 hO
 refine zH hO (i := 0) rfl (off := 0) rfl rfl rfl rfl (Nat.le_of_ble_eq_true rfl) rfl fun σ hO => ?_
 have hO := zs71 hO
 refine ze (zq ?_)
 cases hF
 have hV0 := hO.val (i := 0) rfl (off := 0) (agg := true) (n := 3) rfl
 have hO := hO.sel []
 exact hQ _ _ _ _ _ (zbH rfl (hV0) rfl) hO hL ⟨_, _, _, _, _, _, _, _, _, rfl, rfl, r6⟩
theorem zqo {τ : Hp} {q0 : zf} {bm0 : Nat}  {rr : Int × zf} (hF : zjd q0 = some rr) :
  Ctr Tryz.prog 99 #[.pointer (some ⟨bm0, 0, none⟩)] τ [zy bm0 q0.Kind.toNat q0.Op.toNat q0.R q0.S q0.T q0.N q0.M] (fun v τ' vs' => v = .int .u8 rr.1 ∧ vs' = [zy bm0 rr.2.Kind.toNat rr.2.Op.toNat rr.2.R rr.2.S rr.2.T rr.2.N rr.2.M]) := by
 refine zu (args := [.pointer (some ⟨bm0, 0, none⟩)]) hm Tryz.func99 s99 rfl fun w0 σ hO Q hQ => ?_
 unfold zjd at hF
 have hL := Hp.le.refl τ
 show wpn _ _ a99.body _ _ _
 unfold a99
 dsimp only
 refine za hO [] [] [0] zsM fun j => ?_
 refine za hO [0] [(2, .int .u8 (q0.Op.toNat : Int))] [0] (And.intro (And.intro rfl rfl) zsN) fun j => ?_
 refine zq ?_
 cases hF
 exact hQ _ _ _ _ _ rfl hO hL ⟨rfl, rfl⟩
theorem zoV {τ : Hp} {q0 : zf} {bm0 : Nat} {p1 : Int}  {rr : zf} (hF : zhT q0 p1 = some rr) :
  Ctr Tryz.prog 100 #[.pointer (some ⟨bm0, 0, none⟩), .int .u8 p1] τ [zy bm0 q0.Kind.toNat q0.Op.toNat q0.R q0.S q0.T q0.N q0.M] (fun v τ' vs' => v = .tuple #[] ∧ vs' = [zy bm0 rr.Kind.toNat rr.Op.toNat rr.R rr.S rr.T rr.N rr.M]) := by
 refine zh0 (args := [.pointer (some ⟨bm0, 0, none⟩), .int .u8 p1]) hm Tryz.func100 zpN rfl fun w0 σ hO Q hQ => ?_
 unfold zhT at hF
 have hL := Hp.le.refl τ
 show wpn _ _ ziR.body _ _ _
 unfold ziR
 dsimp only
 refine zV (zc hO 4 [] [(5, .int .u8 p1), (7, .pointer (some ⟨bm0, 1, none⟩))] [0] zsO fun j => ?_)
 refine zH hO (i := 0) rfl (off := 1) rfl rfl rfl rfl (Nat.le_of_ble_eq_true rfl) rfl fun σ hO => ?_
 have hO := zs71 hO
 refine ze (zg ?_)
 obtain ⟨z3, hz3, hF⟩ := zs8 hF
 cases hF
 exact (hQ _ _ _ _ _ rfl hO hL ⟨(by first | rfl | (simp only [zcQ hz3]; done) | (simp only [← zcQ hz3]; try rfl)), (by first | rfl | (simp only [zcQ hz3]; done) | (simp only [← zcQ hz3]; try rfl))⟩).2
theorem zp3 {τ : Hp} {q0_0 : Int} {a0_0 : Addr} {q0_1 : Int} {a0_1 : Addr} (m0_0 : At τ a0_0 [.int .u8 q0_0]) (m0_1 : At τ a0_1 [.int .u8 q0_1]) {rr : zA} (hF : zks q0_0 q0_1 = some rr) :
  Ctr Tryz.prog 84 #[.func (.func 98) #[] #[(.pointer (some a0_0)), (.pointer (some a0_1))], .func (.func 99) #[] #[], .func (.func 100) #[] #[]] τ [] (fun v τ' vs' => ∃ (f0_0 : Fn) (a0_0 c0_0 : Array Value) (f0_1 : Fn) (a0_1 c0_1 : Array Value) (f0_2 : Fn) (a0_2 c0_2 : Array Value), v = .agg #[.func f0_0 a0_0 c0_0, .func f0_1 a0_1 c0_1, .func f0_2 a0_2 c0_2] ∧ vs' = [] ∧ zbX τ' rr (.func f0_0 a0_0 c0_0) (.func f0_1 a0_1 c0_1) (.func f0_2 a0_2 c0_2)) := by
 refine zu (args := [.func (.func 98) #[] #[(.pointer (some a0_0)), (.pointer (some a0_1))], .func (.func 99) #[] #[], .func (.func 100) #[] #[]]) hm Tryz.func84 s84 rfl fun w0 σ hO Q hQ => ?_
 unfold zks at hF
 have hL := Hp.le.refl τ
 show wpn _ _ a84.body _ _ _
 unfold a84
 dsimp only
 refine zbq (n := 1) hO rfl rfl fun b4 σ hO => ?_
 have hO := zs71 hO
 refine zbq (n := 1) hO rfl rfl fun b5 σ hO => ?_
 have hO := zs72 hO
 refine zbE hO fun b6 σ hO => ?_
 have hO := zs73 hO
 refine ze (zc hO 4 [] [(10, .agg #[(.func (.func 98) #[] #[(.pointer (some a0_0)), (.pointer (some a0_1))]), (.func (.func 117) #[] #[(.pointer (some ⟨b4, 0, none⟩))]), (.func (.func 118) #[] #[(.pointer (some ⟨b5, 0, none⟩))])])] [6] zsN fun j => ?_)
 refine zH hO (i := 2) rfl (off := 0) rfl rfl rfl rfl (Nat.le_of_ble_eq_true rfl) rfl fun σ hO => ?_
 have hO := zs73 hO
 refine ze (zq ?_)
 obtain ⟨_, h8, m7, hO⟩ := hO.shareV (i := 0) rfl
 have hL := hL.trans h8
 have hO := zs73 hO
 obtain ⟨_, h10, m9, hO⟩ := hO.shareV (i := 1) rfl
 have hL := hL.trans h10
 have m7 := m7.le h10
 have hO := zs73 hO
 cases hF
 have hV0 := hO.val (i := 2) rfl (off := 0) (agg := true) (n := 3) rfl
 have hO := hO.sel []
 exact hQ _ _ _ _ _ (zbH rfl (hV0) rfl) hO hL ⟨_, _, _, _, _, _, _, _, _, rfl, rfl, ⟨a0_0, a0_1, (⟨b4, 0, none⟩ : Addr), (⟨b5, 0, none⟩ : Addr), rfl, rfl, rfl, (m0_0.le hL), (m0_1.le hL), m7, m9⟩⟩
theorem zmg {τ : Hp} {p0 p1 : Int}  {rr : zA} (hF : ziS p0 p1 = some rr) :
  Ctr Tryz.prog 77 #[.int .u8 p0, .int .u8 p1] τ [] (fun v τ' vs' => ∃ (f0_0 : Fn) (a0_0 c0_0 : Array Value) (f0_1 : Fn) (a0_1 c0_1 : Array Value) (f0_2 : Fn) (a0_2 c0_2 : Array Value), v = .agg #[.func f0_0 a0_0 c0_0, .func f0_1 a0_1 c0_1, .func f0_2 a0_2 c0_2] ∧ vs' = [] ∧ zbX τ' rr (.func f0_0 a0_0 c0_0) (.func f0_1 a0_1 c0_1) (.func f0_2 a0_2 c0_2)) := by
 refine zu (args := [.int .u8 p0, .int .u8 p1]) hm Tryz.func77 s77 rfl fun w0 σ hO Q hQ => ?_
 unfold ziS at hF
 have hL := Hp.le.refl τ
 show wpn _ _ a77.body _ _ _
 unfold a77
 dsimp only
 refine zbq (n := 1) hO rfl rfl fun b3 σ hO => ?_
 have hO := zs71 hO
 refine zbq (n := 1) hO rfl rfl fun b4 σ hO => ?_
 have hO := zs72 hO
 refine zbE hO fun b5 σ hO => ?_
 have hO := zs73 hO
 refine ze (zc hO 1 [] [(5, .func (.func 98) #[] #[(.pointer (some ⟨b3, 0, none⟩)), (.pointer (some ⟨b4, 0, none⟩))])] [4] zsN fun j => ?_)
 obtain ⟨_, h7, m6, hO⟩ := hO.shareV (i := 0) rfl
 have hL := hL.trans h7
 have hO := zs73 hO
 obtain ⟨_, h9, m8, hO⟩ := hO.shareV (i := 1) rfl
 have hL := hL.trans h9
 have m6 := m6.le h9
 have hO := zs73 hO
 obtain ⟨c10, h11, hF⟩ := zs8 hF
 refine zo hO (zp3 m6 m8 h11) rfl fun _ σ _ _ hO h12 h13 => ?_
 have hL := hL.trans h12
 have m6 := m6.le h12
 have m8 := m8.le h12
 obtain ⟨f15, a16, c17, f18, a19, c20, f21, a22, c23, rfl, rfl, r14⟩ := h13
 have hO := zs73 hO
 refine zH hO (i := 2) rfl (off := 0) rfl rfl rfl rfl (Nat.le_of_ble_eq_true rfl) rfl fun σ hO => ?_
 have hO := zs73 hO
 refine ze (zq ?_)
 cases hF
 have hV0 := hO.val (i := 2) rfl (off := 0) (agg := true) (n := 3) rfl
 have hO := hO.sel []
 exact hQ _ _ _ _ _ (zbH rfl (hV0) rfl) hO hL ⟨_, _, _, _, _, _, _, _, _, rfl, rfl, r14⟩
theorem zp4 {τ : Hp} {q0 : zf} {bm0 : Nat}  {rr : Bool × zf} (hF : zid q0 = some rr) :
  Ctr Tryz.prog 101 #[.pointer (some ⟨bm0, 0, none⟩)] τ [zy bm0 q0.Kind.toNat q0.Op.toNat q0.R q0.S q0.T q0.N q0.M] (fun v τ' vs' => v = .bool rr.1 ∧ vs' = [zy bm0 rr.2.Kind.toNat rr.2.Op.toNat rr.2.R rr.2.S rr.2.T rr.2.N rr.2.M]) := by
 refine zu (args := [.pointer (some ⟨bm0, 0, none⟩)]) hm Tryz.func101 zqs rfl fun w0 σ hO Q hQ => ?_
 unfold zid at hF
 have hL := Hp.le.refl τ
 show wpn _ _ zii.body _ _ _
 unfold zii
 dsimp only
 refine za hO [] [] [0] zsM fun j => ?_
 refine zc hO 4 [0] [(6, zs2 q0.T)] [0] (And.intro (And.intro rfl rfl) zsN) fun j => ?_
 obtain ⟨c2, h3, hF⟩ := zs8 hF
 refine zo hO (ziN h3) rfl fun _ σ _ _ hO h4 h5 => ?_
 have hL := hL.trans h4
 obtain ⟨rfl, rfl⟩ := h5
 have hO := zs71 hO
 refine za hO [] [(2, .bool c2)] [0] zsN fun j => ?_
 refine zq ?_
 cases hF
 exact hQ _ _ _ _ _ rfl hO hL ⟨rfl, rfl⟩
theorem zrS {τ : Hp} {q0 : zf} {bm0 : Nat}  {rr : Int × zf} (hF : zjF q0 = some rr) :
  Ctr Tryz.prog 102 #[.pointer (some ⟨bm0, 0, none⟩)] τ [zy bm0 q0.Kind.toNat q0.Op.toNat q0.R q0.S q0.T q0.N q0.M] (fun v τ' vs' => v = .int .u8 rr.1 ∧ vs' = [zy bm0 rr.2.Kind.toNat rr.2.Op.toNat rr.2.R rr.2.S rr.2.T rr.2.N rr.2.M]) := by
 refine zu (args := [.pointer (some ⟨bm0, 0, none⟩)]) hm Tryz.func102 zqf rfl fun w0 σ hO Q hQ => ?_
 unfold zjF at hF
 have hL := Hp.le.refl τ
 show wpn _ _ zj1.body _ _ _
 unfold zj1
 dsimp only
 refine za hO [] [] [0] zsM fun j => ?_
 refine za hO [0] [(2, .int .u8 (IntKind.u8.wrap q0.T))] [0] (And.intro (And.intro rfl rfl) zsN) fun j => ?_
 refine zq ?_
 cases hF
 exact hQ _ _ _ _ _ rfl hO hL ⟨rfl, rfl⟩
theorem zoj {τ : Hp} {q0 : zf} {bm0 : Nat} {p1 : Int}  {rr : zf} (hF : zhQ q0 p1 = some rr) :
  Ctr Tryz.prog 103 #[.pointer (some ⟨bm0, 0, none⟩), .int .u8 p1] τ [zy bm0 q0.Kind.toNat q0.Op.toNat q0.R q0.S q0.T q0.N q0.M] (fun v τ' vs' => v = .tuple #[] ∧ vs' = [zy bm0 rr.Kind.toNat rr.Op.toNat rr.R rr.S rr.T rr.N rr.M]) := by
 refine zh0 (args := [.pointer (some ⟨bm0, 0, none⟩), .int .u8 p1]) hm Tryz.func103 zqN rfl fun w0 σ hO Q hQ => ?_
 unfold zhQ at hF
 have hL := Hp.le.refl τ
 show wpn _ _ zk6.body _ _ _
 unfold zk6
 dsimp only
 refine zV (zc hO 5 [] [(6, zs2 (IntKind.i64.wrap p1)), (8, .pointer (some ⟨bm0, 4, none⟩))] [0] zsO fun j => ?_)
 refine zH hO (i := 0) rfl (off := 4) rfl rfl rfl rfl (Nat.le_of_ble_eq_true rfl) rfl fun σ hO => ?_
 have hO := zs71 hO
 refine ze (zg ?_)
 cases hF
 exact (hQ _ _ _ _ _ rfl hO hL ⟨rfl, rfl⟩).2
theorem znZ {τ : Hp}   {rr : zA} (hF : zll  = some rr) :
  Ctr Tryz.prog 84 #[.func (.func 101) #[] #[], .func (.func 102) #[] #[], .func (.func 103) #[] #[]] τ [] (fun v τ' vs' => ∃ (f0_0 : Fn) (a0_0 c0_0 : Array Value) (f0_1 : Fn) (a0_1 c0_1 : Array Value) (f0_2 : Fn) (a0_2 c0_2 : Array Value), v = .agg #[.func f0_0 a0_0 c0_0, .func f0_1 a0_1 c0_1, .func f0_2 a0_2 c0_2] ∧ vs' = [] ∧ zbX τ' rr (.func f0_0 a0_0 c0_0) (.func f0_1 a0_1 c0_1) (.func f0_2 a0_2 c0_2)) := by
 refine zu (args := [.func (.func 101) #[] #[], .func (.func 102) #[] #[], .func (.func 103) #[] #[]]) hm Tryz.func84 s84 rfl fun w0 σ hO Q hQ => ?_
 unfold zll at hF
 have hL := Hp.le.refl τ
 show wpn _ _ a84.body _ _ _
 unfold a84
 dsimp only
 refine zbq (n := 1) hO rfl rfl fun b4 σ hO => ?_
 have hO := zs71 hO
 refine zbq (n := 1) hO rfl rfl fun b5 σ hO => ?_
 have hO := zs72 hO
 refine zbE hO fun b6 σ hO => ?_
 have hO := zs73 hO
 refine ze (zc hO 4 [] [(10, .agg #[(.func (.func 101) #[] #[]), (.func (.func 117) #[] #[(.pointer (some ⟨b4, 0, none⟩))]), (.func (.func 118) #[] #[(.pointer (some ⟨b5, 0, none⟩))])])] [6] zsN fun j => ?_)
 refine zH hO (i := 2) rfl (off := 0) rfl rfl rfl rfl (Nat.le_of_ble_eq_true rfl) rfl fun σ hO => ?_
 have hO := zs73 hO
 refine ze (zq ?_)
 obtain ⟨_, h8, m7, hO⟩ := hO.shareV (i := 0) rfl
 have hL := hL.trans h8
 have hO := zs73 hO
 obtain ⟨_, h10, m9, hO⟩ := hO.shareV (i := 1) rfl
 have hL := hL.trans h10
 have m7 := m7.le h10
 have hO := zs73 hO
 cases hF
 have hV0 := hO.val (i := 2) rfl (off := 0) (agg := true) (n := 3) rfl
 have hO := hO.sel []
 exact hQ _ _ _ _ _ (zbH rfl (hV0) rfl) hO hL ⟨_, _, _, _, _, _, _, _, _, rfl, rfl, ⟨(⟨b4, 0, none⟩ : Addr), (⟨b5, 0, none⟩ : Addr), rfl, rfl, rfl, m7, m9⟩⟩
theorem zlE {τ : Hp}   {rr : zA} (hF : ziF  = some rr) :
  Ctr Tryz.prog 78 #[] τ [] (fun v τ' vs' => ∃ (f0_0 : Fn) (a0_0 c0_0 : Array Value) (f0_1 : Fn) (a0_1 c0_1 : Array Value) (f0_2 : Fn) (a0_2 c0_2 : Array Value), v = .agg #[.func f0_0 a0_0 c0_0, .func f0_1 a0_1 c0_1, .func f0_2 a0_2 c0_2] ∧ vs' = [] ∧ zbX τ' rr (.func f0_0 a0_0 c0_0) (.func f0_1 a0_1 c0_1) (.func f0_2 a0_2 c0_2)) := by
 refine zu (args := []) hm Tryz.func78 s78 rfl fun w0 σ hO Q hQ => ?_
 unfold ziF at hF
 have hL := Hp.le.refl τ
 show wpn _ _ a78.body _ _ _
 unfold a78
 dsimp only
 refine zbE hO fun b1 σ hO => ?_
 have hO := zs71 hO
 refine ze ?_
 obtain ⟨c2, h3, hF⟩ := zs8 hF
 refine zo hO (znZ h3) rfl fun _ σ _ _ hO h4 h5 => ?_
 have hL := hL.trans h4
 obtain ⟨f7, a8, c9, f10, a11, c12, f13, a14, c15, rfl, rfl, r6⟩ := h5
 have hO := zs71 hO
 refine zH hO (i := 0) rfl (off := 0) rfl rfl rfl rfl (Nat.le_of_ble_eq_true rfl) rfl fun σ hO => ?_
 have hO := zs71 hO
 refine ze (zq ?_)
 cases hF
 have hV0 := hO.val (i := 0) rfl (off := 0) (agg := true) (n := 3) rfl
 have hO := hO.sel []
 exact hQ _ _ _ _ _ (zbH rfl (hV0) rfl) hO hL ⟨_, _, _, _, _, _, _, _, _, rfl, rfl, r6⟩
theorem zqj {τ : Hp} {q0 : zf} {bm0 : Nat}  {rr : Bool × zf} (hF : ziL q0 = some rr) :
  Ctr Tryz.prog 79 #[.pointer (some ⟨bm0, 0, none⟩)] τ [zy bm0 q0.Kind.toNat q0.Op.toNat q0.R q0.S q0.T q0.N q0.M] (fun v τ' vs' => v = .bool rr.1 ∧ vs' = [zy bm0 rr.2.Kind.toNat rr.2.Op.toNat rr.2.R rr.2.S rr.2.T rr.2.N rr.2.M]) := by
 refine zu (args := [.pointer (some ⟨bm0, 0, none⟩)]) hm Tryz.func79 s79 rfl fun w0 σ hO Q hQ => ?_
 unfold ziL at hF
 have hL := Hp.le.refl τ
 show wpn _ _ a79.body _ _ _
 unfold a79
 dsimp only
 refine za hO [] [] [0] zsM fun j => ?_
 refine za hO [0, 0] [(2, .bool ((decide (q0.N ≥ (-65536))) && (decide (q0.N ≤ 65536))))] [0] (And.intro (And.intro rfl rfl) (And.intro (And.intro rfl rfl) (And.intro (And.intro rfl rfl) (fun _ => zs1 zsM)))) fun j => ?_
 refine zq ?_
 cases hF
 exact hQ _ _ _ _ _ rfl hO hL ⟨rfl, rfl⟩
theorem zoN {τ : Hp} {q0 : zf} {bm0 : Nat}  {rr : Bool × zf} (hF : zjn q0 = some rr) :
  Ctr Tryz.prog 104 #[.pointer (some ⟨bm0, 0, none⟩)] τ [zy bm0 q0.Kind.toNat q0.Op.toNat q0.R q0.S q0.T q0.N q0.M] (fun v τ' vs' => v = .bool rr.1 ∧ vs' = [zy bm0 rr.2.Kind.toNat rr.2.Op.toNat rr.2.R rr.2.S rr.2.T rr.2.N rr.2.M]) := by
 refine zu (args := [.pointer (some ⟨bm0, 0, none⟩)]) hm Tryz.func104 zrD rfl fun w0 σ hO Q hQ => ?_
 unfold zjn at hF
 have hL := Hp.le.refl τ
 show wpn _ _ zg4.body _ _ _
 unfold zg4
 dsimp only
 refine za hO [] [] [0] zsM fun j => ?_
 refine za hO [0, 0] [(2, .bool ((decide (q0.M ≥ 1)) && (decide (q0.M ≤ 65536))))] [0] (And.intro (And.intro rfl rfl) (And.intro (And.intro rfl rfl) (And.intro (And.intro rfl rfl) (fun _ => zs1 zsM)))) fun j => ?_
 refine zq ?_
 cases hF
 exact hQ _ _ _ _ _ rfl hO hL ⟨rfl, rfl⟩
theorem znB {τ : Hp} {v0 : Value} {p0 : (List UInt8)} {p1 : Int} (r0 : RdT Ty.u8 τ v0 p0) {rr : (List UInt8)} (hF : zfN p0 p1 = some rr) :
  Ctr Tryz.prog 106 #[v0, .int .u64 p1] τ [] (fun v τ' vs' => ∃ (v0 : Value) (o0 : Ob), v = v0 ∧ vs' = [o0] ∧ zd Ty.u8 5 τ' v0 rr o0) := by
 obtain ⟨A0, c0, rfl, -⟩ := r0.form
 refine zu (args := [.slice A0 p0.length c0, .int .u64 p1]) hm Tryz.func106 zn9 rfl fun w0 σ hO Q hQ => ?_
 unfold zfN at hF
 have hL := Hp.le.refl τ
 show wpn _ _ zkV.body _ _ _
 unfold zkV
 dsimp only
 refine za hO [] [] [0, 1] zsN fun j => ?_
 refine zc hO 1 [] [(6, zs9 A0 p0 c0)] [1] zsN fun j => ?_
 obtain ⟨c3, h4, hF⟩ := zs8 hF
 refine zo hO (zgN (r0.le hL) h4) rfl fun _ σ _ _ hO h5 h6 => ?_
 have hL := hL.trans h5
 obtain ⟨v7, o10, rfl, rfl, w11⟩ := h6
 obtain ⟨A8, c9, rfl, -⟩ := w11.form
 have hO := zs71 hO
 refine za hO [] [(5, zs9 A8 c3 c9)] [1] zsN fun j => ?_
 refine zW (zbG (fun (n : Nat) e' σ' => ∃ (x30 : Int) (A31 : Option Addr) (c32 : Nat) (o33 : Ob) (x34 : List UInt8) (τ' : Hp), agr [(1, .int .u64 x30), (5, zs9 A31 x34 c32)] e' ∧ Obs τ' σ' [o33] ∧ Hp.le τ τ' ∧ zd Ty.u8 5 τ' (zs9 A31 x34 c32) x34 o33 ∧ zhf  n x30 x34 = some rr) big ⟨p1, A8, c9, o10, c3, _, zs1 zsM, hO, hL, w11, hF⟩ ?_)
 clear hF hO hL
 rintro n49 e σ ⟨x30, A31, c32, o33, x34, _, hA, hO, hL, w35, hF⟩
 rw [← zD _ _ hA]
 cases n49 with
 | zero => exact nomatch (show none = some rr from hF)
 | succ n49 =>
 replace hF : zhV (zhf  n49) x30 x34 = some rr := hF
 unfold zhV at hF
 refine zb (za hO [] [(9, .bool (decide (x30 > 127)))] [1, 5] zsO fun j => ?_)
 refine zi hF rfl (fun hF => ?_) fun hF => ?_
 ·refine zl (zcY (zW (zc hO 4 [] [(10, zs9 A31 x34 c32), (13, .int .u8 (orI .u8 (IntKind.u8.wrap x30) 128))] [1] zsO fun j => ?_)))
  obtain ⟨z51, hz51, hF⟩ := zs8 hF
  obtain ⟨_, hr56, hF⟩ := zs8 hF
  refine zb8 (T := Ty.u8) (y := z51) hO w35 (i := 0) rfl rfl (fun _ => rfl) rfl (u8R hz51) rfl hr56 (by decide) fun u _ σ o54 w55 hO => ?_
  obtain ⟨A52, c53, rfl, -⟩ := w55.form
  have hO := zs71 hO
  refine za hO [] [(5, zs9 A52 (x34 ++ [z51]) c53)] [1] zsN fun j => ?_
  refine zV (za hO [] [(1, .int .u64 (zcj .u64 x30 7))] [5] zsN fun j => ?_)
  refine zg (zF (zk (zg (zk ?_))))
  exact ⟨n49, Nat.lt_succ_self _, (zcj .u64 x30 7), A52, c53, o54, (x34 ++ [z51]), _, zs1 zsM, hO, hL, w55, hF⟩
 refine zbl (zbw (zbD (zk (zZ hO 3 [] [(18, zs9 A31 x34 c32), (20, .int .u8 (IntKind.u8.wrap x30))] zsN fun j => ?_))))
 obtain ⟨z57, hz57, hF⟩ := zs8 hF
 obtain ⟨_, hr62, hF⟩ := zs8 hF
 refine zb8 (T := Ty.u8) (y := z57) hO w35 (i := 0) rfl rfl (fun _ => rfl) rfl (u8R hz57) rfl hr62 (by decide) fun u _ σ o60 w61 hO => ?_
 obtain ⟨A58, c59, rfl, -⟩ := w61.form
 have hO := zs71 hO
 refine zj hO [] [(4, zs9 A58 (x34 ++ [z57]) c59)] zsM fun j => ?_
 refine zq ?_
 cases hF
 exact hQ _ _ _ _ _ rfl hO hL ⟨_, _, rfl, rfl, w61⟩
theorem zsi {τ : Hp} {p0 p1 : Int}  {rr : Int} (hF : zi5 p0 p1 = some rr) :
  Ctr Tryz.prog 123 #[.int .u64 p0, .int .i64 p1] τ [] (fun v τ' vs' => v = .int .u64 rr ∧ vs' = []) := by
 refine zu (args := [.int .u64 p0, .int .i64 p1]) hm Tryz.func123 zrY rfl fun w0 σ hO Q hQ => ?_
 unfold zi5 at hF
 have hL := Hp.le.refl τ
 show wpn _ _ zkp.body _ _ _
 unfold zkp
 dsimp only
 refine za hO [] [] [0] zsM fun j => ?_
 refine zj hO [] [(4, .int .u64 p0)] zsM fun j => ?_
 refine zq ?_
 cases hF
 exact hQ _ _ _ _ _ rfl hO hL ⟨rfl, rfl⟩
theorem zqa {τ : Hp} {v0 : Value} {p0 : (List UInt8)} {p1 : Int} (r0 : RdT Ty.u8 τ v0 p0) {rr : Int × Int × Int} (hF : zie p0 p1 = some rr) :
  Ctr Tryz.prog 122 #[v0, .int .i64 p1, .func (.func 123) #[] #[], .func (.func 106) #[] #[]] τ [] (fun v τ' vs' => v = .tuple #[.int .u64 rr.1, .int .i64 rr.2.1, .int .i64 rr.2.2] ∧ vs' = []) := by
 obtain ⟨A0, c0, rfl, -⟩ := r0.form
 refine zu (args := [.slice A0 p0.length c0, .int .i64 p1, .func (.func 123) #[] #[], .func (.func 106) #[] #[]]) hm Tryz.func122 zrH rfl fun w0 σ hO Q hQ => ?_
 unfold zie at hF
 have hL := Hp.le.refl τ
 show wpn _ _ zgG.body _ _ _
 unfold zgG
 dsimp only
 refine za hO [] [] [0, 1, 2, 3] zsP fun j => ?_
 refine zb (za hO [] [(21, .bool ((decide (p1 < 0)) || (decide (p1 > (p0.length : Int)))))] [0, 1, 2, 3] (And.intro (And.intro rfl rfl) (fun _ => zs1 zsP)) fun j => ?_)
 refine zi hF rfl (fun hF => ?_) fun hF => ?_
 ·refine zb (zj hO [] [(8, .int .u64 0), (9, zs2 0), (10, zs2 1)] zsO fun j => ?_)
  refine zp ?_
  cases hF
  exact hQ _ _ _ _ _ rfl hO hL ⟨rfl, rfl⟩
 refine zl (zc hO 2 [] [(23, zs9 A0 p0 c0), (24, zs2 p1)] [0, 1, 2, 3] zsR fun j => ?_)
 obtain ⟨y6, g7, hF⟩ := zs8 hF
 refine zdB (T := Ty.u8) (r0.le hL) rfl rfl rfl g7 fun _ r8 => ?_
 obtain ⟨A9, c10, rfl, -⟩ := r8.form
 obtain ⟨c11, h12, hF⟩ := zs8 hF
 refine zo hO (zmS r8 h12) rfl fun _ σ _ _ hO h13 h14 => ?_
 have hL := hL.trans h13
 have r8 := r8.le h13
 obtain ⟨rfl, rfl⟩ := h14
 have hO : Obs _ _ [] := hO
 refine za hO [] [(11, .int .u64 c11.1), (12, zs2 c11.2)] [0, 1, 2, 3] zsR fun j => ?_
 refine zc hO 3 [] [(29, .func (.func 123) #[] #[]), (30, .int .u64 c11.1), (31, zs2 c11.2)] [0, 1, 3, 12] zsS fun j => ?_
 obtain ⟨c15, h16, hF⟩ := zs8 hF
 refine zim rfl (by kernel_rfl) hO (zsi h16) rfl fun _ σ _ _ hO h17 h18 => ?_
 have hL := hL.trans h17
 obtain ⟨rfl, rfl⟩ := h18
 have hO : Obs _ _ [] := hO
 refine za hO [] [(13, .int .u64 c15)] [0, 1, 3, 12] zsQ fun j => ?_
 refine zb (z8 (zc hO 3 [] [(35, .bool (c11.2 == 0))] [0, 1, 3, 12, 13] zsR fun j => ?_))
 obtain ⟨c19, h20, hF⟩ := zs8 hF
 refine zbN 2 (fun e' σ' => ∃ (τ' : Hp), agr [(47, .bool c19), (1, zs2 p1), (12, zs2 c11.2), (13, .int .u64 c15)] e' ∧ Obs τ' σ' [] ∧ Hp.le τ τ') ?_ ?_
 ·have hF := h20
  rcases z1 hF with ⟨hb21, hF⟩ | ⟨hb21, hF⟩
  ·refine zP (zs5 hb21) ?_
   refine zw (zs4 hb21) ?_
   refine ze ?_
   cases hF
   refine zg ?_
   exact ⟨rfl, _, zs1 zsO, hO, hL⟩
  refine zK (zs5 hb21) ?_
  refine zc hO 7 [] [(36, .func (.func 106) #[] #[]), (37, .int .u64 c15), (39, zs9 A0 p0 c0), (40, zs2 p1), (43, zs2 (IntKind.i64.wrap (p1 + c11.2)))] [1, 12, 13, 35] zsU fun j => ?_
  obtain ⟨y22, g23, hF⟩ := zs8 hF
  refine zdB (T := Ty.u8) (r0.le hL) rfl rfl rfl g23 fun _ r24 => ?_
  obtain ⟨A25, c26, rfl, -⟩ := r24.form
  obtain ⟨c27, h28, hF⟩ := zs8 hF
  refine zim rfl (by kernel_rfl) hO (znB (RdT.nil Ty.u8 _) h28) rfl fun _ σ _ _ hO h29 h30 => ?_
  have hL := hL.trans h29
  have r24 := r24.le h29
  obtain ⟨v31, o34, rfl, rfl, w35⟩ := h30
  obtain ⟨A32, c33, rfl, -⟩ := w35.form
  have hO := zs71 hO
  obtain ⟨_, h37, r36, hO⟩ := w35.share hO (i := 0) rfl
  have hL := hL.trans h37
  have r24 := r24.le h37
  have hO := zs71 hO
  obtain ⟨c38, h39, hF⟩ := zs8 hF
  refine zo hO (znU r36 r24 h39) rfl fun _ σ _ _ hO h40 h41 => ?_
  have hL := hL.trans h40
  have r36 := r36.le h40
  have r24 := r24.le h40
  obtain ⟨rfl, rfl⟩ := h41
  have hO := zs71 hO
  refine zZ hO 1 [] [(1, zs2 p1), (12, zs2 c11.2), (13, .int .u64 c15), (35, .bool (c11.2 == 0)), (46, .bool (!c38))] zsQ fun j => ?_
  refine zw (zs4 hb21) ?_
  refine ze ?_
  cases hF
  refine zg ?_
  have hO := hO.sel []
  exact ⟨rfl, _, zs1 zsO, hO, hL⟩
 rintro e σ ⟨_, hA, hO, hL⟩
 rw [← zD _ _ hA]
 refine ze (zi hF rfl (fun hF => ?_) fun hF => ?_)
 ·refine zb (zj hO [] [(8, .int .u64 0), (9, zs2 0), (10, zs2 5)] zsO fun j => ?_)
  refine zp ?_
  cases hF
  exact hQ _ _ _ _ _ rfl hO hL ⟨rfl, rfl⟩
 refine zl (zj hO [] [(8, .int .u64 c15), (9, zs2 (IntKind.i64.wrap (p1 + c11.2))), (10, zs2 0)] zsO fun j => ?_)
 refine zq ?_
 cases hF
 exact hQ _ _ _ _ _ rfl hO hL ⟨rfl, rfl⟩
theorem zre {τ : Hp} {v0 : Value} {p0 : (List UInt8)} {p1 : Int} (r0 : RdT Ty.u8 τ v0 p0) {rr : Int × Int × Int} (hF : zgL p0 p1 = some rr) :
  Ctr Tryz.prog 108 #[v0, .int .i64 p1] τ [] (fun v τ' vs' => v = .tuple #[.int .u64 rr.1, .int .i64 rr.2.1, .int .i64 rr.2.2] ∧ vs' = []) := by
 obtain ⟨A0, c0, rfl, -⟩ := r0.form
 refine zu (args := [.slice A0 p0.length c0, .int .i64 p1]) hm Tryz.func108 zqG rfl fun w0 σ hO Q hQ => ?_
 unfold zgL at hF
 have hL := Hp.le.refl τ
 show wpn _ _ zkN.body _ _ _
 unfold zkN
 dsimp only
 refine za hO [] [] [0, 1] zsN fun j => ?_
 refine zZ hO 2 [] [(7, zs9 A0 p0 c0), (8, zs2 p1)] zsN fun j => ?_
 obtain ⟨c3, h4, hF⟩ := zs8 hF
 refine zo hO (zqa (r0.le hL) h4) rfl fun _ σ _ _ hO h5 h6 => ?_
 have hL := hL.trans h5
 obtain ⟨rfl, rfl⟩ := h6
 have hO : Obs _ _ [] := hO
 refine zj hO [] [(4, .int .u64 c3.1), (5, zs2 c3.2.1), (6, zs2 c3.2.2)] zsO fun j => ?_
 refine zq ?_
 cases hF
 exact hQ _ _ _ _ _ rfl hO hL ⟨rfl, rfl⟩
theorem zoU {τ : Hp} {v0 : Value} {p0 : (List UInt8)} {p1 : Int} {q2 : zf} {bm2 : Nat} (r0 : RdT Ty.u8 τ v0 p0) {rr : Int × Bool × zf} (hF : zhK p0 p1 q2 = some rr) :
  Ctr Tryz.prog 107 #[v0, .int .i64 p1, .pointer (some ⟨bm2, 0, none⟩)] τ [zy bm2 q2.Kind.toNat q2.Op.toNat q2.R q2.S q2.T q2.N q2.M] (fun v τ' vs' => v = .tuple #[.int .i64 rr.1, .bool rr.2.1] ∧ vs' = [zy bm2 rr.2.2.Kind.toNat rr.2.2.Op.toNat rr.2.2.R rr.2.2.S rr.2.2.T rr.2.2.N rr.2.2.M]) := by
 obtain ⟨A0, c0, rfl, -⟩ := r0.form
 refine zu (args := [.slice A0 p0.length c0, .int .i64 p1, .pointer (some ⟨bm2, 0, none⟩)]) hm Tryz.func107 zsE rfl fun w0 σ hO Q hQ => ?_
 unfold zhK at hF
 have hL := Hp.le.refl τ
 show wpn _ _ zkj.body _ _ _
 unfold zkj
 dsimp only
 refine za hO [] [] [0, 1, 2] zsO fun j => ?_
 refine zc hO 2 [] [(12, zs9 A0 p0 c0), (13, zs2 p1)] [2] zsO fun j => ?_
 obtain ⟨c4, h5, hF⟩ := zs8 hF
 refine zo hO (zre (r0.le hL) h5) rfl fun _ σ _ _ hO h6 h7 => ?_
 have hL := hL.trans h6
 obtain ⟨rfl, rfl⟩ := h7
 have hO := zs71 hO
 refine za hO [] [(8, .int .u64 c4.1), (9, zs2 c4.2.1), (10, zs2 c4.2.2)] [2] zsP fun j => ?_
 refine zc hO 6 [] [(21, zs2 (IntKind.i64.wrap (zdG c4.1 16777216))), (23, .pointer (some ⟨bm2, 6, none⟩))] [2, 9, 10] zsQ fun j => ?_
 refine zH hO (i := 0) rfl (off := 6) rfl rfl rfl rfl (Nat.le_of_ble_eq_true rfl) rfl fun σ hO => ?_
 have hO := zs71 hO
 refine ze (za hO [] [(6, zs2 c4.2.1), (7, .bool (c4.2.2 == 0))] [2] zsO fun j => ?_)
 refine zq ?_
 cases hF
 exact hQ _ _ _ _ _ rfl hO hL ⟨rfl, rfl⟩
theorem zo3 {τ : Hp}   {rr : zA} (hF : zkb  = some rr) :
  Ctr Tryz.prog 80 #[] τ [] (fun v τ' vs' => ∃ (f0_0 : Fn) (a0_0 c0_0 : Array Value) (f0_1 : Fn) (a0_1 c0_1 : Array Value) (f0_2 : Fn) (a0_2 c0_2 : Array Value), v = .agg #[.func f0_0 a0_0 c0_0, .func f0_1 a0_1 c0_1, .func f0_2 a0_2 c0_2] ∧ vs' = [] ∧ zbX τ' rr (.func f0_0 a0_0 c0_0) (.func f0_1 a0_1 c0_1) (.func f0_2 a0_2 c0_2)) := by
 refine zu (args := []) hm Tryz.func80 s80 rfl fun w0 σ hO Q hQ => ?_
 unfold zkb at hF
 have hL := Hp.le.refl τ
 show wpn _ _ a80.body _ _ _
 unfold a80
 dsimp only
 refine zbE hO fun b1 σ hO => ?_
 have hO := zs71 hO
 refine ze (zc hO 1 [] [(1, .agg #[(.func (.func 104) #[] #[]), (.func (.func 105) #[] #[]), (.func (.func 107) #[] #[])])] [0] zsN fun j => ?_)
 refine zH hO (i := 0) rfl (off := 0) rfl rfl rfl rfl (Nat.le_of_ble_eq_true rfl) rfl fun σ hO => ?_
 have hO := zs71 hO
 refine ze (zq ?_)
 cases hF
 have hV0 := hO.val (i := 0) rfl (off := 0) (agg := true) (n := 3) rfl
 have hO := hO.sel []
 exact hQ _ _ _ _ _ (zbH rfl (hV0) rfl) hO hL ⟨_, _, _, _, _, _, _, _, _, rfl, rfl, ⟨rfl, rfl, rfl⟩⟩
theorem zqy {τ : Hp} {q0 : zf} {bm0 : Nat}  {rr : Bool × zf} (hF : zjo q0 = some rr) :
  Ctr Tryz.prog 109 #[.pointer (some ⟨bm0, 0, none⟩)] τ [zy bm0 q0.Kind.toNat q0.Op.toNat q0.R q0.S q0.T q0.N q0.M] (fun v τ' vs' => v = .bool rr.1 ∧ vs' = [zy bm0 rr.2.Kind.toNat rr.2.Op.toNat rr.2.R rr.2.S rr.2.T rr.2.N rr.2.M]) := by
 refine zu (args := [.pointer (some ⟨bm0, 0, none⟩)]) hm Tryz.func109 zop rfl fun w0 σ hO Q hQ => ?_
 unfold zjo at hF
 have hL := Hp.le.refl τ
 show wpn _ _ zkB.body _ _ _
 unfold zkB
 dsimp only
 refine za hO [] [] [0] zsM fun j => ?_
 refine za hO [0, 0] [(2, .bool ((decide (q0.N ≥ 0)) && (decide (q0.N < 16777216))))] [0] (And.intro (And.intro rfl rfl) (And.intro (And.intro rfl rfl) (And.intro (And.intro rfl rfl) (fun _ => zs1 zsM)))) fun j => ?_
 refine zq ?_
 cases hF
 exact hQ _ _ _ _ _ rfl hO hL ⟨rfl, rfl⟩
theorem zrP {τ : Hp} {p1 : Int} (r0 : RdT Ty.u8 τ (.slice none 0 0) []) {rr : (List UInt8)} (hF : zht [] p1 = some rr) :
  Ctr Tryz.prog 128 #[.slice none 0 0, .int .i64 p1] τ [] (fun v τ' vs' => ∃ (v0 : Value) (o0 : Ob), v = v0 ∧ vs' = [o0] ∧ zd Ty.u8 5 τ' v0 rr o0) := by
 refine zu (args := [.slice none 0 0, .int .i64 p1]) hm Tryz.func128 zoY rfl fun w0 σ hO Q hQ => ?_
 unfold zht at hF
 have hL := Hp.le.refl τ
 show wpn _ _ ze2.body _ _ _
 unfold ze2
 dsimp only
 refine za hO [] [] [0, 1] zsN fun j => ?_
 refine zb (za hO [] [(6, .bool (decide (p1 < 0)))] [0, 1] zsO fun j => ?_)
 refine zbK (fun e' σ' => ∃ (τ' : Hp), agr [(0, .slice none 0 0), (1, zs2 p1)] e' ∧ Obs τ' σ' [] ∧ Hp.le τ τ' ∧ zip p1 = some rr) ?_ ?_
 ·refine z5 (zi hF rfl (fun hF => ?_) fun hF => ?_)
  ·refine zc hO 1 [] [(7, .iface 9 (.string (⟨#[99, 97, 110, 110, 111, 116, 32, 98, 101, 32, 110, 101, 103, 97, 116, 105, 118, 101]⟩ : ByteArray)))] [0, 1] zsO fun j => ?_
   exact nomatch (show none = some _ from hF)
  refine zl (zg (zk ?_))
  exact ⟨_, zs1 zsM, hO, hL, hF⟩
 rintro e σ ⟨_, hA, hO, hL, hF⟩
 rw [← zD _ _ hA]
 unfold zip at hF
 refine zb (za hO [] [(1, zs2 (IntKind.i64.wrap (p1 - (IntKind.i64.wrap (0 - 0)))))] [0] zsN fun j => ?_)
 refine zb (za hO [] [(16, .bool (decide ((IntKind.i64.wrap (p1 - (IntKind.i64.wrap (0 - 0)))) > 0)))] [0, 1] zsO fun j => ?_)
 refine zi hF rfl (fun hF => ?_) fun hF => ?_
 ·refine zc hO 3 [] [(17, .slice none 0 0), (19, zs2 0)] [0, 1] zsP fun j => ?_
  refine zoo rfl rfl rfl ?_
  refine zc hO 1 [] [(21, zs2 (IntKind.i64.wrap (p1 - (IntKind.i64.wrap (0 - 0)))))] [0, 20] zsO fun j => ?_
  have hO := hO.no
  have hO := zs71 hO
  have w5 := zd.nil0 (T := Ty.u8) (ty := 5) hO
  obtain ⟨_, g10, hF⟩ := zs8 hF
  obtain ⟨_, hr11, hF⟩ := zs8 hF
  refine zrc (T := Ty.u8) (z := (0 : UInt8)) hO w5 (i := 0) rfl rfl rfl (zql g10) (show _ = _ from rfl) hr11 (by decide) fun _ σ o8 w9 hO => ?_
  obtain ⟨A6, c7, rfl, -⟩ := w9.form
  have hO := zs71 hO
  refine zc hO 2 [] [(24, zs2 0)] [22] zsN fun j => ?_
  obtain ⟨y12, g13, hF⟩ := zs8 hF
  refine zrx (T := Ty.u8) w9 rfl rfl g13 fun w14 => ?_
  refine zj hO [] [(0, zs9 A6 y12 c7)] zsM fun j => ?_
  refine zj hO [] [(4, zs9 A6 y12 c7)] zsM fun j => ?_
  refine zq ?_
  cases hF
  exact hQ _ _ _ _ _ rfl hO hL ⟨_, _, rfl, rfl, w14⟩
 refine zl (zj hO [] [(4, .slice none 0 0)] zsM fun j => ?_)
 refine zq ?_
 have hO := hO.no
 have hO := zs71 hO
 cases hF
 exact hQ _ _ _ _ _ rfl hO hL ⟨_, _, rfl, rfl, (zd.nil _ _ _)⟩
theorem zqb {τ : Hp} {v0 : Value} {p0 : (List (List UInt8))} (r0 : RdT (Ty.slice Ty.u8) τ v0 p0) {rr : (List UInt8)} (hF : zi2 p0 = some rr) :
  Ctr Tryz.prog 124 #[v0] τ [] (fun v τ' vs' => ∃ (v0 : Value) (o0 : Ob), v = v0 ∧ vs' = [o0] ∧ zd Ty.u8 5 τ' v0 rr o0) := by
 obtain ⟨A0, c0, rfl, -⟩ := r0.form
 refine zu (args := [.slice A0 p0.length c0]) hm Tryz.func124 zoA rfl fun w0 σ hO Q hQ => ?_
 unfold zi2 at hF
 have hL := Hp.le.refl τ
 show wpn _ _ zka.body _ _ _
 unfold zka
 dsimp only
 refine za hO [] [] [0] zsM fun j => ?_
 refine za hO [] [(3, zs2 0)] [0] zsN fun j => ?_
 refine zb (za hO [] [(9, zs9 A0 p0 c0), (10, zs2 (p0.length : Int)), (11, zs2 0)] [0, 3] zsQ fun j => ?_)
 refine zW (zbG (fun (n : Nat) e' σ' => ∃ (x79 x80 : Int) (τ' : Hp), agr [(0, zs9 A0 p0 c0), (3, zs2 x79), (9, zs9 A0 p0 c0), (10, zs2 (p0.length : Int)), (11, zs2 x80)] e' ∧ Obs τ' σ' [] ∧ Hp.le τ τ' ∧ zgs p0 n x79 x80 = some rr) big ⟨0, 0, _, zs1 zsP, hO, hL, hF⟩ ?_)
 clear hF hO hL
 rintro n158 e σ ⟨x79, x80, _, hA, hO, hL, hF⟩
 rw [← zD _ _ hA]
 cases n158 with
 | zero => exact nomatch (show none = some rr from hF)
 | succ n158 =>
 replace hF : zgK (zgs p0 n158) p0 x79 x80 = some rr := hF
 unfold zgK at hF
 refine za hO [] [(12, .bool (decide (x80 < (p0.length : Int))))] [0, 3, 9, 10, 11] zsR fun j => ?_
 refine zi hF rfl (fun hF => ?_) fun hF => ?_
 ·refine zl (zW ?_)
  obtain ⟨y160, g161, hF⟩ := zs8 hF
  refine zbJ (T := (Ty.slice Ty.u8)) (r0.le hL) hO.base rfl rfl g161 (by decide) fun a162 _ k163 m164 => ?_
  obtain ⟨v165, rfl, r166⟩ := k163
  obtain ⟨A167, c168, rfl, -⟩ := r166.form
  refine zL rfl (m164.le hO.base).fst ?_
  refine za hO [] [(5, zs9 A167 y160 c168)] [0, 3, 9, 10, 11] zsR fun j => ?_
  refine za hO [] [(3, zs2 (IntKind.i64.wrap (x79 + (y160.length : Int))))] [0, 9, 10, 11] zsQ fun j => ?_
  refine za hO [] [(20, .bool (decide ((IntKind.i64.wrap (x79 + (y160.length : Int))) < 0)))] [0, 3, 9, 10, 11] zsR fun j => ?_
  refine z5 (zi hF rfl (fun hF => ?_) fun hF => ?_)
  ·refine zc hO 1 [] [(21, .iface 9 (.string (⟨#[108, 101, 110, 32, 111, 117, 116, 32, 111, 102, 32, 114, 97, 110, 103, 101]⟩ : ByteArray)))] [0, 3, 9, 10, 11] zsR fun j => ?_
   exact nomatch (show none = some _ from hF)
  refine zl (zg (zF (zk (zV (za hO [] [(11, zs2 (IntKind.i64.wrap (x80 + 1)))] [0, 3, 9, 10] zsQ fun j => ?_)))))
  refine zg (zk ?_)
  exact ⟨n158, Nat.lt_succ_self _, (IntKind.i64.wrap (x79 + (y160.length : Int))), (IntKind.i64.wrap (x80 + 1)), _, zs1 zsP, hO, hL, hF⟩
 refine zbl (zbw (zbD (zk (zc hO 1 [] [(23, zs2 x79)] [0] zsN fun j => ?_))))
 obtain ⟨c170, h171, hF⟩ := zs8 hF
 refine zo hO (zrP (RdT.nil Ty.u8 _) h171) rfl fun _ σ _ _ hO h172 h173 => ?_
 have hL := hL.trans h172
 obtain ⟨v174, o177, rfl, rfl, w178⟩ := h173
 obtain ⟨A175, c176, rfl, -⟩ := w178.form
 have hO := zs71 hO
 refine za hO [] [(6, zs9 A175 c170 c176)] [0] zsN fun j => ?_
 refine zb (za hO [] [(25, zs9 A0 p0 c0), (26, zs2 (p0.length : Int)), (27, zs2 0)] [6] zsP fun j => ?_)
 refine zW (zbG (fun (n : Nat) e' σ' => ∃ (A199 : Option Addr) (c200 : Nat) (o201 : Ob) (x202 : List UInt8) (x204 : Int) (τ' : Hp), agr [(6, zs9 A199 x202 c200), (25, zs9 A0 p0 c0), (26, zs2 (p0.length : Int)), (27, zs2 x204)] e' ∧ Obs τ' σ' [o201] ∧ Hp.le τ τ' ∧ zd Ty.u8 5 τ' (zs9 A199 x202 c200) x202 o201 ∧ zh9 p0 n x202 x204 = some rr) big ⟨A175, c176, o177, c170, 0, _, zs1 zsO, hO, hL, w178, hF⟩ ?_)
 clear hF hO hL
 rintro n220 e σ ⟨A199, c200, o201, x202, x204, _, hA, hO, hL, w203, hF⟩
 rw [← zD _ _ hA]
 cases n220 with
 | zero => exact nomatch (show none = some rr from hF)
 | succ n220 =>
 replace hF : zhw (zh9 p0 n220) p0 x202 x204 = some rr := hF
 unfold zhw at hF
 refine za hO [] [(28, .bool (decide (x204 < (p0.length : Int))))] [6, 25, 26, 27] zsQ fun j => ?_
 refine zi hF rfl (fun hF => ?_) fun hF => ?_
 ·refine zl (zW ?_)
  obtain ⟨y222, g223, hF⟩ := zs8 hF
  refine zbJ (T := (Ty.slice Ty.u8)) (r0.le hL) hO.base rfl rfl g223 (by decide) fun a224 _ k225 m226 => ?_
  obtain ⟨v227, rfl, r228⟩ := k225
  obtain ⟨A229, c230, rfl, -⟩ := r228.form
  refine zL rfl (m226.le hO.base).fst ?_
  refine za hO [] [(8, zs9 A229 y222 c230)] [6, 25, 26, 27] zsQ fun j => ?_
  refine zV (zc hO 2 [] [(31, zs9 A199 x202 c200), (32, zs9 A229 y222 c230)] [25, 26, 27] zsQ fun j => ?_)
  obtain ⟨_, hr235, hF⟩ := zs8 hF
  refine zdt (T := Ty.u8) hO w203 (i := 0) rfl rfl rfl r228 hr235 (by decide) fun _ σ o233 w234 hO => ?_
  obtain ⟨A231, c232, rfl, -⟩ := w234.form
  have hO := zs71 hO
  refine za hO [] [(6, zs9 A231 (x202 ++ y222) c232)] [25, 26, 27] zsP fun j => ?_
  refine zg (zF (zk (zV (za hO [] [(27, zs2 (IntKind.i64.wrap (x204 + 1)))] [6, 25, 26] zsP fun j => ?_))))
  refine zg (zk ?_)
  exact ⟨n220, Nat.lt_succ_self _, A231, c232, o233, (x202 ++ y222), (IntKind.i64.wrap (x204 + 1)), _, zs1 zsO, hO, hL, w234, hF⟩
 refine zbl (zbw (zbD (zk (zj hO [] [(2, zs9 A199 x202 c200)] zsM fun j => ?_))))
 refine zq ?_
 cases hF
 exact hQ _ _ _ _ _ rfl hO hL ⟨_, _, rfl, rfl, w203⟩
theorem zrj {τ : Hp} {v0 : Value} {p0 : (List UInt8)} {p1 : Int} (r0 : RdT Ty.u8 τ v0 p0) {rr : (List UInt8) × Int} (hF : zhi p0 p1 = some rr) :
  Ctr Tryz.prog 111 #[v0, .int .i64 p1] τ [] (fun v τ' vs' => ∃ (v0 : Value) (o0 : Ob), v = .tuple #[v0, .int .i64 rr.2] ∧ vs' = [o0] ∧ zd Ty.u8 5 τ' v0 rr.1 o0) := by
 obtain ⟨A0, c0, rfl, -⟩ := r0.form
 refine zu (args := [.slice A0 p0.length c0, .int .i64 p1]) hm Tryz.func111 zpz rfl fun w0 σ hO Q hQ => ?_
 unfold zhi at hF
 have hL := Hp.le.refl τ
 show wpn _ _ zgh.body _ _ _
 unfold zgh
 dsimp only
 refine za hO [] [] [0, 1] zsN fun j => ?_
 refine zb (za hO [] [(13, .bool ((decide (p1 < 0)) || (decide (p1 ≥ 16777216))))] [0, 1] (And.intro (And.intro rfl rfl) (fun _ => zs1 zsN)) fun j => ?_)
 refine zi hF rfl (fun hF => ?_) fun hF => ?_
 ·refine zb (zj hO [] [(4, .slice none 0 0), (5, zs2 1)] zsN fun j => ?_)
  refine zp ?_
  have hO := hO.no
  have hO := zs71 hO
  cases hF
  exact hQ _ _ _ _ _ rfl hO hL ⟨_, _, rfl, rfl, (zd.nil _ _ _)⟩
 refine zl (zqO (T := Ty.u8) (l := ([(0 : UInt8), (0 : UInt8), (0 : UInt8)] : List UInt8)) hO ⟨[.int .u8 0], _, rfl, rfl, ⟨[.int .u8 0], _, rfl, rfl, ⟨[.int .u8 0], _, rfl, rfl, rfl⟩⟩⟩ rfl (by decide) fun b4 σ o5 w6 hO => ?_)
 have hO := zs71 hO
 refine ze (zb (za hO [] [(14, zs2 0)] [0, 1, 6] zsP fun j => ?_))
 refine zW (zbG (fun (n : Nat) e' σ' => ∃ (o41 : Ob) (x42 : List UInt8) (x44 : Int) (τ' : Hp), agr [(0, zs9 A0 p0 c0), (1, zs2 p1), (6, zs3 b4), (14, zs2 x44)] e' ∧ Obs τ' σ' [o41] ∧ Hp.le τ τ' ∧ zd Ty.u8 135 τ' (.slice (some ⟨b4, 0, none⟩) 3 3) x42 o41 ∧ zfM p0 p1 n x42 x44 = some rr) big ⟨o5, ([(0 : UInt8), (0 : UInt8), (0 : UInt8)] : List UInt8), 0, _, zs1 zsO, hO, hL, w6, hF⟩ ?_)
 clear hF hO hL
 rintro n76 e σ ⟨o41, x42, x44, _, hA, hO, hL, w43, hF⟩
 rw [← zD _ _ hA]
 cases n76 with
 | zero => exact nomatch (show none = some rr from hF)
 | succ n76 =>
 replace hF : zju (zfM p0 p1 n76) p0 p1 x42 x44 = some rr := hF
 unfold zju at hF
 refine za hO [] [(15, .bool (decide (x44 < 3)))] [0, 1, 6, 14] zsQ fun j => ?_
 refine zi hF rfl (fun hF => ?_) fun hF => ?_
 ·refine zl (zW (za hO [] [(7, zs2 x44)] [0, 1, 6, 14] zsQ fun j => ?_))
  refine zV (zc hO 5 [] [(18, zs2 (IntKind.i64.wrap (2 - x44))), (19, zs2 p1), (21, zs2 (IntKind.i64.wrap (8 * x44)))] [0, 1, 6, 14] zsS fun j => ?_)
  obtain ⟨y78, g79, hF⟩ := zs8 hF
  refine zc7 (znl g79) ?_
  refine zc hO 1 [] [(23, .int .u8 (IntKind.u8.wrap y78))] [0, 1, 6, 14, 18] zsR fun j => ?_
  obtain ⟨y80, g81, hF⟩ := zs8 hF
  refine zqu (T := Ty.u8) hO w43 (i := 0) rfl rfl rfl g81 rfl fun a82 _ k83 m84 i85 => ?_
  have k86 := k83
  obtain rfl : _ = ([.int .u8 y80.toNat] : List Value) := k86
  obtain ⟨z87, hz87, hF⟩ := zs8 hF
  refine zce (T := Ty.u8) (z' := z87) (off := 0) (vs := [.int .u8 (IntKind.u8.wrap y78)]) hO w43 (i := 0) rfl (by rw [add_zero]; rfl) i85 g81 k83 m84 rfl rfl rfl rfl (by decide) (u8R hz87) fun σ o88 w89 hO => ?_
  have hO := zs71 hO
  refine ze (zg (zF (zk (zV (za hO [] [(14, zs2 (IntKind.i64.wrap (x44 + 1)))] [0, 1, 6] zsP fun j => ?_)))))
  refine zg (zk ?_)
  exact ⟨n76, Nat.lt_succ_self _, o88, (x42.set (Int.toNat (IntKind.i64.wrap (2 - x44))) z87), (IntKind.i64.wrap (x44 + 1)), _, zs1 zsO, hO, hL, w89, hF⟩
 refine zbl (zbw (zbD (zk (zc hO 1 [] [(26, zs9 A0 p0 c0)] [6] zsN fun j => ?_))))
 refine zom (T := Ty.u8) rfl ?_
 have l92 : 3 = x42.length := w43.len
 obtain ⟨_, h91, r90, hO⟩ := w43.share hO (i := 0) rfl
 have hL := hL.trans h91
 have hO := zs71 hO
 refine zbv (T := (Ty.slice Ty.u8)) (l := ([p0, x42] : List (List UInt8))) (cs := [.slice A0 p0.length c0, .slice (some ⟨b4, 0, none⟩) 3 3]) hO rfl ⟨[.slice A0 p0.length c0], _, rfl, ⟨_, rfl, (r0.le hL)⟩, ⟨[.slice (some ⟨b4, 0, none⟩) 3 3], _, rfl, ⟨_, rfl, r90⟩, rfl⟩⟩ rfl (by decide) fun _ σ o95 w96 hO => ?_
 obtain ⟨A93, c94, rfl, -⟩ := w96.form
 have hO := zs72 hO
 obtain ⟨_, h98, r97, hO⟩ := w96.share hO (i := 1) rfl
 have hL := hL.trans h98
 have r90 := r90.le h98
 have hO := zs72 hO
 obtain ⟨c99, h100, hF⟩ := zs8 hF
 refine zo hO (zqb r97 h100) rfl fun _ σ _ _ hO h101 h102 => ?_
 have hL := hL.trans h101
 have r90 := r90.le h101
 have r97 := r97.le h101
 obtain ⟨v103, o106, rfl, rfl, w107⟩ := h102
 obtain ⟨A104, c105, rfl, -⟩ := w107.form
 have hO := zs73 hO
 refine zj hO [] [(4, zs9 A104 c99 c105), (5, zs2 0)] zsN fun j => ?_
 refine zq ?_
 cases hF
 have hO := hO.sel [2]
 exact hQ _ _ _ _ _ rfl hO hL ⟨_, _, rfl, rfl, w107⟩
theorem zrt {τ : Hp} {v0 : Value} {p0 : (List UInt8)} {p1 : Int} (r0 : RdT Ty.u8 τ v0 p0) {rr : Int × Int × Int} (hF : zeI p0 p1 = some rr) :
  Ctr Tryz.prog 113 #[v0, .int .i64 p1] τ [] (fun v τ' vs' => v = .tuple #[.int .i64 rr.1, .int .i64 rr.2.1, .int .i64 rr.2.2] ∧ vs' = []) := by
 obtain ⟨A0, c0, rfl, -⟩ := r0.form
 refine zu (args := [.slice A0 p0.length c0, .int .i64 p1]) hm Tryz.func113 zos rfl fun w0 σ hO Q hQ => ?_
 unfold zeI at hF
 have hL := Hp.le.refl τ
 show wpn _ _ zjW.body _ _ _
 unfold zjW
 dsimp only
 refine za hO [] [(4, zs2 0)] [0, 1] zsO fun j => ?_
 refine zc hO 2 [] [(11, zs9 A0 p0 c0), (12, zs2 p1)] [4] zsO fun j => ?_
 obtain ⟨c3, h4, hF⟩ := zs8 hF
 refine zo hO (zlK (r0.le hL) h4) rfl fun _ σ _ _ hO h5 h6 => ?_
 have hL := hL.trans h5
 obtain ⟨v7, rfl, rfl, r10⟩ := h6
 obtain ⟨A8, c9, rfl, -⟩ := r10.form
 have hO : Obs _ _ [] := hO
 refine za hO [] [(5, zs2 c3.2.1), (6, zs2 c3.2.2), (7, zs9 A8 c3.1 c9)] [4] zsP fun j => ?_
 refine zb (za hO [] [(17, zs9 A8 c3.1 c9), (18, zs2 (c3.1.length : Int)), (19, zs2 0)] [4, 5, 6] zsR fun j => ?_)
 refine zW (zbG (fun (n : Nat) e' σ' => ∃ (x18 x20 : Int) (τ' : Hp), agr [(4, zs2 x18), (5, zs2 c3.2.1), (6, zs2 c3.2.2), (17, zs9 A8 c3.1 c9), (18, zs2 (c3.1.length : Int)), (19, zs2 x20)] e' ∧ Obs τ' σ' [] ∧ Hp.le τ τ' ∧ RdT Ty.u8 τ' (zs9 A8 c3.1 c9) c3.1 ∧ zfQ c3 n x18 x20 = some rr) big ⟨0, 0, _, zs1 zsQ, hO, hL, r10, hF⟩ ?_)
 clear hF hO hL
 rintro n27 e σ ⟨x18, x20, _, hA, hO, hL, r19, hF⟩
 rw [← zD _ _ hA]
 cases n27 with
 | zero => exact nomatch (show none = some rr from hF)
 | succ n27 =>
 replace hF : zjD (zfQ c3 n27) c3 x18 x20 = some rr := hF
 unfold zjD at hF
 refine za hO [] [(20, .bool (decide (x20 < (c3.1.length : Int))))] [4, 5, 6, 17, 18, 19] zsS fun j => ?_
 refine zi hF rfl (fun hF => ?_) fun hF => ?_
 ·refine zl (zW ?_)
  obtain ⟨y29, g30, hF⟩ := zs8 hF
  refine zbJ (T := Ty.u8) r19 hO.base rfl rfl g30 (by decide) fun a31 _ k32 m33 => ?_
  obtain rfl : _ = ([.int .u8 y29.toNat] : List Value) := k32
  refine zL rfl (m33.le hO.base).fst ?_
  refine za hO [] [(9, .int .u8 (y29.toNat : Int))] [4, 5, 6, 17, 18, 19] zsS fun j => ?_
  refine zV (za hO [] [(4, zs2 (orI .i64 (zct .i64 x18 8) (IntKind.i64.wrap (y29.toNat : Int))))] [5, 6, 17, 18, 19] zsR fun j => ?_)
  refine zg (zF (zk (zV (za hO [] [(19, zs2 (IntKind.i64.wrap (x20 + 1)))] [4, 5, 6, 17, 18] zsR fun j => ?_))))
  refine zg (zk ?_)
  exact ⟨n27, Nat.lt_succ_self _, (orI .i64 (zct .i64 x18 8) (IntKind.i64.wrap (y29.toNat : Int))), (IntKind.i64.wrap (x20 + 1)), _, zs1 zsQ, hO, hL, r19, hF⟩
 refine zbl (zbw (zbD (zk (zj hO [] [(4, zs2 x18), (5, zs2 c3.2.1), (6, zs2 c3.2.2)] zsO fun j => ?_))))
 refine zq ?_
 cases hF
 exact hQ _ _ _ _ _ rfl hO hL ⟨rfl, rfl⟩
theorem zqB {τ : Hp} {v0 : Value} {p0 : (List UInt8)} {p1 : Int} {q2 : zf} {bm2 : Nat} (r0 : RdT Ty.u8 τ v0 p0) {rr : Int × Bool × zf} (hF : zg1 p0 p1 q2 = some rr) :
  Ctr Tryz.prog 112 #[v0, .int .i64 p1, .pointer (some ⟨bm2, 0, none⟩)] τ [zy bm2 q2.Kind.toNat q2.Op.toNat q2.R q2.S q2.T q2.N q2.M] (fun v τ' vs' => v = .tuple #[.int .i64 rr.1, .bool rr.2.1] ∧ vs' = [zy bm2 rr.2.2.Kind.toNat rr.2.2.Op.toNat rr.2.2.R rr.2.2.S rr.2.2.T rr.2.2.N rr.2.2.M]) := by
 obtain ⟨A0, c0, rfl, -⟩ := r0.form
 refine zu (args := [.slice A0 p0.length c0, .int .i64 p1, .pointer (some ⟨bm2, 0, none⟩)]) hm Tryz.func112 zoM rfl fun w0 σ hO Q hQ => ?_
 unfold zg1 at hF
 have hL := Hp.le.refl τ
 show wpn _ _ zlf.body _ _ _
 unfold zlf
 dsimp only
 refine za hO [] [] [0, 1, 2] zsO fun j => ?_
 refine zc hO 2 [] [(12, zs9 A0 p0 c0), (13, zs2 p1)] [2] zsO fun j => ?_
 obtain ⟨c4, h5, hF⟩ := zs8 hF
 refine zo hO (zrt (r0.le hL) h5) rfl fun _ σ _ _ hO h6 h7 => ?_
 have hL := hL.trans h6
 obtain ⟨rfl, rfl⟩ := h7
 have hO := zs71 hO
 refine za hO [] [(8, zs2 c4.1), (9, zs2 c4.2.1), (10, zs2 c4.2.2)] [2] zsP fun j => ?_
 refine zc hO 4 [] [(19, zs2 c4.1), (21, .pointer (some ⟨bm2, 5, none⟩))] [2, 9, 10] zsQ fun j => ?_
 refine zH hO (i := 0) rfl (off := 5) rfl rfl rfl rfl (Nat.le_of_ble_eq_true rfl) rfl fun σ hO => ?_
 have hO := zs71 hO
 refine ze (za hO [] [(6, zs2 c4.2.1), (7, .bool (c4.2.2 == 0))] [2] zsO fun j => ?_)
 refine zq ?_
 cases hF
 exact hQ _ _ _ _ _ rfl hO hL ⟨rfl, rfl⟩
theorem zlA {τ : Hp}   {rr : zA} (hF : zji  = some rr) :
  Ctr Tryz.prog 81 #[] τ [] (fun v τ' vs' => ∃ (f0_0 : Fn) (a0_0 c0_0 : Array Value) (f0_1 : Fn) (a0_1 c0_1 : Array Value) (f0_2 : Fn) (a0_2 c0_2 : Array Value), v = .agg #[.func f0_0 a0_0 c0_0, .func f0_1 a0_1 c0_1, .func f0_2 a0_2 c0_2] ∧ vs' = [] ∧ zbX τ' rr (.func f0_0 a0_0 c0_0) (.func f0_1 a0_1 c0_1) (.func f0_2 a0_2 c0_2)) := by
 refine zu (args := []) hm Tryz.func81 s81 rfl fun w0 σ hO Q hQ => ?_
 unfold zji at hF
 have hL := Hp.le.refl τ
 show wpn _ _ a81.body _ _ _
 unfold a81
 dsimp only
 refine zbE hO fun b1 σ hO => ?_
 have hO := zs71 hO
 refine ze (zc hO 1 [] [(1, .agg #[(.func (.func 109) #[] #[]), (.func (.func 110) #[] #[]), (.func (.func 112) #[] #[])])] [0] zsN fun j => ?_)
 refine zH hO (i := 0) rfl (off := 0) rfl rfl rfl rfl (Nat.le_of_ble_eq_true rfl) rfl fun σ hO => ?_
 have hO := zs71 hO
 refine ze (zq ?_)
 cases hF
 have hV0 := hO.val (i := 0) rfl (off := 0) (agg := true) (n := 3) rfl
 have hO := hO.sel []
 exact hQ _ _ _ _ _ (zbH rfl (hV0) rfl) hO hL ⟨_, _, _, _, _, _, _, _, _, rfl, rfl, ⟨rfl, rfl, rfl⟩⟩
theorem zqD {τ : Hp} {q0 : zf} {bm0 : Nat}  {rr : Bool × zf} (hF : zi9 q0 = some rr) :
  Ctr Tryz.prog 114 #[.pointer (some ⟨bm0, 0, none⟩)] τ [zy bm0 q0.Kind.toNat q0.Op.toNat q0.R q0.S q0.T q0.N q0.M] (fun v τ' vs' => v = .bool rr.1 ∧ vs' = [zy bm0 rr.2.Kind.toNat rr.2.Op.toNat rr.2.R rr.2.S rr.2.T rr.2.N rr.2.M]) := by
 refine zu (args := [.pointer (some ⟨bm0, 0, none⟩)]) hm Tryz.func114 zn1 rfl fun w0 σ hO Q hQ => ?_
 unfold zi9 at hF
 have hL := Hp.le.refl τ
 show wpn _ _ zf3.body _ _ _
 unfold zf3
 dsimp only
 refine za hO [] [] [0] zsM fun j => ?_
 refine za hO [0, 0] [(2, .bool ((decide (q0.N ≥ 2)) && (decide (q0.N ≤ 4))))] [0] (And.intro (And.intro rfl rfl) (And.intro (And.intro rfl rfl) (And.intro (And.intro rfl rfl) (fun _ => zs1 zsM)))) fun j => ?_
 refine zq ?_
 cases hF
 exact hQ _ _ _ _ _ rfl hO hL ⟨rfl, rfl⟩
theorem zqL {τ : Hp} {q0 : zf} {bm0 : Nat}  {rr : Int × zf} (hF : ziV q0 = some rr) :
  Ctr Tryz.prog 115 #[.pointer (some ⟨bm0, 0, none⟩)] τ [zy bm0 q0.Kind.toNat q0.Op.toNat q0.R q0.S q0.T q0.N q0.M] (fun v τ' vs' => v = .int .u8 rr.1 ∧ vs' = [zy bm0 rr.2.Kind.toNat rr.2.Op.toNat rr.2.R rr.2.S rr.2.T rr.2.N rr.2.M]) := by
 refine zu (args := [.pointer (some ⟨bm0, 0, none⟩)]) hm Tryz.func115 zo6 rfl fun w0 σ hO Q hQ => ?_
 unfold ziV at hF
 have hL := Hp.le.refl τ
 show wpn _ _ zik.body _ _ _
 unfold zik
 dsimp only
 refine za hO [] [] [0] zsM fun j => ?_
 refine za hO [0] [(2, .int .u8 (IntKind.u8.wrap q0.N))] [0] (And.intro (And.intro rfl rfl) zsN) fun j => ?_
 refine zq ?_
 cases hF
 exact hQ _ _ _ _ _ rfl hO hL ⟨rfl, rfl⟩
theorem zpY {τ : Hp} {q0 : zf} {bm0 : Nat} {p1 : Int}  {rr : zf} (hF : zhv q0 p1 = some rr) :
  Ctr Tryz.prog 116 #[.pointer (some ⟨bm0, 0, none⟩), .int .u8 p1] τ [zy bm0 q0.Kind.toNat q0.Op.toNat q0.R q0.S q0.T q0.N q0.M] (fun v τ' vs' => v = .tuple #[] ∧ vs' = [zy bm0 rr.Kind.toNat rr.Op.toNat rr.R rr.S rr.T rr.N rr.M]) := by
 refine zh0 (args := [.pointer (some ⟨bm0, 0, none⟩), .int .u8 p1]) hm Tryz.func116 zqY rfl fun w0 σ hO Q hQ => ?_
 unfold zhv at hF
 have hL := Hp.le.refl τ
 show wpn _ _ zjS.body _ _ _
 unfold zjS
 dsimp only
 refine zV (zc hO 5 [] [(6, zs2 (IntKind.i64.wrap p1)), (8, .pointer (some ⟨bm0, 5, none⟩))] [0] zsO fun j => ?_)
 refine zH hO (i := 0) rfl (off := 5) rfl rfl rfl rfl (Nat.le_of_ble_eq_true rfl) rfl fun σ hO => ?_
 have hO := zs71 hO
 refine ze (zg ?_)
 cases hF
 exact (hQ _ _ _ _ _ rfl hO hL ⟨rfl, rfl⟩).2
theorem zrB {τ : Hp}   {rr : zA} (hF : zkD  = some rr) :
  Ctr Tryz.prog 84 #[.func (.func 114) #[] #[], .func (.func 115) #[] #[], .func (.func 116) #[] #[]] τ [] (fun v τ' vs' => ∃ (f0_0 : Fn) (a0_0 c0_0 : Array Value) (f0_1 : Fn) (a0_1 c0_1 : Array Value) (f0_2 : Fn) (a0_2 c0_2 : Array Value), v = .agg #[.func f0_0 a0_0 c0_0, .func f0_1 a0_1 c0_1, .func f0_2 a0_2 c0_2] ∧ vs' = [] ∧ zbX τ' rr (.func f0_0 a0_0 c0_0) (.func f0_1 a0_1 c0_1) (.func f0_2 a0_2 c0_2)) := by
 refine zu (args := [.func (.func 114) #[] #[], .func (.func 115) #[] #[], .func (.func 116) #[] #[]]) hm Tryz.func84 s84 rfl fun w0 σ hO Q hQ => ?_
 unfold zkD at hF
 have hL := Hp.le.refl τ
 show wpn _ _ a84.body _ _ _
 unfold a84
 dsimp only
 refine zbq (n := 1) hO rfl rfl fun b4 σ hO => ?_
 have hO := zs71 hO
 refine zbq (n := 1) hO rfl rfl fun b5 σ hO => ?_
 have hO := zs72 hO
 refine zbE hO fun b6 σ hO => ?_
 have hO := zs73 hO
 refine ze (zc hO 4 [] [(10, .agg #[(.func (.func 114) #[] #[]), (.func (.func 117) #[] #[(.pointer (some ⟨b4, 0, none⟩))]), (.func (.func 118) #[] #[(.pointer (some ⟨b5, 0, none⟩))])])] [6] zsN fun j => ?_)
 refine zH hO (i := 2) rfl (off := 0) rfl rfl rfl rfl (Nat.le_of_ble_eq_true rfl) rfl fun σ hO => ?_
 have hO := zs73 hO
 refine ze (zq ?_)
 obtain ⟨_, h8, m7, hO⟩ := hO.shareV (i := 0) rfl
 have hL := hL.trans h8
 have hO := zs73 hO
 obtain ⟨_, h10, m9, hO⟩ := hO.shareV (i := 1) rfl
 have hL := hL.trans h10
 have m7 := m7.le h10
 have hO := zs73 hO
 cases hF
 have hV0 := hO.val (i := 2) rfl (off := 0) (agg := true) (n := 3) rfl
 have hO := hO.sel []
 exact hQ _ _ _ _ _ (zbH rfl (hV0) rfl) hO hL ⟨_, _, _, _, _, _, _, _, _, rfl, rfl, ⟨(⟨b4, 0, none⟩ : Addr), (⟨b5, 0, none⟩ : Addr), rfl, rfl, rfl, m7, m9⟩⟩
theorem zsd {τ : Hp}   {rr : zA} (hF : zla  = some rr) :
  Ctr Tryz.prog 82 #[] τ [] (fun v τ' vs' => ∃ (f0_0 : Fn) (a0_0 c0_0 : Array Value) (f0_1 : Fn) (a0_1 c0_1 : Array Value) (f0_2 : Fn) (a0_2 c0_2 : Array Value), v = .agg #[.func f0_0 a0_0 c0_0, .func f0_1 a0_1 c0_1, .func f0_2 a0_2 c0_2] ∧ vs' = [] ∧ zbX τ' rr (.func f0_0 a0_0 c0_0) (.func f0_1 a0_1 c0_1) (.func f0_2 a0_2 c0_2)) := by
 refine zu (args := []) hm Tryz.func82 s82 rfl fun w0 σ hO Q hQ => ?_
 unfold zla at hF
 have hL := Hp.le.refl τ
 show wpn _ _ a82.body _ _ _
 unfold a82
 dsimp only
 refine zbE hO fun b1 σ hO => ?_
 have hO := zs71 hO
 refine ze ?_
 obtain ⟨c2, h3, hF⟩ := zs8 hF
 refine zo hO (zrB h3) rfl fun _ σ _ _ hO h4 h5 => ?_
 have hL := hL.trans h4
 obtain ⟨f7, a8, c9, f10, a11, c12, f13, a14, c15, rfl, rfl, r6⟩ := h5
 have hO := zs71 hO
 refine zH hO (i := 0) rfl (off := 0) rfl rfl rfl rfl (Nat.le_of_ble_eq_true rfl) rfl fun σ hO => ?_
 have hO := zs71 hO
 refine ze (zq ?_)
 cases hF
 have hV0 := hO.val (i := 0) rfl (off := 0) (agg := true) (n := 3) rfl
 have hO := hO.sel []
 exact hQ _ _ _ _ _ (zbH rfl (hV0) rfl) hO hL ⟨_, _, _, _, _, _, _, _, _, rfl, rfl, r6⟩
theorem zoE {τ : Hp}   {rr : zA} (hF : zkh  = some rr) :
  Ctr Tryz.prog 75 #[.func (.func 73) #[] #[]] τ [] (fun v τ' vs' => ∃ (f0_0 : Fn) (a0_0 c0_0 : Array Value) (f0_1 : Fn) (a0_1 c0_1 : Array Value) (f0_2 : Fn) (a0_2 c0_2 : Array Value), v = .agg #[.func f0_0 a0_0 c0_0, .func f0_1 a0_1 c0_1, .func f0_2 a0_2 c0_2] ∧ vs' = [] ∧ zbX τ' rr (.func f0_0 a0_0 c0_0) (.func f0_1 a0_1 c0_1) (.func f0_2 a0_2 c0_2)) := by
 refine zu (args := [.func (.func 73) #[] #[]]) hm Tryz.func75 s75 rfl fun w0 σ hO Q hQ => ?_
 unfold zkh at hF
 have hL := Hp.le.refl τ
 show wpn _ _ a75.body _ _ _
 unfold a75
 dsimp only
 refine zbE hO fun b2 σ hO => ?_
 have hO := zs71 hO
 refine ze (zc hO 2 [] [(4, .agg #[(.func (.func 73) #[] #[]), (.func (.func 89) #[] #[]), (.func (.func 91) #[] #[])])] [2] zsN fun j => ?_)
 refine zH hO (i := 0) rfl (off := 0) rfl rfl rfl rfl (Nat.le_of_ble_eq_true rfl) rfl fun σ hO => ?_
 have hO := zs71 hO
 refine ze (zq ?_)
 cases hF
 have hV0 := hO.val (i := 0) rfl (off := 0) (agg := true) (n := 3) rfl
 have hO := hO.sel []
 exact hQ _ _ _ _ _ (zbH rfl (hV0) rfl) hO hL ⟨_, _, _, _, _, _, _, _, _, rfl, rfl, ⟨rfl, rfl, rfl⟩⟩
theorem zj6 {τ : Hp}   {rr : zA} (hF : zhU  = some rr) :
  Ctr Tryz.prog 75 #[.func (.func 79) #[] #[]] τ [] (fun v τ' vs' => ∃ (f0_0 : Fn) (a0_0 c0_0 : Array Value) (f0_1 : Fn) (a0_1 c0_1 : Array Value) (f0_2 : Fn) (a0_2 c0_2 : Array Value), v = .agg #[.func f0_0 a0_0 c0_0, .func f0_1 a0_1 c0_1, .func f0_2 a0_2 c0_2] ∧ vs' = [] ∧ zbX τ' rr (.func f0_0 a0_0 c0_0) (.func f0_1 a0_1 c0_1) (.func f0_2 a0_2 c0_2)) := by
 refine zu (args := [.func (.func 79) #[] #[]]) hm Tryz.func75 s75 rfl fun w0 σ hO Q hQ => ?_
 unfold zhU at hF
 have hL := Hp.le.refl τ
 show wpn _ _ a75.body _ _ _
 unfold a75
 dsimp only
 refine zbE hO fun b2 σ hO => ?_
 have hO := zs71 hO
 refine ze (zc hO 2 [] [(4, .agg #[(.func (.func 79) #[] #[]), (.func (.func 89) #[] #[]), (.func (.func 91) #[] #[])])] [2] zsN fun j => ?_)
 refine zH hO (i := 0) rfl (off := 0) rfl rfl rfl rfl (Nat.le_of_ble_eq_true rfl) rfl fun σ hO => ?_
 have hO := zs71 hO
 refine ze (zq ?_)
 cases hF
 have hV0 := hO.val (i := 0) rfl (off := 0) (agg := true) (n := 3) rfl
 have hO := hO.sel []
 exact hQ _ _ _ _ _ (zbH rfl (hV0) rfl) hO hL ⟨_, _, _, _, _, _, _, _, _, rfl, rfl, ⟨rfl, rfl, rfl⟩⟩
theorem zmz {τ : Hp} {p0 : Int}  {rr : (List zA) × Bool} (hF : zfI p0 = some rr) :
  Ctr Tryz.prog 60 #[.int .u8 p0] τ [] (fun v τ' vs' => ∃ (v0 : Value) (o0 : Ob), v = .tuple #[v0, .bool rr.2] ∧ vs' = [o0] ∧ zd zcu 104 τ' v0 rr.1 o0) := by
 refine zu (args := [.int .u8 p0]) hm Tryz.func60 s60 rfl fun w0 σ hO Q hQ => ?_
 unfold zfI at hF
 have hL := Hp.le.refl τ
 show wpn _ _ a60.body _ _ _
 unfold a60
 dsimp only
 refine za hO [] [] [0] zsM fun j => ?_
 refine za hO [] [(4, .func (.func 73) #[] #[])] [0] zsN fun j => ?_
 refine zb (za hO [] [(5, .int .u8 p0)] [4] zsN fun j => ?_)
 refine zW (zb (za hO [] [(6, .bool (p0 == 1))] [4, 5] zsO fun j => ?_))
 refine zbK (fun e' σ' => ∃ (x3 : Bool) (τ' : Hp), agr [(4, .func (.func 73) #[] #[]), (5, .int .u8 p0), (6, .bool x3)] e' ∧ Obs τ' σ' [] ∧ Hp.le τ τ' ∧ zhF p0 x3 = some rr) ?_ ?_
 ·refine z5 (zi hF rfl (fun hF => ?_) fun hF => ?_)
  ·refine zl (zg (zk ?_))
   exact ⟨(p0 == 1), _, zs1 zsN, hO, hL, hF⟩
  refine za hO [] [(6, .bool (p0 == 13))] [4, 5] zsO fun j => ?_
  refine zg (zk ?_)
  exact ⟨(p0 == 13), _, zs1 zsN, hO, hL, hF⟩
 rintro e σ ⟨x3, _, hA, hO, hL, hF⟩
 rw [← zD _ _ hA]
 unfold zhF at hF
 refine z5 (zi hF rfl (fun hF => ?_) fun hF => ?_)
 ·refine zb (zj hO [] [(2, .slice none 0 0), (3, .bool true)] zsN fun j => ?_)
  refine zp (zJ (zB ?_))
  have hO := hO.no
  have hO := zs71 hO
  cases hF
  exact hQ _ _ _ _ _ rfl hO hL ⟨_, _, rfl, rfl, (zd.nil _ _ _)⟩
 refine zb (za hO [] [(9, .bool (p0 == 2))] [4, 5] zsO fun j => ?_)
 refine zi hF rfl (fun hF => ?_) fun hF => ?_
 ·refine zb ?_
  obtain ⟨c6, h7, hF⟩ := zs8 hF
  refine zo hO (zkC h7) rfl fun _ σ _ _ hO h8 h9 => ?_
  have hL := hL.trans h8
  obtain ⟨f11, a12, c13, f14, a15, c16, f17, a18, c19, rfl, rfl, r10⟩ := h9
  have hO : Obs _ _ [] := hO
  refine zc hO 1 [] [(12, .func (.func 73) #[] #[])] [11] zsN fun j => ?_
  obtain ⟨c20, h21, hF⟩ := zs8 hF
  refine zo hO (zoE h21) rfl fun _ σ _ _ hO h22 h23 => ?_
  have hL := hL.trans h22
  have r10 := r10.le h22
  obtain ⟨f25, a26, c27, f28, a29, c30, f31, a32, c33, rfl, rfl, r24⟩ := h23
  have hO : Obs _ _ [] := hO
  refine zbv (T := zcu) (l := ([c6, c20] : List zA)) (cs := [.func f11 a12 c13, .func f14 a15 c16, .func f17 a18 c19, .func f25 a26 c27, .func f28 a29 c30, .func f31 a32 c33]) hO rfl ⟨[.func f11 a12 c13, .func f14 a15 c16, .func f17 a18 c19], _, rfl, ⟨_, _, _, _, _, _, _, _, _, rfl, r10⟩, ⟨[.func f25 a26 c27, .func f28 a29 c30, .func f31 a32 c33], _, rfl, ⟨_, _, _, _, _, _, _, _, _, rfl, r24⟩, rfl⟩⟩ rfl (by decide) fun _ σ o36 w37 hO => ?_
  obtain ⟨A34, c35, rfl, -⟩ := w37.form
  have hO := zs71 hO
  refine zj hO [] [(2, zs9 A34 ([c6, c20] : List zA) c35), (3, .bool true)] zsN fun j => ?_
  refine zp (zJ (zB ?_))
  cases hF
  exact hQ _ _ _ _ _ rfl hO hL ⟨_, _, rfl, rfl, w37⟩
 refine zb (za hO [] [(15, .bool (p0 == 3))] [5] zsN fun j => ?_)
 refine zi hF rfl (fun hF => ?_) fun hF => ?_
 ·refine zb ?_
  obtain ⟨c39, h40, hF⟩ := zs8 hF
  refine zo hO (zh2 h40) rfl fun _ σ _ _ hO h41 h42 => ?_
  have hL := hL.trans h41
  obtain ⟨f44, a45, c46, f47, a48, c49, f50, a51, c52, rfl, rfl, r43⟩ := h42
  have hO : Obs _ _ [] := hO
  refine zbv (T := zcu) (l := ([c39] : List zA)) (cs := [.func f44 a45 c46, .func f47 a48 c49, .func f50 a51 c52]) hO rfl ⟨[.func f44 a45 c46, .func f47 a48 c49, .func f50 a51 c52], _, rfl, ⟨_, _, _, _, _, _, _, _, _, rfl, r43⟩, rfl⟩ rfl (by decide) fun _ σ o55 w56 hO => ?_
  obtain ⟨A53, c54, rfl, -⟩ := w56.form
  have hO := zs71 hO
  refine zj hO [] [(2, zs9 A53 ([c39] : List zA) c54), (3, .bool true)] zsN fun j => ?_
  refine zp (zJ (zB ?_))
  cases hF
  exact hQ _ _ _ _ _ rfl hO hL ⟨_, _, rfl, rfl, w56⟩
 refine zb (za hO [] [(19, .bool (p0 == 4))] [5] zsN fun j => ?_)
 refine zi hF rfl (fun hF => ?_) fun hF => ?_
 ·refine zb ?_
  obtain ⟨c58, h59, hF⟩ := zs8 hF
  refine zo hO (zmg h59) rfl fun _ σ _ _ hO h60 h61 => ?_
  have hL := hL.trans h60
  obtain ⟨f63, a64, c65, f66, a67, c68, f69, a70, c71, rfl, rfl, r62⟩ := h61
  have hO : Obs _ _ [] := hO
  obtain ⟨c72, h73, hF⟩ := zs8 hF
  refine zo hO (zh2 h73) rfl fun _ σ _ _ hO h74 h75 => ?_
  have hL := hL.trans h74
  have r62 := r62.le h74
  obtain ⟨f77, a78, c79, f80, a81, c82, f83, a84, c85, rfl, rfl, r76⟩ := h75
  have hO : Obs _ _ [] := hO
  obtain ⟨c86, h87, hF⟩ := zs8 hF
  refine zo hO (zlE h87) rfl fun _ σ _ _ hO h88 h89 => ?_
  have hL := hL.trans h88
  have r62 := r62.le h88
  have r76 := r76.le h88
  obtain ⟨f91, a92, c93, f94, a95, c96, f97, a98, c99, rfl, rfl, r90⟩ := h89
  have hO : Obs _ _ [] := hO
  refine zbv (T := zcu) (l := ([c58, c72, c86] : List zA)) (cs := [.func f63 a64 c65, .func f66 a67 c68, .func f69 a70 c71, .func f77 a78 c79, .func f80 a81 c82, .func f83 a84 c85, .func f91 a92 c93, .func f94 a95 c96, .func f97 a98 c99]) hO rfl ⟨[.func f63 a64 c65, .func f66 a67 c68, .func f69 a70 c71], _, rfl, ⟨_, _, _, _, _, _, _, _, _, rfl, r62⟩, ⟨[.func f77 a78 c79, .func f80 a81 c82, .func f83 a84 c85], _, rfl, ⟨_, _, _, _, _, _, _, _, _, rfl, r76⟩, ⟨[.func f91 a92 c93, .func f94 a95 c96, .func f97 a98 c99], _, rfl, ⟨_, _, _, _, _, _, _, _, _, rfl, r90⟩, rfl⟩⟩⟩ rfl (by decide) fun _ σ o102 w103 hO => ?_
  obtain ⟨A100, c101, rfl, -⟩ := w103.form
  have hO := zs71 hO
  refine zj hO [] [(2, zs9 A100 ([c58, c72, c86] : List zA) c101), (3, .bool true)] zsN fun j => ?_
  refine zp (zJ (zB ?_))
  cases hF
  exact hQ _ _ _ _ _ rfl hO hL ⟨_, _, rfl, rfl, w103⟩
 refine zb (za hO [] [(25, .bool (p0 == 5))] [5] zsN fun j => ?_)
 refine zi hF rfl (fun hF => ?_) fun hF => ?_
 ·refine zb ?_
  obtain ⟨c105, h106, hF⟩ := zs8 hF
  refine zo hO (zmg h106) rfl fun _ σ _ _ hO h107 h108 => ?_
  have hL := hL.trans h107
  obtain ⟨f110, zgh, c112, f113, zf3, c115, f116, zcG, c118, rfl, rfl, r109⟩ := h108
  have hO : Obs _ _ [] := hO
  obtain ⟨c119, h120, hF⟩ := zs8 hF
  refine zo hO (zh2 h120) rfl fun _ σ _ _ hO h121 h122 => ?_
  have hL := hL.trans h121
  have r109 := r109.le h121
  obtain ⟨f124, zeE, c126, f127, ze2, c129, f130, a131, c132, rfl, rfl, r123⟩ := h122
  have hO : Obs _ _ [] := hO
  refine zbv (T := zcu) (l := ([c105, c119] : List zA)) (cs := [.func f110 zgh c112, .func f113 zf3 c115, .func f116 zcG c118, .func f124 zeE c126, .func f127 ze2 c129, .func f130 a131 c132]) hO rfl ⟨[.func f110 zgh c112, .func f113 zf3 c115, .func f116 zcG c118], _, rfl, ⟨_, _, _, _, _, _, _, _, _, rfl, r109⟩, ⟨[.func f124 zeE c126, .func f127 ze2 c129, .func f130 a131 c132], _, rfl, ⟨_, _, _, _, _, _, _, _, _, rfl, r123⟩, rfl⟩⟩ rfl (by decide) fun _ σ o135 w136 hO => ?_
  obtain ⟨A133, c134, rfl, -⟩ := w136.form
  have hO := zs71 hO
  refine zj hO [] [(2, zs9 A133 ([c105, c119] : List zA) c134), (3, .bool true)] zsN fun j => ?_
  refine zp (zJ (zB ?_))
  cases hF
  exact hQ _ _ _ _ _ rfl hO hL ⟨_, _, rfl, rfl, w136⟩
 refine zb (zb (za hO [] [(30, .bool (p0 == 6))] [5] zsN fun j => ?_))
 refine zbK (fun e' σ' => ∃ (x138 : Bool) (τ' : Hp), agr [(5, .int .u8 p0), (30, .bool x138)] e' ∧ Obs τ' σ' [] ∧ Hp.le τ τ' ∧ zgU p0 x138 = some rr) ?_ ?_
 ·refine z5 (zi hF rfl (fun hF => ?_) fun hF => ?_)
  ·refine zl (zg (zk ?_))
   exact ⟨(p0 == 6), _, zs1 zsM, hO, hL, hF⟩
  refine za hO [] [(30, .bool (p0 == 7))] [5] zsN fun j => ?_
  refine zg (zk ?_)
  exact ⟨(p0 == 7), _, zs1 zsM, hO, hL, hF⟩
 rintro e σ ⟨x138, _, hA, hO, hL, hF⟩
 rw [← zD _ _ hA]
 unfold zgU at hF
 refine zi hF rfl (fun hF => ?_) fun hF => ?_
 ·refine zb ?_
  obtain ⟨c140, h141, hF⟩ := zs8 hF
  refine zo hO (zh2 h141) rfl fun _ σ _ _ hO h142 h143 => ?_
  have hL := hL.trans h142
  obtain ⟨f145, a146, c147, f148, a149, c150, f151, a152, c153, rfl, rfl, r144⟩ := h143
  have hO : Obs _ _ [] := hO
  obtain ⟨c154, h155, hF⟩ := zs8 hF
  refine zo hO (zj6 h155) rfl fun _ σ _ _ hO h156 h157 => ?_
  have hL := hL.trans h156
  have r144 := r144.le h156
  obtain ⟨f159, a160, c161, f162, a163, c164, f165, a166, c167, rfl, rfl, r158⟩ := h157
  have hO : Obs _ _ [] := hO
  refine zbv (T := zcu) (l := ([c140, c154] : List zA)) (cs := [.func f145 a146 c147, .func f148 a149 c150, .func f151 a152 c153, .func f159 a160 c161, .func f162 a163 c164, .func f165 a166 c167]) hO rfl ⟨[.func f145 a146 c147, .func f148 a149 c150, .func f151 a152 c153], _, rfl, ⟨_, _, _, _, _, _, _, _, _, rfl, r144⟩, ⟨[.func f159 a160 c161, .func f162 a163 c164, .func f165 a166 c167], _, rfl, ⟨_, _, _, _, _, _, _, _, _, rfl, r158⟩, rfl⟩⟩ rfl (by decide) fun _ σ o170 w171 hO => ?_
  obtain ⟨A168, c169, rfl, -⟩ := w171.form
  have hO := zs71 hO
  refine zj hO [] [(2, zs9 A168 ([c140, c154] : List zA) c169), (3, .bool true)] zsN fun j => ?_
  refine zp (zJ (zB ?_))
  cases hF
  exact hQ _ _ _ _ _ rfl hO hL ⟨_, _, rfl, rfl, w171⟩
 refine zb (zb (za hO [] [(36, .bool (p0 == 8))] [5] zsN fun j => ?_))
 refine zbK (fun e' σ' => ∃ (x173 : Bool) (τ' : Hp), agr [(5, .int .u8 p0), (36, .bool x173)] e' ∧ Obs τ' σ' [] ∧ Hp.le τ τ' ∧ zgQ p0 x173 = some rr) ?_ ?_
 ·refine z5 (zi hF rfl (fun hF => ?_) fun hF => ?_)
  ·refine zl (zg (zk ?_))
   exact ⟨(p0 == 8), _, zs1 zsM, hO, hL, hF⟩
  refine za hO [] [(36, .bool (p0 == 9))] [5] zsN fun j => ?_
  refine zg (zk ?_)
  exact ⟨(p0 == 9), _, zs1 zsM, hO, hL, hF⟩
 rintro e σ ⟨x173, _, hA, hO, hL, hF⟩
 rw [← zD _ _ hA]
 unfold zgQ at hF
 refine zi hF rfl (fun hF => ?_) fun hF => ?_
 ·refine zb ?_
  obtain ⟨c175, h176, hF⟩ := zs8 hF
  refine zo hO (zh2 h176) rfl fun _ σ _ _ hO h177 h178 => ?_
  have hL := hL.trans h177
  obtain ⟨f180, a181, c182, f183, a184, c185, f186, a187, c188, rfl, rfl, r179⟩ := h178
  have hO : Obs _ _ [] := hO
  obtain ⟨c189, h190, hF⟩ := zs8 hF
  refine zo hO (zlE h190) rfl fun _ σ _ _ hO h191 h192 => ?_
  have hL := hL.trans h191
  have r179 := r179.le h191
  obtain ⟨f194, a195, c196, f197, a198, c199, f200, a201, c202, rfl, rfl, r193⟩ := h192
  have hO : Obs _ _ [] := hO
  obtain ⟨c203, h204, hF⟩ := zs8 hF
  refine zo hO (zj6 h204) rfl fun _ σ _ _ hO h205 h206 => ?_
  have hL := hL.trans h205
  have r179 := r179.le h205
  have r193 := r193.le h205
  obtain ⟨f208, a209, c210, f211, a212, c213, f214, a215, c216, rfl, rfl, r207⟩ := h206
  have hO : Obs _ _ [] := hO
  obtain ⟨c217, h218, hF⟩ := zs8 hF
  refine zo hO (zo3 h218) rfl fun _ σ _ _ hO h219 h220 => ?_
  have hL := hL.trans h219
  have r179 := r179.le h219
  have r193 := r193.le h219
  have r207 := r207.le h219
  obtain ⟨f222, a223, c224, f225, a226, c227, f228, a229, c230, rfl, rfl, r221⟩ := h220
  have hO : Obs _ _ [] := hO
  refine zbv (T := zcu) (l := ([c175, c189, c203, c217] : List zA)) (cs := [.func f180 a181 c182, .func f183 a184 c185, .func f186 a187 c188, .func f194 a195 c196, .func f197 a198 c199, .func f200 a201 c202, .func f208 a209 c210, .func f211 a212 c213, .func f214 a215 c216, .func f222 a223 c224, .func f225 a226 c227, .func f228 a229 c230]) hO rfl ⟨[.func f180 a181 c182, .func f183 a184 c185, .func f186 a187 c188], _, rfl, ⟨_, _, _, _, _, _, _, _, _, rfl, r179⟩, ⟨[.func f194 a195 c196, .func f197 a198 c199, .func f200 a201 c202], _, rfl, ⟨_, _, _, _, _, _, _, _, _, rfl, r193⟩, ⟨[.func f208 a209 c210, .func f211 a212 c213, .func f214 a215 c216], _, rfl, ⟨_, _, _, _, _, _, _, _, _, rfl, r207⟩, ⟨[.func f222 a223 c224, .func f225 a226 c227, .func f228 a229 c230], _, rfl, ⟨_, _, _, _, _, _, _, _, _, rfl, r221⟩, rfl⟩⟩⟩⟩ rfl (by decide) fun _ σ o233 w234 hO => ?_
  obtain ⟨A231, c232, rfl, -⟩ := w234.form
  have hO := zs71 hO
  refine zj hO [] [(2, zs9 A231 ([c175, c189, c203, c217] : List zA) c232), (3, .bool true)] zsN fun j => ?_
  refine zp (zJ (zB ?_))
  cases hF
  exact hQ _ _ _ _ _ rfl hO hL ⟨_, _, rfl, rfl, w234⟩
 refine zb (zb (za hO [] [(44, .bool (p0 == 10))] [5] zsN fun j => ?_))
 refine zbK (fun e' σ' => ∃ (x236 : Bool) (τ' : Hp), agr [(5, .int .u8 p0), (44, .bool x236)] e' ∧ Obs τ' σ' [] ∧ Hp.le τ τ' ∧ zhx p0 x236 = some rr) ?_ ?_
 ·refine z5 (zi hF rfl (fun hF => ?_) fun hF => ?_)
  ·refine zl (zg (zk ?_))
   exact ⟨(p0 == 10), _, zs1 zsM, hO, hL, hF⟩
  refine za hO [] [(44, .bool (p0 == 12))] [5] zsN fun j => ?_
  refine zg (zk ?_)
  exact ⟨(p0 == 12), _, zs1 zsM, hO, hL, hF⟩
 rintro e σ ⟨x236, _, hA, hO, hL, hF⟩
 rw [← zD _ _ hA]
 unfold zhx at hF
 refine zi hF rfl (fun hF => ?_) fun hF => ?_
 ·refine zb ?_
  obtain ⟨c238, h239, hF⟩ := zs8 hF
  refine zo hO (zlA h239) rfl fun _ σ _ _ hO h240 h241 => ?_
  have hL := hL.trans h240
  obtain ⟨f243, a244, c245, f246, a247, c248, f249, a250, c251, rfl, rfl, r242⟩ := h241
  have hO : Obs _ _ [] := hO
  refine zbv (T := zcu) (l := ([c238] : List zA)) (cs := [.func f243 a244 c245, .func f246 a247 c248, .func f249 a250 c251]) hO rfl ⟨[.func f243 a244 c245, .func f246 a247 c248, .func f249 a250 c251], _, rfl, ⟨_, _, _, _, _, _, _, _, _, rfl, r242⟩, rfl⟩ rfl (by decide) fun _ σ o254 w255 hO => ?_
  obtain ⟨A252, c253, rfl, -⟩ := w255.form
  have hO := zs71 hO
  refine zj hO [] [(2, zs9 A252 ([c238] : List zA) c253), (3, .bool true)] zsN fun j => ?_
  refine zp (zJ (zB ?_))
  cases hF
  exact hQ _ _ _ _ _ rfl hO hL ⟨_, _, rfl, rfl, w255⟩
 refine zb (za hO [] [(49, .bool (p0 == 11))] [5] zsN fun j => ?_)
 refine zi hF rfl (fun hF => ?_) fun hF => ?_
 ·refine zb ?_
  obtain ⟨c257, h258, hF⟩ := zs8 hF
  refine zo hO (zkC h258) rfl fun _ σ _ _ hO h259 h260 => ?_
  have hL := hL.trans h259
  obtain ⟨f262, a263, c264, f265, a266, c267, f268, a269, c270, rfl, rfl, r261⟩ := h260
  have hO : Obs _ _ [] := hO
  obtain ⟨c271, h272, hF⟩ := zs8 hF
  refine zo hO (zlA h272) rfl fun _ σ _ _ hO h273 h274 => ?_
  have hL := hL.trans h273
  have r261 := r261.le h273
  obtain ⟨f276, a277, c278, f279, a280, c281, f282, a283, c284, rfl, rfl, r275⟩ := h274
  have hO : Obs _ _ [] := hO
  refine zbv (T := zcu) (l := ([c257, c271] : List zA)) (cs := [.func f262 a263 c264, .func f265 a266 c267, .func f268 a269 c270, .func f276 a277 c278, .func f279 a280 c281, .func f282 a283 c284]) hO rfl ⟨[.func f262 a263 c264, .func f265 a266 c267, .func f268 a269 c270], _, rfl, ⟨_, _, _, _, _, _, _, _, _, rfl, r261⟩, ⟨[.func f276 a277 c278, .func f279 a280 c281, .func f282 a283 c284], _, rfl, ⟨_, _, _, _, _, _, _, _, _, rfl, r275⟩, rfl⟩⟩ rfl (by decide) fun _ σ o287 w288 hO => ?_
  obtain ⟨A285, c286, rfl, -⟩ := w288.form
  have hO := zs71 hO
  refine zj hO [] [(2, zs9 A285 ([c257, c271] : List zA) c286), (3, .bool true)] zsN fun j => ?_
  refine zp (zJ (zB ?_))
  cases hF
  exact hQ _ _ _ _ _ rfl hO hL ⟨_, _, rfl, rfl, w288⟩
 refine zb (za hO [] [(54, .bool (p0 == 14))] [5] zsN fun j => ?_)
 refine zi hF rfl (fun hF => ?_) fun hF => ?_
 ·refine zb ?_
  obtain ⟨c290, h291, hF⟩ := zs8 hF
  refine zo hO (zj6 h291) rfl fun _ σ _ _ hO h292 h293 => ?_
  have hL := hL.trans h292
  obtain ⟨f295, a296, c297, f298, a299, c300, f301, a302, c303, rfl, rfl, r294⟩ := h293
  have hO : Obs _ _ [] := hO
  refine zbv (T := zcu) (l := ([c290] : List zA)) (cs := [.func f295 a296 c297, .func f298 a299 c300, .func f301 a302 c303]) hO rfl ⟨[.func f295 a296 c297, .func f298 a299 c300, .func f301 a302 c303], _, rfl, ⟨_, _, _, _, _, _, _, _, _, rfl, r294⟩, rfl⟩ rfl (by decide) fun _ σ o306 w307 hO => ?_
  obtain ⟨A304, c305, rfl, -⟩ := w307.form
  have hO := zs71 hO
  refine zj hO [] [(2, zs9 A304 ([c290] : List zA) c305), (3, .bool true)] zsN fun j => ?_
  refine zp (zJ (zB ?_))
  cases hF
  exact hQ _ _ _ _ _ rfl hO hL ⟨_, _, rfl, rfl, w307⟩
 refine zb (zb (za hO [] [(58, .bool (p0 == 15))] [5] zsN fun j => ?_))
 refine zbK (fun e' σ' => ∃ (x310 : Bool) (τ' : Hp), agr [(5, .int .u8 p0), (58, .bool x310)] e' ∧ Obs τ' σ' [] ∧ Hp.le τ τ' ∧ zf5 p0 x310 = some rr) ?_ ?_
 ·refine z5 (zi hF rfl (fun hF => ?_) fun hF => ?_)
  ·refine zl (zg (zk ?_))
   exact ⟨(p0 == 15), _, zs1 zsM, hO, hL, hF⟩
  refine zb (za hO [] [(58, .bool (p0 == 16))] [5] zsN fun j => ?_)
  refine zi hF rfl (fun hF => ?_) fun hF => ?_
  ·refine zl (zg (zk ?_))
   exact ⟨(p0 == 16), _, zs1 zsM, hO, hL, hF⟩
  refine za hO [] [(58, .bool (p0 == 17))] [5] zsN fun j => ?_
  refine zg (zk ?_)
  exact ⟨(p0 == 17), _, zs1 zsM, hO, hL, hF⟩
 rintro e σ ⟨x310, _, hA, hO, hL, hF⟩
 rw [← zD _ _ hA]
 unfold zf5 at hF
 refine zi hF rfl (fun hF => ?_) fun hF => ?_
 ·refine zb ?_
  obtain ⟨c312, h313, hF⟩ := zs8 hF
  refine zo hO (zkC h313) rfl fun _ σ _ _ hO h314 h315 => ?_
  have hL := hL.trans h314
  obtain ⟨f317, a318, c319, f320, a321, c322, f323, a324, c325, rfl, rfl, r316⟩ := h315
  have hO : Obs _ _ [] := hO
  refine zbv (T := zcu) (l := ([c312] : List zA)) (cs := [.func f317 a318 c319, .func f320 a321 c322, .func f323 a324 c325]) hO rfl ⟨[.func f317 a318 c319, .func f320 a321 c322, .func f323 a324 c325], _, rfl, ⟨_, _, _, _, _, _, _, _, _, rfl, r316⟩, rfl⟩ rfl (by decide) fun _ σ o328 w329 hO => ?_
  obtain ⟨A326, c327, rfl, -⟩ := w329.form
  have hO := zs71 hO
  refine zj hO [] [(2, zs9 A326 ([c312] : List zA) c327), (3, .bool true)] zsN fun j => ?_
  refine zp (zJ (zB ?_))
  cases hF
  exact hQ _ _ _ _ _ rfl hO hL ⟨_, _, rfl, rfl, w329⟩
 refine zb (zj hO [] [(64, .bool (p0 == 18))] zsM fun j => ?_)
 refine zi hF rfl (fun hF => ?_) fun hF => ?_
 ·refine zb ?_
  obtain ⟨c331, h332, hF⟩ := zs8 hF
  refine zo hO (zsd h332) rfl fun _ σ _ _ hO h333 h334 => ?_
  have hL := hL.trans h333
  obtain ⟨f336, a337, c338, f339, a340, c341, f342, a343, c344, rfl, rfl, r335⟩ := h334
  have hO : Obs _ _ [] := hO
  refine zbv (T := zcu) (l := ([c331] : List zA)) (cs := [.func f336 a337 c338, .func f339 a340 c341, .func f342 a343 c344]) hO rfl ⟨[.func f336 a337 c338, .func f339 a340 c341, .func f342 a343 c344], _, rfl, ⟨_, _, _, _, _, _, _, _, _, rfl, r335⟩, rfl⟩ rfl (by decide) fun _ σ o347 w348 hO => ?_
  obtain ⟨A345, c346, rfl, -⟩ := w348.form
  have hO := zs71 hO
  refine zj hO [] [(2, zs9 A345 ([c331] : List zA) c346), (3, .bool true)] zsN fun j => ?_
  refine zp (zJ (zB ?_))
  cases hF
  exact hQ _ _ _ _ _ rfl hO hL ⟨_, _, rfl, rfl, w348⟩
 refine zl (zg (zF (zk (zj hO [] [(2, .slice none 0 0), (3, .bool false)] zsN fun j => ?_))))
 refine zq ?_
 have hO := hO.no
 have hO := zs71 hO
 cases hF
 exact hQ _ _ _ _ _ rfl hO hL ⟨_, _, rfl, rfl, (zd.nil _ _ _)⟩
theorem zq1 {τ : Hp} {v0 : Value} {p0 : (List UInt8)} {p1 : Int} {q2 : zf} {bm2 : Nat} {af0 : Addr} (r0 : RdT Ty.u8 τ v0 p0) (mf0 : At τ af0 [.func (.func 88) #[] #[]]) {rr : Int × Bool × zf} (hF : zgA p0 p1 q2 = some rr) :
  Ctr Tryz.prog 118 #[v0, .int .i64 p1, .pointer (some ⟨bm2, 0, none⟩), .pointer (some af0)] τ [zy bm2 q2.Kind.toNat q2.Op.toNat q2.R q2.S q2.T q2.N q2.M] (fun v τ' vs' => v = .tuple #[.int .i64 rr.1, .bool rr.2.1] ∧ vs' = [zy bm2 rr.2.2.Kind.toNat rr.2.2.Op.toNat rr.2.2.R rr.2.2.S rr.2.2.T rr.2.2.N rr.2.2.M]) := by
 obtain ⟨A0, c0, rfl, -⟩ := r0.form
 refine zu (args := [.slice A0 p0.length c0, .int .i64 p1, .pointer (some ⟨bm2, 0, none⟩), .pointer (some af0)]) hm Tryz.func118 zgx rfl fun w0 σ hO Q hQ => ?_
 unfold zgA at hF
 have hL := Hp.le.refl τ
 show wpn _ _ zdi.body _ _ _
 unfold zdi
 dsimp only
 refine za hO [] [] [0, 1, 2, 3] zsP fun j => ?_
 refine zc hO 2 [] [(13, zs9 A0 p0 c0), (14, zs2 p1)] [2, 3] zsP fun j => ?_
 obtain ⟨c4, h5, hF⟩ := zs8 hF
 refine zo hO (zgv (r0.le hL) h5) rfl fun _ σ _ _ hO h6 h7 => ?_
 have hL := hL.trans h6
 obtain ⟨rfl, rfl⟩ := h7
 have hO := zs71 hO
 refine za hO [] [(9, .int .u8 c4.1), (10, zs2 c4.2.1), (11, zs2 c4.2.2)] [2, 3] zsQ fun j => ?_
 refine zL rfl ((mf0.le hL).le hO.base).fst ?_
 refine zc hO 2 [] [(20, zs3 bm2), (21, .int .u8 c4.1)] [2, 10, 11, 19] zsR fun j => ?_
 obtain ⟨c8, h9, hF⟩ := zs8 hF
 refine zdh (hs := []) (vs := [_]) rfl (by kernel_rfl) hO (zpy (q0 := (⟨q2.Kind, q2.Op, q2.R, q2.S, q2.T, q2.N, q2.M⟩ : zf)) h9) rfl fun _ σ _ _ hO h10 h11 => ?_
 have hL := hL.trans h10
 obtain ⟨rfl, rfl⟩ := h11
 have hO := zs71 hO
 refine ze (za hO [] [(7, zs2 c4.2.1), (8, .bool (c4.2.2 == 0))] [2] zsO fun j => ?_)
 refine zq ?_
 cases hF
 exact hQ _ _ _ _ _ rfl hO hL ⟨rfl, rfl⟩
theorem zpf {τ : Hp} {v0 : Value} {p0 : (List UInt8)} {p1 : Int} {q2 : zf} {bm2 : Nat} {af0 : Addr} (r0 : RdT Ty.u8 τ v0 p0) (mf0 : At τ af0 [.func (.func 96) #[] #[]]) {rr : Int × Bool × zf} (hF : zg8 p0 p1 q2 = some rr) :
  Ctr Tryz.prog 118 #[v0, .int .i64 p1, .pointer (some ⟨bm2, 0, none⟩), .pointer (some af0)] τ [zy bm2 q2.Kind.toNat q2.Op.toNat q2.R q2.S q2.T q2.N q2.M] (fun v τ' vs' => v = .tuple #[.int .i64 rr.1, .bool rr.2.1] ∧ vs' = [zy bm2 rr.2.2.Kind.toNat rr.2.2.Op.toNat rr.2.2.R rr.2.2.S rr.2.2.T rr.2.2.N rr.2.2.M]) := by
 obtain ⟨A0, c0, rfl, -⟩ := r0.form
 refine zu (args := [.slice A0 p0.length c0, .int .i64 p1, .pointer (some ⟨bm2, 0, none⟩), .pointer (some af0)]) hm Tryz.func118 zgx rfl fun w0 σ hO Q hQ => ?_
 unfold zg8 at hF
 have hL := Hp.le.refl τ
 show wpn _ _ zdi.body _ _ _
 unfold zdi
 dsimp only
 refine za hO [] [] [0, 1, 2, 3] zsP fun j => ?_
 refine zc hO 2 [] [(13, zs9 A0 p0 c0), (14, zs2 p1)] [2, 3] zsP fun j => ?_
 obtain ⟨c4, h5, hF⟩ := zs8 hF
 refine zo hO (zgv (r0.le hL) h5) rfl fun _ σ _ _ hO h6 h7 => ?_
 have hL := hL.trans h6
 obtain ⟨rfl, rfl⟩ := h7
 have hO := zs71 hO
 refine za hO [] [(9, .int .u8 c4.1), (10, zs2 c4.2.1), (11, zs2 c4.2.2)] [2, 3] zsQ fun j => ?_
 refine zL rfl ((mf0.le hL).le hO.base).fst ?_
 refine zc hO 2 [] [(20, zs3 bm2), (21, .int .u8 c4.1)] [2, 10, 11, 19] zsR fun j => ?_
 obtain ⟨c8, h9, hF⟩ := zs8 hF
 refine zdh (hs := []) (vs := [_]) rfl (by kernel_rfl) hO (zr2 (q0 := (⟨q2.Kind, q2.Op, q2.R, q2.S, q2.T, q2.N, q2.M⟩ : zf)) h9) rfl fun _ σ _ _ hO h10 h11 => ?_
 have hL := hL.trans h10
 obtain ⟨rfl, rfl⟩ := h11
 have hO := zs71 hO
 refine ze (za hO [] [(7, zs2 c4.2.1), (8, .bool (c4.2.2 == 0))] [2] zsO fun j => ?_)
 refine zq ?_
 cases hF
 exact hQ _ _ _ _ _ rfl hO hL ⟨rfl, rfl⟩
theorem zpW {τ : Hp} {v0 : Value} {p0 : (List UInt8)} {p1 : Int} {q2 : zf} {bm2 : Nat} {af0 : Addr} (r0 : RdT Ty.u8 τ v0 p0) (mf0 : At τ af0 [.func (.func 100) #[] #[]]) {rr : Int × Bool × zf} (hF : zg6 p0 p1 q2 = some rr) :
  Ctr Tryz.prog 118 #[v0, .int .i64 p1, .pointer (some ⟨bm2, 0, none⟩), .pointer (some af0)] τ [zy bm2 q2.Kind.toNat q2.Op.toNat q2.R q2.S q2.T q2.N q2.M] (fun v τ' vs' => v = .tuple #[.int .i64 rr.1, .bool rr.2.1] ∧ vs' = [zy bm2 rr.2.2.Kind.toNat rr.2.2.Op.toNat rr.2.2.R rr.2.2.S rr.2.2.T rr.2.2.N rr.2.2.M]) := by
 obtain ⟨A0, c0, rfl, -⟩ := r0.form
 refine zu (args := [.slice A0 p0.length c0, .int .i64 p1, .pointer (some ⟨bm2, 0, none⟩), .pointer (some af0)]) hm Tryz.func118 zgx rfl fun w0 σ hO Q hQ => ?_
 unfold zg6 at hF
 have hL := Hp.le.refl τ
 show wpn _ _ zdi.body _ _ _
 unfold zdi
 dsimp only
 refine za hO [] [] [0, 1, 2, 3] zsP fun j => ?_
 refine zc hO 2 [] [(13, zs9 A0 p0 c0), (14, zs2 p1)] [2, 3] zsP fun j => ?_
 obtain ⟨c4, h5, hF⟩ := zs8 hF
 refine zo hO (zgv (r0.le hL) h5) rfl fun _ σ _ _ hO h6 h7 => ?_
 have hL := hL.trans h6
 obtain ⟨rfl, rfl⟩ := h7
 have hO := zs71 hO
 refine za hO [] [(9, .int .u8 c4.1), (10, zs2 c4.2.1), (11, zs2 c4.2.2)] [2, 3] zsQ fun j => ?_
 refine zL rfl ((mf0.le hL).le hO.base).fst ?_
 refine zc hO 2 [] [(20, zs3 bm2), (21, .int .u8 c4.1)] [2, 10, 11, 19] zsR fun j => ?_
 obtain ⟨c8, h9, hF⟩ := zs8 hF
 refine zdh (hs := []) (vs := [_]) rfl (by kernel_rfl) hO (zoV (q0 := (⟨q2.Kind, q2.Op, q2.R, q2.S, q2.T, q2.N, q2.M⟩ : zf)) h9) rfl fun _ σ _ _ hO h10 h11 => ?_
 have hL := hL.trans h10
 obtain ⟨rfl, rfl⟩ := h11
 have hO := zs71 hO
 refine ze (za hO [] [(7, zs2 c4.2.1), (8, .bool (c4.2.2 == 0))] [2] zsO fun j => ?_)
 refine zq ?_
 cases hF
 exact hQ _ _ _ _ _ rfl hO hL ⟨rfl, rfl⟩
theorem zoL {τ : Hp} {v0 : Value} {p0 : (List UInt8)} {p1 : Int} {q2 : zf} {bm2 : Nat} {af0 : Addr} (r0 : RdT Ty.u8 τ v0 p0) (mf0 : At τ af0 [.func (.func 103) #[] #[]]) {rr : Int × Bool × zf} (hF : zhb p0 p1 q2 = some rr) :
  Ctr Tryz.prog 118 #[v0, .int .i64 p1, .pointer (some ⟨bm2, 0, none⟩), .pointer (some af0)] τ [zy bm2 q2.Kind.toNat q2.Op.toNat q2.R q2.S q2.T q2.N q2.M] (fun v τ' vs' => v = .tuple #[.int .i64 rr.1, .bool rr.2.1] ∧ vs' = [zy bm2 rr.2.2.Kind.toNat rr.2.2.Op.toNat rr.2.2.R rr.2.2.S rr.2.2.T rr.2.2.N rr.2.2.M]) := by
 obtain ⟨A0, c0, rfl, -⟩ := r0.form
 refine zu (args := [.slice A0 p0.length c0, .int .i64 p1, .pointer (some ⟨bm2, 0, none⟩), .pointer (some af0)]) hm Tryz.func118 zgx rfl fun w0 σ hO Q hQ => ?_
 unfold zhb at hF
 have hL := Hp.le.refl τ
 show wpn _ _ zdi.body _ _ _
 unfold zdi
 dsimp only
 refine za hO [] [] [0, 1, 2, 3] zsP fun j => ?_
 refine zc hO 2 [] [(13, zs9 A0 p0 c0), (14, zs2 p1)] [2, 3] zsP fun j => ?_
 obtain ⟨c4, h5, hF⟩ := zs8 hF
 refine zo hO (zgv (r0.le hL) h5) rfl fun _ σ _ _ hO h6 h7 => ?_
 have hL := hL.trans h6
 obtain ⟨rfl, rfl⟩ := h7
 have hO := zs71 hO
 refine za hO [] [(9, .int .u8 c4.1), (10, zs2 c4.2.1), (11, zs2 c4.2.2)] [2, 3] zsQ fun j => ?_
 refine zL rfl ((mf0.le hL).le hO.base).fst ?_
 refine zc hO 2 [] [(20, zs3 bm2), (21, .int .u8 c4.1)] [2, 10, 11, 19] zsR fun j => ?_
 obtain ⟨c8, h9, hF⟩ := zs8 hF
 refine zdh (hs := []) (vs := [_]) rfl (by kernel_rfl) hO (zoj (q0 := (⟨q2.Kind, q2.Op, q2.R, q2.S, q2.T, q2.N, q2.M⟩ : zf)) h9) rfl fun _ σ _ _ hO h10 h11 => ?_
 have hL := hL.trans h10
 obtain ⟨rfl, rfl⟩ := h11
 have hO := zs71 hO
 refine ze (za hO [] [(7, zs2 c4.2.1), (8, .bool (c4.2.2 == 0))] [2] zsO fun j => ?_)
 refine zq ?_
 cases hF
 exact hQ _ _ _ _ _ rfl hO hL ⟨rfl, rfl⟩
theorem zoe {τ : Hp} {v0 : Value} {p0 : (List UInt8)} {p1 : Int} {q2 : zf} {bm2 : Nat} {af0 : Addr} (r0 : RdT Ty.u8 τ v0 p0) (mf0 : At τ af0 [.func (.func 116) #[] #[]]) {rr : Int × Bool × zf} (hF : zgq p0 p1 q2 = some rr) :
  Ctr Tryz.prog 118 #[v0, .int .i64 p1, .pointer (some ⟨bm2, 0, none⟩), .pointer (some af0)] τ [zy bm2 q2.Kind.toNat q2.Op.toNat q2.R q2.S q2.T q2.N q2.M] (fun v τ' vs' => v = .tuple #[.int .i64 rr.1, .bool rr.2.1] ∧ vs' = [zy bm2 rr.2.2.Kind.toNat rr.2.2.Op.toNat rr.2.2.R rr.2.2.S rr.2.2.T rr.2.2.N rr.2.2.M]) := by
 obtain ⟨A0, c0, rfl, -⟩ := r0.form
 refine zu (args := [.slice A0 p0.length c0, .int .i64 p1, .pointer (some ⟨bm2, 0, none⟩), .pointer (some af0)]) hm Tryz.func118 zgx rfl fun w0 σ hO Q hQ => ?_
 unfold zgq at hF
 have hL := Hp.le.refl τ
 show wpn _ _ zdi.body _ _ _
 unfold zdi
 dsimp only
 refine za hO [] [] [0, 1, 2, 3] zsP fun j => ?_
 refine zc hO 2 [] [(13, zs9 A0 p0 c0), (14, zs2 p1)] [2, 3] zsP fun j => ?_
 obtain ⟨c4, h5, hF⟩ := zs8 hF
 refine zo hO (zgv (r0.le hL) h5) rfl fun _ σ _ _ hO h6 h7 => ?_
 have hL := hL.trans h6
 obtain ⟨rfl, rfl⟩ := h7
 have hO := zs71 hO
 refine za hO [] [(9, .int .u8 c4.1), (10, zs2 c4.2.1), (11, zs2 c4.2.2)] [2, 3] zsQ fun j => ?_
 refine zL rfl ((mf0.le hL).le hO.base).fst ?_
 refine zc hO 2 [] [(20, zs3 bm2), (21, .int .u8 c4.1)] [2, 10, 11, 19] zsR fun j => ?_
 obtain ⟨c8, h9, hF⟩ := zs8 hF
 refine zdh (hs := []) (vs := [_]) rfl (by kernel_rfl) hO (zpY (q0 := (⟨q2.Kind, q2.Op, q2.R, q2.S, q2.T, q2.N, q2.M⟩ : zf)) h9) rfl fun _ σ _ _ hO h10 h11 => ?_
 have hL := hL.trans h10
 obtain ⟨rfl, rfl⟩ := h11
 have hO := zs71 hO
 refine ze (za hO [] [(7, zs2 c4.2.1), (8, .bool (c4.2.2 == 0))] [2] zsO fun j => ?_)
 refine zq ?_
 cases hF
 exact hQ _ _ _ _ _ rfl hO hL ⟨rfl, rfl⟩
theorem zsF {τ : Hp} {x : zA} {u0 u1 u2 : Value} (hx : zbX τ x u0 u1 u2) {v0 : Value} {p0 : (List UInt8)} {p1 : Int} {q2 : zf} {bm2 : Nat} (r0 : RdT Ty.u8 τ v0 p0) {rr : Int × Bool × zf} (hF : zec x p0 p1 q2 = some rr) :
  FnC Tryz.prog u2 #[v0, .int .i64 p1, .pointer (some ⟨bm2, 0, none⟩)] τ [zy bm2 q2.Kind.toNat q2.Op.toNat q2.R q2.S q2.T q2.N q2.M] (fun v τ' vs' => v = .tuple #[.int .i64 rr.1, .bool rr.2.1] ∧ vs' = [zy bm2 rr.2.2.Kind.toNat rr.2.2.Op.toNat rr.2.2.R rr.2.2.S rr.2.2.T rr.2.2.N rr.2.2.M]) := by
 cases x with
 | c_one_1 => obtain ⟨a1_0, a2_0, rfl, rfl, rfl, m0, m1⟩ := hx; exact ⟨118, #[], #[.pointer (some a2_0)], _, rfl, by kernel_rfl, rfl, zq1 r0 m1 hF⟩
 | c_both_1 => obtain ⟨a1_0, a2_0, rfl, rfl, rfl, m0, m1⟩ := hx; exact ⟨118, #[], #[.pointer (some a2_0)], _, rfl, by kernel_rfl, rfl, zpf r0 m1 hF⟩
 | c_op_1 x0 x1 => obtain ⟨a0_0, a0_1, a1_0, a2_0, rfl, rfl, rfl, m0, m1, m2, m3⟩ := hx; exact ⟨118, #[], #[.pointer (some a2_0)], _, rfl, by kernel_rfl, rfl, zpW r0 m3 hF⟩
 | c_third_1 => obtain ⟨a1_0, a2_0, rfl, rfl, rfl, m0, m1⟩ := hx; exact ⟨118, #[], #[.pointer (some a2_0)], _, rfl, by kernel_rfl, rfl, zoL r0 m1 hF⟩
 | c_bound_1 => obtain ⟨rfl, rfl, rfl⟩ := hx; exact ⟨107, #[], #[], _, rfl, by kernel_rfl, rfl, zoU r0 hF⟩
 | c_to_1 => obtain ⟨rfl, rfl, rfl⟩ := hx; exact ⟨112, #[], #[], _, rfl, by kernel_rfl, rfl, zqB r0 hF⟩
 | c_how_1 => obtain ⟨a1_0, a2_0, rfl, rfl, rfl, m0, m1⟩ := hx; exact ⟨118, #[], #[.pointer (some a2_0)], _, rfl, by kernel_rfl, rfl, zoe r0 m1 hF⟩
 | c_parts_1 => obtain ⟨rfl, rfl, rfl⟩ := hx; exact ⟨91, #[], #[], _, rfl, by kernel_rfl, rfl, zlv r0 hF⟩
 | c_within => obtain ⟨rfl, rfl, rfl⟩ := hx; exact ⟨91, #[], #[], _, rfl, by kernel_rfl, rfl, zlv r0 hF⟩
theorem zmI {τ : Hp} {v0 : Value} {p0 : (List UInt8)} {p1 : Int} (r0 : RdT Ty.u8 τ v0 p0) {rr : zf × Int × Bool} (hF : zdH p0 p1 = some rr) :
  Ctr Tryz.prog 41 #[v0, .int .i64 p1] τ [] (fun v τ' vs' => v = .tuple #[.agg #[.int .u8 rr.1.Kind.toNat, .int .u8 rr.1.Op.toNat, .int .i64 rr.1.R, .int .i64 rr.1.S, .int .i64 rr.1.T, .int .i64 rr.1.N, .int .i64 rr.1.M], .int .i64 rr.2.1, .bool rr.2.2] ∧ vs' = []) := by
 obtain ⟨A0, c0, rfl, -⟩ := r0.form
 refine zu (args := [.slice A0 p0.length c0, .int .i64 p1]) hm Tryz.func41 s41 rfl fun w0 σ hO Q hQ => ?_
 unfold zdH at hF
 have hL := Hp.le.refl τ
 show wpn _ _ a41.body _ _ _
 unfold a41
 dsimp only
 refine zbE hO fun b3 σ hO => ?_
 have hO := zs71 hO
 refine za hO [] [] [0, 1, 4] zsO fun j => ?_
 refine zb (za hO [] [(13, .bool (decide (p1 ≥ (p0.length : Int))))] [0, 1, 4] zsP fun j => ?_)
 refine zi hF rfl (fun hF => ?_) fun hF => ?_
 ·refine zb (zc hO 1 [0] [(14, .agg #[(.int .u8 0), (.int .u8 0), (.int .i64 0), (.int .i64 0), (.int .i64 0), (.int .i64 0), (.int .i64 0)])] [4] (And.intro (And.intro rfl rfl) zsN) fun j => ?_)
  refine zH hO (i := 0) rfl (off := 0) rfl rfl rfl rfl (Nat.le_of_ble_eq_true rfl) rfl fun σ hO => ?_
  have hO := zs71 hO
  refine za hO [] [(5, zs2 0), (6, .bool false)] [4] zsO fun j => ?_
  refine zp ?_
  cases hF
  have hV0 := hO.val (i := 0) rfl (off := 0) (agg := true) (n := 7) rfl
  have hO := hO.sel []
  exact hQ _ _ _ _ _ (zbH rfl (hV0) (zbZ (zbZ rfl))) hO hL ⟨rfl, rfl⟩
 refine zl (zc hO 2 [] [(15, zs9 A0 p0 c0), (16, zs2 p1)] [0, 1, 4] zsQ fun j => ?_)
 obtain ⟨y5, g6, hF⟩ := zs8 hF
 refine zbJ (T := Ty.u8) (r0.le hL) hO.base rfl rfl g6 (by decide) fun a7 _ k8 m9 => ?_
 obtain rfl : _ = ([.int .u8 y5.toNat] : List Value) := k8
 refine zL rfl (m9.le hO.base).fst ?_
 refine zc hO 1 [] [(19, zs3 b3)] [0, 1, 4, 18] zsQ fun j => ?_
 refine zH hO (i := 0) rfl (off := 0) rfl rfl rfl rfl (Nat.le_of_ble_eq_true rfl) rfl fun σ hO => ?_
 have hO := zs71 hO
 refine ze (zc hO 2 [0] [(22, .int .u8 (y5.toNat : Int))] [0, 1, 4] (And.intro (And.intro rfl rfl) zsP) fun j => ?_)
 obtain ⟨c10, h11, hF⟩ := zs8 hF
 refine zo hO (zmz h11) rfl fun _ σ _ _ hO h12 h13 => ?_
 have hL := hL.trans h12
 obtain ⟨v14, o17, rfl, rfl, w18⟩ := h13
 obtain ⟨A15, c16, rfl, -⟩ := w18.form
 have hO := zs72 hO
 refine za hO [] [(6, .bool c10.2), (7, zs9 A15 c10.1 c16)] [0, 1, 4] zsQ fun j => ?_
 refine za hO [] [(5, zs2 (IntKind.i64.wrap (p1 + 1)))] [0, 4, 6, 7] zsQ fun j => ?_
 refine zb (za hO [] [(28, zs9 A15 c10.1 c16), (29, zs2 (c10.1.length : Int)), (30, zs2 0)] [0, 4, 5, 6] zsS fun j => ?_)
 refine zW (zbG (fun (n : Nat) e' σ' => ∃ (x48 x49 : UInt8) (x50 x51 x52 x53 x54 x55 : Int) (x56 : Bool) (A57 : Option Addr) (c58 : Nat) (o59 : Ob) (x60 : List zA) (x62 : Int) (τ' : Hp), agr [(0, zs9 A0 p0 c0), (4, zs3 b3), (5, zs2 x55), (6, .bool x56), (28, zs9 A57 x60 c58), (29, zs2 (c10.1.length : Int)), (30, zs2 x62)] e' ∧ Obs τ' σ' [zy b3 (x48.toNat : Int) (x49.toNat : Int) x50 x51 x52 x53 x54, o59] ∧ Hp.le τ τ' ∧ zd zcu 104 τ' (zs9 A57 x60 c58) x60 o59 ∧ zfG p0 c10 n x48 x49 x50 x51 x52 x53 x54 x55 x56 x60 x62 = some rr) big ⟨y5, (0 : UInt8), 0, 0, 0, 0, 0, (IntKind.i64.wrap (p1 + 1)), c10.2, A15, c16, o17, c10.1, 0, _, zs1 zsR, hO, hL, w18, hF⟩ ?_)
 clear hF hO hL
 rintro n87 e σ ⟨x48, x49, x50, x51, x52, x53, x54, x55, x56, A57, c58, o59, x60, x62, _, hA, hO, hL, w61, hF⟩
 rw [← zD _ _ hA]
 cases n87 with
 | zero => exact nomatch (show none = some rr from hF)
 | succ n87 =>
 replace hF : ze1 (zfG p0 c10 n87) p0 c10 x48 x49 x50 x51 x52 x53 x54 x55 x56 x60 x62 = some rr := hF
 unfold ze1 at hF
 refine za hO [] [(31, .bool (decide (x62 < (c10.1.length : Int))))] [0, 4, 5, 6, 28, 29, 30] zsT fun j => ?_
 refine zi hF rfl (fun hF => ?_) fun hF => ?_
 ·refine zl (zW ?_)
  obtain ⟨y89, g90, hF⟩ := zs8 hF
  refine zbg (T := zcu) hO w61 (i := 1) rfl rfl rfl g90 (by decide) fun a91 _ k92 m93 i94 => ?_
  have k95 := k92
  obtain ⟨f97, a98, c99, f100, zii, c102, f103, zg4, c105, rfl, r96⟩ := k95
  refine zL rfl (m93.all rfl) ?_
  refine zbE hO fun b106 σ hO => ?_
  have hO := zs73 hO
  refine zH hO (i := 2) rfl (off := 0) rfl rfl rfl rfl (Nat.le_of_ble_eq_true rfl) rfl fun σ hO => ?_
  have hO := zs73 hO
  refine ze (za hO [] [(34, .bool x56)] [0, 4, 5, 6, 9, 28, 29, 30] zsU fun j => ?_)
  refine z5 (zi hF rfl (fun hF => ?_) fun hF => ?_)
  ·refine zc hO 4 [2] [(37, .func f103 zg4 c105), (38, zs9 A0 p0 c0), (39, zs2 x55)] [0, 4, 28, 29, 30] (And.intro (And.intro rfl rfl) zsT) fun j => ?_
   obtain ⟨c108, h109, hF⟩ := zs8 hF
   have hO := hO.sel [1, 2, 0]
   refine zkI (hs := [_, _]) (vs := [_]) rfl hO (zsF r96 (r0.le hL) h109) rfl fun _ σ _ _ hO h110 h111 => ?_
   have hL := hL.trans h110
   have w61 := w61.le h110
   have r96 := r96.le h110
   obtain ⟨rfl, rfl⟩ := h111
   have hO := zs73 hO
   refine za hO [] [(5, zs2 c108.1), (6, .bool c108.2.1)] [0, 4, 28, 29, 30] zsS fun j => ?_
   refine zg (zF (zk (zV (za hO [] [(30, zs2 (IntKind.i64.wrap (x62 + 1)))] [0, 4, 5, 6, 28, 29] zsS fun j => ?_))))
   refine zg (zk ?_)
   have hO := hO.sel [2, 0]
   exact ⟨n87, Nat.lt_succ_self _, c108.2.2.Kind, c108.2.2.Op, c108.2.2.R, c108.2.2.S, c108.2.2.T, c108.2.2.N, c108.2.2.M, c108.1, c108.2.1, A57, c58, o59, x60, (IntKind.i64.wrap (x62 + 1)), _, zs1 zsR, hO, hL, w61, hF⟩
  refine zl (zg (zF (zk (zV (za hO [] [(30, zs2 (IntKind.i64.wrap (x62 + 1)))] [0, 4, 5, 6, 28, 29] zsS fun j => ?_)))))
  refine zg (zk ?_)
  have hO := hO.sel [0, 1]
  exact ⟨n87, Nat.lt_succ_self _, x48, x49, x50, x51, x52, x53, x54, x55, x56, A57, c58, o59, x60, (IntKind.i64.wrap (x62 + 1)), _, zs1 zsR, hO, hL, w61, hF⟩
 refine zbl (zbw (zbD (zk (zc hO 3 [0] [(44, .agg #[(.int .u8 (x48.toNat : Int)), (.int .u8 (x49.toNat : Int)), (.int .i64 x50), (.int .i64 x51), (.int .i64 x52), (.int .i64 x53), (.int .i64 x54)]), (45, zs2 x55), (46, .bool x56)] [4] (And.intro (And.intro rfl rfl) zsP) fun j => ?_))))
 refine zH hO (i := 0) rfl (off := 0) rfl rfl rfl rfl (Nat.le_of_ble_eq_true rfl) rfl fun σ hO => ?_
 have hO := zs72 hO
 refine za hO [] [(5, zs2 x55), (6, .bool x56)] [4] zsO fun j => ?_
 refine zq ?_
 cases hF
 have hV0 := hO.val (i := 0) rfl (off := 0) (agg := true) (n := 7) rfl
 have hO := hO.sel []
 exact hQ _ _ _ _ _ (zbH rfl (hV0) (zbZ (zbZ rfl))) hO hL ⟨rfl, rfl⟩
theorem zrz {τ : Hp} {q0 : zf} {bm0 : Nat} {qf0 : Int} {af0 : Addr} {qf1 : Int} {af1 : Addr} (mf0 : At τ af0 [.int .u8 qf0]) (mf1 : At τ af1 [.int .u8 qf1]) {rr : Bool × zf} (hF : ziA q0 qf0 qf1 = some rr) :
  Ctr Tryz.prog 98 #[.pointer (some ⟨bm0, 0, none⟩), .pointer (some af0), .pointer (some af1)] τ [zy bm0 q0.Kind.toNat q0.Op.toNat q0.R q0.S q0.T q0.N q0.M] (fun v τ' vs' => v = .bool rr.1 ∧ vs' = [zy bm0 rr.2.Kind.toNat rr.2.Op.toNat rr.2.R rr.2.S rr.2.T rr.2.N rr.2.M]) := by
 refine zu (args := [.pointer (some ⟨bm0, 0, none⟩), .pointer (some af0), .pointer (some af1)]) hm Tryz.func98 s98 rfl fun w0 σ hO Q hQ => ?_
 unfold ziA at hF
 have hL := Hp.le.refl τ
 show wpn _ _ a98.body _ _ _
 unfold a98
 dsimp only
 refine za hO [] [] [0, 1, 2] zsO fun j => ?_
 refine z8 (zc hO 4 [0] [(8, .int .u8 (q0.Op.toNat : Int))] [0, 1, 2] (And.intro (And.intro rfl rfl) zsP) fun j => ?_)
 refine zL rfl ((mf0.le hL).le hO.base).fst ?_
 refine zc hO 2 [] [(11, .bool (decide ((q0.Op.toNat : Int) ≥ qf0)))] [0, 2] zsO fun j => ?_
 obtain ⟨c2, h3, hF⟩ := zs8 hF
 refine zcg 2 [(18, .bool c2), (0, zs3 bm0)] (fun Q hQ => ?_) fun j => ?_
 ·have hF := h3
  rcases z1 hF with ⟨hb4, hF⟩ | ⟨hb4, hF⟩
  ·refine zK (zs6 hb4) ?_
   refine zc hO 4 [0] [(15, .int .u8 (q0.Op.toNat : Int))] [0, 2, 11] (And.intro (And.intro rfl rfl) zsP) fun j => ?_
   refine zL rfl ((mf1.le hL).le hO.base).fst ?_
   refine zc hO 1 [] [(17, .bool (decide ((q0.Op.toNat : Int) ≤ qf1)))] [0, 11] zsO fun j => ?_
   refine zw (zs4 hb4) ?_
   refine ze ?_
   cases hF
   refine zg ?_
   exact hQ _ zsN
  refine zP (zs6 hb4) ?_
  refine zw (zs4 hb4) ?_
  refine ze ?_
  cases hF
  refine zg ?_
  exact hQ _ zsN
 refine za hO [] [(4, .bool c2)] [0] zsN fun j => ?_
 refine zq ?_
 cases hF
 exact hQ _ _ _ _ _ rfl hO hL ⟨rfl, rfl⟩
theorem zqt {τ : Hp} {x : zA} {u0 u1 u2 : Value} (hx : zbX τ x u0 u1 u2) {q0 : zf} {bm0 : Nat}  {rr : Bool × zf} (hF : ziq x q0 = some rr) :
  FnC Tryz.prog u0 #[.pointer (some ⟨bm0, 0, none⟩)] τ [zy bm0 q0.Kind.toNat q0.Op.toNat q0.R q0.S q0.T q0.N q0.M] (fun v τ' vs' => v = .bool rr.1 ∧ vs' = [zy bm0 rr.2.Kind.toNat rr.2.Op.toNat rr.2.R rr.2.S rr.2.T rr.2.N rr.2.M]) := by
 cases x with
 | c_one_1 => obtain ⟨a1_0, a2_0, rfl, rfl, rfl, m0, m1⟩ := hx; exact ⟨85, #[], #[], _, rfl, by kernel_rfl, rfl, zsI  hF⟩
 | c_both_1 => obtain ⟨a1_0, a2_0, rfl, rfl, rfl, m0, m1⟩ := hx; exact ⟨93, #[], #[], _, rfl, by kernel_rfl, rfl, zpH  hF⟩
 | c_op_1 x0 x1 => obtain ⟨a0_0, a0_1, a1_0, a2_0, rfl, rfl, rfl, m0, m1, m2, m3⟩ := hx; exact ⟨98, #[], #[.pointer (some a0_0), .pointer (some a0_1)], _, rfl, by kernel_rfl, rfl, zrz m0 m1 hF⟩
 | c_third_1 => obtain ⟨a1_0, a2_0, rfl, rfl, rfl, m0, m1⟩ := hx; exact ⟨101, #[], #[], _, rfl, by kernel_rfl, rfl, zp4  hF⟩
 | c_bound_1 => obtain ⟨rfl, rfl, rfl⟩ := hx; exact ⟨104, #[], #[], _, rfl, by kernel_rfl, rfl, zoN  hF⟩
 | c_to_1 => obtain ⟨rfl, rfl, rfl⟩ := hx; exact ⟨109, #[], #[], _, rfl, by kernel_rfl, rfl, zqy  hF⟩
 | c_how_1 => obtain ⟨a1_0, a2_0, rfl, rfl, rfl, m0, m1⟩ := hx; exact ⟨114, #[], #[], _, rfl, by kernel_rfl, rfl, zqD  hF⟩
 | c_parts_1 => obtain ⟨rfl, rfl, rfl⟩ := hx; exact ⟨73, #[], #[], _, rfl, by kernel_rfl, rfl, zr0  hF⟩
 | c_within => obtain ⟨rfl, rfl, rfl⟩ := hx; exact ⟨79, #[], #[], _, rfl, by kernel_rfl, rfl, zqj  hF⟩
end Go.Proofs.YtgkllgoelpfdkaaGreat
