import Derived.Test.YtgkllgoelpfdkaaGreatG2
namespace Go.Proofs.YtgkllgoelpfdkaaGreat
open Go.Ab Go.RowKit
set_option linter.unusedVariables false
set_option linter.unusedSimpArgs false
set_option maxRecDepth 10000
set_option maxHeartbeats 1000000
theorem znc {τ : Hp} {v0 : Value} {p0 : (List UInt8)} {p1 p2 : Int} {v3 : Value} {p3 : (List Int)} (r0 : RdT Ty.u8 τ v0 p0) (r3 : RdT (Ty.int .i64) τ v3 p3) {rr : (Option zQ) × Int} (hF : zgj p0 p1 p2 p3 = some rr) :
  Ctr Tryz.prog 20 #[v0, .int .i64 p1, .int .i64 p2, v3] τ [] (fun v τ' vs' => match rr.1 with | none => v = .tuple #[.pointer none, .int .i64 rr.2] ∧ vs' = [] | some m => ∃ (b : Nat) (u0 : Value) (y0 : Ob) (u2 : Value) (y2 : Ob) (u3 : Value) (y3 : Ob) (u4 : Value) (y4 : Ob) (u5 : Value) (y5 : Ob), v = .tuple #[.pointer (some ⟨b, 0, none⟩), .int .i64 rr.2] ∧ vs' = [zbz b u0 m.Pc u2 u3 u4 u5 m.How.toNat m.Final, y0, y2, y3, y4, y5] ∧ zd Ty.u8 5 τ' u0 m.Code y0 ∧ zd (Ty.int .i64) 2 τ' u2 m.R y2 ∧ zd (Ty.int .i64) 2 τ' u3 m.W y3 ∧ zd (Ty.int .i64) 2 τ' u4 m.In y4 ∧ zd (Ty.int .i64) 2 τ' u5 m.Out y5) := by
 obtain ⟨A0, c0, rfl, -⟩ := r0.form
 obtain ⟨A3, c3, rfl, -⟩ := r3.form
 refine zu (args := [.slice A0 p0.length c0, .int .i64 p1, .int .i64 p2, .slice A3 p3.length c3]) hm Tryz.func20 s20 rfl fun w0 σ hO Q hQ => ?_
 unfold zgj at hF
 have hL := Hp.le.refl τ
 show wpn _ _ a20.body _ _ _
 unfold a20
 dsimp only
 refine za hO [] [] [0, 1, 2, 3] zsP fun j => ?_
 refine zb (za hO [] [(31, .bool (((((decide ((p0.length : Int) > 1048576)) || (decide (p1 < 0))) || (decide (p1 > (p0.length : Int)))) || (decide (p2 < 1))) || (decide (p2 > 65536))))] [0, 1, 2, 3] (And.intro (And.intro rfl rfl) (fun _ => And.intro (And.intro rfl rfl) (fun _ => And.intro (And.intro rfl rfl) (fun _ => And.intro (And.intro rfl rfl) (fun _ => zs1 zsP))))) fun j => ?_)
 refine zi hF rfl (fun hF => ?_) fun hF => ?_
 ·refine zb (zj hO [] [(8, .pointer none), (9, zs2 1)] zsN fun j => ?_)
  refine zp ?_
  cases hF
  exact hQ _ _ _ _ _ rfl hO hL ⟨rfl, rfl⟩
 refine zl (zG (za hO [] [(32, zs9 A0 p0 c0)] [1, 2, 3] zsP fun j => ?_))
 refine zG (za hO [] [(34, zs2 p1)] [2, 3, 32] zsP fun j => ?_)
 refine zG (za hO [] [(36, zs2 p2)] [2, 3, 32, 34] zsQ fun j => ?_)
 refine zbK (fun e' σ' => ∃ (b30 : Nat) (A31 : Option Addr) (c32 : Nat) (o33 : Ob) (x34 : List UInt8) (A36 : Option Addr) (c37 : Nat) (o38 : Ob) (x39 : List Int) (A41 : Option Addr) (c42 : Nat) (o43 : Ob) (x44 : List Int) (τ' : Hp), agr [(2, zs2 p2), (3, zs9 A3 p3 c3), (10, zs3 b30)] e' ∧ Obs τ' σ' [zbz b30 (zs9 A31 x34 c32) p1 (zs9 A36 x39 c37) (zs9 A41 x44 c42) (.slice none 0 0) (.slice none 0 0) 0 0, o33, o38, o43] ∧ Hp.le τ τ' ∧ zd Ty.u8 5 τ' (zs9 A31 x34 c32) x34 o33 ∧ zd (Ty.int .i64) 2 τ' (zs9 A36 x39 c37) x39 o38 ∧ zd (Ty.int .i64) 2 τ' (zs9 A41 x44 c42) x44 o43 ∧ zjq p1 p2 p3 x34 x39 x44 = some rr) ?_ ?_
 ·refine ziC ?_
  obtain ⟨c65, h66, hF⟩ := zs8 hF
  obtain ⟨y74, g75, hF⟩ := zs8 hF
  obtain ⟨y81, g82, hF⟩ := zs8 hF
  refine zdr ?_ ?_
  ·refine zU (zo hO (zev (r0.le hL) h66) rfl fun _ σ _ _ hO h67 h68 => ?_)
   have hL := hL.trans h67
   obtain ⟨v69, o72, rfl, rfl, w73⟩ := h68
   obtain ⟨A70, c71, rfl, -⟩ := w73.form
   have hO := zs71 hO
   refine ze (zdr ?_ ?_)
   ·refine zU (zcS (T := (Ty.int .i64)) hO rfl rfl g75 (show _ = _ from rfl) (by decide) fun b80 c77 σ o78 w79 hO => ?_)
    have hO := zs72 hO
    refine ze (zU (zcS (T := (Ty.int .i64)) hO rfl rfl g82 (show _ = _ from rfl) (by decide) fun b87 c84 σ o85 w86 hO => ?_))
    have hO := zs73 hO
    refine ze (zG (za hO [] [(38, .agg #[(zs9 A70 c65 c71), (.int .i64 p1), (zs9 (some ⟨b80, 0, none⟩) y74 c77), (zs9 (some ⟨b87, 0, none⟩) y81 c84), (.slice none 0 0), (.slice none 0 0), (.int .u8 0), (.int .i64 0)])] [2, 3] zsO fun j => ?_))
    refine zU (zbq (n := 8) hO rfl rfl fun b88 σ hO => ?_)
    have hO := zs74 hO
    refine ze (zG (za hO [] [(10, zs3 b88)] [2, 3] zsO fun j => ?_))
    refine zcq (zg (zk ?_))
    have hO := hO.sel [3, 0, 1, 2]
    exact ⟨b88, A70, c71, o72, c65, (some ⟨b80, 0, none⟩), c77, o78, y74, (some ⟨b87, 0, none⟩), c84, o85, y81, _, zs1 zsN, hO, hL, w73, w79, w86, hF⟩
   refine zU (zcS (T := (Ty.int .i64)) hO rfl rfl g82 (show _ = _ from rfl) (by decide) fun b87 c84 σ o85 w86 hO => ?_)
   have hO := zs72 hO
   refine ze (zU (zcS (T := (Ty.int .i64)) hO rfl rfl g75 (show _ = _ from rfl) (by decide) fun b80 c77 σ o78 w79 hO => ?_))
   have hO := zs73 hO
   refine ze (zG (za hO [] [(38, .agg #[(zs9 A70 c65 c71), (.int .i64 p1), (zs9 (some ⟨b80, 0, none⟩) y74 c77), (zs9 (some ⟨b87, 0, none⟩) y81 c84), (.slice none 0 0), (.slice none 0 0), (.int .u8 0), (.int .i64 0)])] [2, 3] zsO fun j => ?_))
   refine zU (zbq (n := 8) hO rfl rfl fun b88 σ hO => ?_)
   have hO := zs74 hO
   refine ze (zG (za hO [] [(10, zs3 b88)] [2, 3] zsO fun j => ?_))
   refine zcq (zg (zk ?_))
   have hO := hO.sel [3, 0, 2, 1]
   exact ⟨b88, A70, c71, o72, c65, (some ⟨b80, 0, none⟩), c77, o78, y74, (some ⟨b87, 0, none⟩), c84, o85, y81, _, zs1 zsN, hO, hL, w73, w79, w86, hF⟩
  refine zdr ?_ ?_
  ·refine zU (zcS (T := (Ty.int .i64)) hO rfl rfl g75 (show _ = _ from rfl) (by decide) fun b80 c77 σ o78 w79 hO => ?_)
   have hO := zs71 hO
   refine ze (zdr ?_ ?_)
   ·refine zU (zo hO (zev (r0.le hL) h66) rfl fun _ σ _ _ hO h67 h68 => ?_)
    have hL := hL.trans h67
    have w79 := w79.le h67
    obtain ⟨v69, o72, rfl, rfl, w73⟩ := h68
    obtain ⟨A70, c71, rfl, -⟩ := w73.form
    have hO := zs72 hO
    refine ze (zU (zcS (T := (Ty.int .i64)) hO rfl rfl g82 (show _ = _ from rfl) (by decide) fun b87 c84 σ o85 w86 hO => ?_))
    have hO := zs73 hO
    refine ze (zG (za hO [] [(38, .agg #[(zs9 A70 c65 c71), (.int .i64 p1), (zs9 (some ⟨b80, 0, none⟩) y74 c77), (zs9 (some ⟨b87, 0, none⟩) y81 c84), (.slice none 0 0), (.slice none 0 0), (.int .u8 0), (.int .i64 0)])] [2, 3] zsO fun j => ?_))
    refine zU (zbq (n := 8) hO rfl rfl fun b88 σ hO => ?_)
    have hO := zs74 hO
    refine ze (zG (za hO [] [(10, zs3 b88)] [2, 3] zsO fun j => ?_))
    refine zcq (zg (zk ?_))
    have hO := hO.sel [3, 1, 0, 2]
    exact ⟨b88, A70, c71, o72, c65, (some ⟨b80, 0, none⟩), c77, o78, y74, (some ⟨b87, 0, none⟩), c84, o85, y81, _, zs1 zsN, hO, hL, w73, w79, w86, hF⟩
   refine zU (zcS (T := (Ty.int .i64)) hO rfl rfl g82 (show _ = _ from rfl) (by decide) fun b87 c84 σ o85 w86 hO => ?_)
   have hO := zs72 hO
   refine ze (zU (zo hO (zev (r0.le hL) h66) rfl fun _ σ _ _ hO h67 h68 => ?_))
   have hL := hL.trans h67
   have w79 := w79.le h67
   have w86 := w86.le h67
   obtain ⟨v69, o72, rfl, rfl, w73⟩ := h68
   obtain ⟨A70, c71, rfl, -⟩ := w73.form
   have hO := zs73 hO
   refine ze (zG (za hO [] [(38, .agg #[(zs9 A70 c65 c71), (.int .i64 p1), (zs9 (some ⟨b80, 0, none⟩) y74 c77), (zs9 (some ⟨b87, 0, none⟩) y81 c84), (.slice none 0 0), (.slice none 0 0), (.int .u8 0), (.int .i64 0)])] [2, 3] zsO fun j => ?_))
   refine zU (zbq (n := 8) hO rfl rfl fun b88 σ hO => ?_)
   have hO := zs74 hO
   refine ze (zG (za hO [] [(10, zs3 b88)] [2, 3] zsO fun j => ?_))
   refine zcq (zg (zk ?_))
   have hO := hO.sel [3, 2, 0, 1]
   exact ⟨b88, A70, c71, o72, c65, (some ⟨b80, 0, none⟩), c77, o78, y74, (some ⟨b87, 0, none⟩), c84, o85, y81, _, zs1 zsN, hO, hL, w73, w79, w86, hF⟩
  refine zU (zcS (T := (Ty.int .i64)) hO rfl rfl g82 (show _ = _ from rfl) (by decide) fun b87 c84 σ o85 w86 hO => ?_)
  have hO := zs71 hO
  refine ze (zdr ?_ ?_)
  ·refine zU (zo hO (zev (r0.le hL) h66) rfl fun _ σ _ _ hO h67 h68 => ?_)
   have hL := hL.trans h67
   have w86 := w86.le h67
   obtain ⟨v69, o72, rfl, rfl, w73⟩ := h68
   obtain ⟨A70, c71, rfl, -⟩ := w73.form
   have hO := zs72 hO
   refine ze (zU (zcS (T := (Ty.int .i64)) hO rfl rfl g75 (show _ = _ from rfl) (by decide) fun b80 c77 σ o78 w79 hO => ?_))
   have hO := zs73 hO
   refine ze (zG (za hO [] [(38, .agg #[(zs9 A70 c65 c71), (.int .i64 p1), (zs9 (some ⟨b80, 0, none⟩) y74 c77), (zs9 (some ⟨b87, 0, none⟩) y81 c84), (.slice none 0 0), (.slice none 0 0), (.int .u8 0), (.int .i64 0)])] [2, 3] zsO fun j => ?_))
   refine zU (zbq (n := 8) hO rfl rfl fun b88 σ hO => ?_)
   have hO := zs74 hO
   refine ze (zG (za hO [] [(10, zs3 b88)] [2, 3] zsO fun j => ?_))
   refine zcq (zg (zk ?_))
   have hO := hO.sel [3, 1, 2, 0]
   exact ⟨b88, A70, c71, o72, c65, (some ⟨b80, 0, none⟩), c77, o78, y74, (some ⟨b87, 0, none⟩), c84, o85, y81, _, zs1 zsN, hO, hL, w73, w79, w86, hF⟩
  refine zU (zcS (T := (Ty.int .i64)) hO rfl rfl g75 (show _ = _ from rfl) (by decide) fun b80 c77 σ o78 w79 hO => ?_)
  have hO := zs72 hO
  refine ze (zU (zo hO (zev (r0.le hL) h66) rfl fun _ σ _ _ hO h67 h68 => ?_))
  have hL := hL.trans h67
  have w79 := w79.le h67
  have w86 := w86.le h67
  obtain ⟨v69, o72, rfl, rfl, w73⟩ := h68
  obtain ⟨A70, c71, rfl, -⟩ := w73.form
  have hO := zs73 hO
  refine ze (zG (za hO [] [(38, .agg #[(zs9 A70 c65 c71), (.int .i64 p1), (zs9 (some ⟨b80, 0, none⟩) y74 c77), (zs9 (some ⟨b87, 0, none⟩) y81 c84), (.slice none 0 0), (.slice none 0 0), (.int .u8 0), (.int .i64 0)])] [2, 3] zsO fun j => ?_))
  refine zU (zbq (n := 8) hO rfl rfl fun b88 σ hO => ?_)
  have hO := zs74 hO
  refine ze (zG (za hO [] [(10, zs3 b88)] [2, 3] zsO fun j => ?_))
  refine zcq (zg (zk ?_))
  have hO := hO.sel [3, 2, 1, 0]
  exact ⟨b88, A70, c71, o72, c65, (some ⟨b80, 0, none⟩), c77, o78, y74, (some ⟨b87, 0, none⟩), c84, o85, y81, _, zs1 zsN, hO, hL, w73, w79, w86, hF⟩
 rintro e σ ⟨b30, A31, c32, o33, x34, A36, c37, o38, x39, A41, c42, o43, x44, _, hA, hO, hL, w35, w40, w45, hF⟩
 rw [← zD _ _ hA]
 unfold zjq at hF
 refine zc hO 1 [] [(40, zs3 b30)] [2, 3, 10] zsP fun j => ?_
 refine zbv (T := (Ty.int .i64)) (l := ([] : List Int)) (cs := []) hO rfl rfl rfl (by decide) fun _ σ o48 w49 hO => ?_
 obtain ⟨A46, c47, rfl, -⟩ := w49.form
 have hO := zs75 hO
 refine zc hO 1 [] [(42, zs9 A3 p3 c3)] [2, 10, 40, 41] zsQ fun j => ?_
 obtain ⟨_, hr54, hF⟩ := zs8 hF
 refine zdt (T := (Ty.int .i64)) hO w49 (i := 4) rfl rfl rfl (r3.le hL) hr54 (by decide) fun _ σ o52 w53 hO => ?_
 obtain ⟨A50, c51, rfl, -⟩ := w53.form
 have hO := zs75 hO
 refine zc hO 2 [] [(45, .pointer (some ⟨b30, 4, none⟩))] [2, 10, 43] zsP fun j => ?_
 refine zH hO (i := 0) rfl (off := 4) rfl rfl rfl rfl (Nat.le_of_ble_eq_true rfl) rfl fun σ hO => ?_
 have hO := zs75 hO
 refine ze (zc hO 5 [0] [(49, zs9 A36 x39 c37), (50, zs2 p2)] [10] (And.intro (And.intro rfl rfl) zsO) fun j => ?_)
 obtain ⟨y55, g56, hF⟩ := zs8 hF
 refine zbg (T := (Ty.int .i64)) hO w40 (i := 2) rfl rfl rfl g56 (by decide) fun a57 _ k58 m59 i60 => ?_
 have k61 := k58
 obtain rfl : _ = ([.int .i64 y55] : List Value) := k61
 refine zce (T := (Ty.int .i64)) (z' := p2) (off := 0) (vs := [.int .i64 p2]) hO w40 (i := 2) rfl (by rw [add_zero]; rfl) i60 g56 k58 m59 rfl rfl rfl rfl (by decide) (show _ = _ from rfl) fun σ o62 w63 hO => ?_
 have hO := zs75 hO
 refine ze (zj hO [] [(8, zs3 b30), (9, zs2 0)] zsN fun j => ?_)
 refine zq ?_
 have hO := hO.no
 have hO := zs76 hO
 have w64 := zd.nil0 (T := (Ty.int .i64)) (ty := 2) hO
 cases hF
 exact hQ _ _ _ _ _ rfl hO hL ⟨_, _, _, _, _, _, _, _, _, _, _, rfl, rfl, w35, w63, w45, w53, w64⟩
theorem znp {rr : (Option zQ) × Int} : ∀ (v : Value) (τ1 τ2 : Hp) (vs : List Ob), (fun v τ' vs' => match rr.1 with | none => v = .tuple #[.pointer none, .int .i64 rr.2] ∧ vs' = [] | some m => ∃ (b : Nat) (u0 : Value) (y0 : Ob) (u2 : Value) (y2 : Ob) (u3 : Value) (y3 : Ob) (u4 : Value) (y4 : Ob) (u5 : Value) (y5 : Ob), v = .tuple #[.pointer (some ⟨b, 0, none⟩), .int .i64 rr.2] ∧ vs' = [zbz b u0 m.Pc u2 u3 u4 u5 m.How.toNat m.Final, y0, y2, y3, y4, y5] ∧ zd Ty.u8 5 τ' u0 m.Code y0 ∧ zd (Ty.int .i64) 2 τ' u2 m.R y2 ∧ zd (Ty.int .i64) 2 τ' u3 m.W y3 ∧ zd (Ty.int .i64) 2 τ' u4 m.In y4 ∧ zd (Ty.int .i64) 2 τ' u5 m.Out y5) v τ1 vs → (fun v τ' vs' => match rr.1 with | none => v = .tuple #[.pointer none, .int .i64 rr.2] ∧ vs' = [] | some m => ∃ (b : Nat) (u0 : Value) (y0 : Ob) (u2 : Value) (y2 : Ob) (u3 : Value) (y3 : Ob) (u4 : Value) (y4 : Ob) (u5 : Value) (y5 : Ob), v = .tuple #[.pointer (some ⟨b, 0, none⟩), .int .i64 rr.2] ∧ vs' = [zbz b u0 m.Pc u2 u3 u4 u5 m.How.toNat m.Final, y0, y2, y3, y4, y5] ∧ zd Ty.u8 5 τ' u0 m.Code y0 ∧ zd (Ty.int .i64) 2 τ' u2 m.R y2 ∧ zd (Ty.int .i64) 2 τ' u3 m.W y3 ∧ zd (Ty.int .i64) 2 τ' u4 m.In y4 ∧ zd (Ty.int .i64) 2 τ' u5 m.Out y5) v τ2 vs := fun v τ1 τ2 vs h => by
 dsimp only at h ⊢
 revert h
 cases rr.1 with
 | none => exact fun h => h
 | some m => exact fun ⟨b, u0, y0, u2, y2, u3, y3, u4, y4, u5, y5, h1, h2, f0, f2, f3, f4, f5⟩ => ⟨b, u0, y0, u2, y2, u3, y3, u4, y4, u5, y5, h1, h2, f0.flat zjG, f2.flat (zdu .i64), f3.flat (zdu .i64), f4.flat (zdu .i64), f5.flat (zdu .i64)⟩
theorem zl6 {τ : Hp} {q0 : zh} {bm0 : Nat} {vm0_0 vm0_18 : Value} {om0_18 : Ob} {vm0_19 vm0_20 : Value} {om0_20 : Ob} {q1 : zQ} {bm1 : Nat} {vm1_0 vm1_2 : Value} {om1_2 : Ob} {vm1_3 : Value} {om1_3 : Ob} {vm1_4 vm1_5 : Value} (rm0_0 : RdT Ty.u8 τ vm0_0 q0.code) (wm0_18 : zd (Ty.int .i64) 2 τ vm0_18 q0.words om0_18) (rm0_19 : RdT (Ty.int .i64) τ vm0_19 q0.input) (wm0_20 : zd (Ty.int .i64) 2 τ vm0_20 q0.out om0_20) (rm1_0 : RdT Ty.u8 τ vm1_0 q1.Code) (wm1_2 : zd (Ty.int .i64) 2 τ vm1_2 q1.R om1_2) (wm1_3 : zd (Ty.int .i64) 2 τ vm1_3 q1.W om1_3) (rm1_4 : RdT (Ty.int .i64) τ vm1_4 q1.In) (rm1_5 : RdT (Ty.int .i64) τ vm1_5 q1.Out) {rr : Bool} (hF : zeO q0 q1 = some rr) :
  Ctr Tryz.prog 22 #[.pointer (some ⟨bm0, 0, none⟩), .pointer (some ⟨bm1, 0, none⟩)] τ [zI bm0 vm0_0 q0.pc q0.regs vm0_18 vm0_19 vm0_20 q0.how.toNat q0.halting, om0_18, om0_20, zbz bm1 vm1_0 q1.Pc vm1_2 vm1_3 vm1_4 vm1_5 q1.How.toNat q1.Final, om1_2, om1_3] (fun v τ' vs' => v = .bool rr ∧ vs' = [zI bm0 vm0_0 q0.pc q0.regs vm0_18 vm0_19 vm0_20 q0.how.toNat q0.halting, om0_18, om0_20, zbz bm1 vm1_0 q1.Pc vm1_2 vm1_3 vm1_4 vm1_5 q1.How.toNat q1.Final, om1_2, om1_3]) := by
 obtain ⟨Am0_0, cm0_0, rfl, -⟩ := rm0_0.form
 obtain ⟨Am0_18, cm0_18, rfl, -⟩ := wm0_18.form
 obtain ⟨Am0_19, cm0_19, rfl, -⟩ := rm0_19.form
 obtain ⟨Am0_20, cm0_20, rfl, -⟩ := wm0_20.form
 obtain ⟨Am1_0, cm1_0, rfl, -⟩ := rm1_0.form
 obtain ⟨Am1_2, cm1_2, rfl, -⟩ := wm1_2.form
 obtain ⟨Am1_3, cm1_3, rfl, -⟩ := wm1_3.form
 obtain ⟨Am1_4, cm1_4, rfl, -⟩ := rm1_4.form
 obtain ⟨Am1_5, cm1_5, rfl, -⟩ := rm1_5.form
 refine zu (args := [.pointer (some ⟨bm0, 0, none⟩), .pointer (some ⟨bm1, 0, none⟩)]) hm Tryz.func22 s22 rfl fun w0 σ hO Q hQ => ?_
 unfold zeO at hF
 have hL := Hp.le.refl τ
 show wpn _ _ a22.body _ _ _
 unfold a22
 dsimp only
 refine za hO [] [] [0, 1] zsN fun j => ?_
 refine zc hO 1 [] [(8, zs3 bm0)] [0, 1] zsO fun j => ?_
 obtain ⟨c3, h4, hF⟩ := zs8 hF
 have hO := hO.sel [3, 4, 5, 0, 1, 2]
 refine zbe (hs := [_, _, _]) (vs := [_, _, _]) hO (zm7 (q0 := (⟨q0.code, q0.pc, q0.regs, q0.words, q0.input, q0.out, q0.how, q0.halting⟩ : zh)) (rm0_0.le hL) (wm0_18.le hL) (rm0_19.le hL) (wm0_20.le hL) h4) rfl fun _ σ _ _ hO h5 h6 => ?_
 have hL := hL.trans h5
 obtain ⟨rfl, rfl⟩ := h6
 have hO := zs76 hO
 have hO := hO.sel [3, 4, 5, 0, 1, 2]
 have hO := zs76 hO
 refine za hO [] [(5, zs2 c3.1), (6, .bool c3.2)] [0, 1] zsP fun j => ?_
 refine zb (zc hO 8 [3] [(19, .bool (!(c3.2 == ((q1.How.toNat : Int) == 1))))] [0, 1, 5, 6] (And.intro (And.intro rfl rfl) zsQ) fun j => ?_)
 obtain ⟨c7, h8, hF⟩ := zs8 hF
 refine zcg 4 [(29, .bool c7), (0, zs3 bm0), (1, zs3 bm1), (5, zs2 c3.1), (6, .bool c3.2)] (fun Q hQ => ?_) fun j => ?_
 ·have hF := h8
  rcases z1 hF with ⟨hb9, hF⟩ | ⟨hb9, hF⟩
  ·refine zP (zs5 hb9) ?_
   refine zP rfl ?_
   refine zP (zs5 hb9) ?_
   refine zw (zs4 hb9) ?_
   refine ze ?_
   cases hF
   refine zg ?_
   exact hQ _ zsQ
  refine zK (zs5 hb9) ?_
  refine zc hO 2 [] [(21, .bool c3.2)] [0, 1, 5, 6, 19] zsR fun j => ?_
  rcases z1 hF with ⟨hb10, hF⟩ | ⟨hb10, hF⟩
  ·refine zK (zs6 hb10) ?_
   refine zc hO 6 [3] [(27, .bool (c3.1 != q1.Final))] [0, 1, 5, 6, 19, 21] (And.intro (And.intro rfl rfl) zsS) fun j => ?_
   refine zK (zs5 hb9) ?_
   refine zw (zs4 hb10) ?_
   refine zw (zs4 hb9) ?_
   refine ze ?_
   cases hF
   refine zg ?_
   exact hQ _ zsQ
  refine zP (zs6 hb10) ?_
  refine zK (zs5 hb9) ?_
  refine zw (zs4 hb10) ?_
  refine zw (zs4 hb9) ?_
  refine ze ?_
  cases hF
  refine zg ?_
  exact hQ _ zsQ
 refine zc hO 1 [] [(30, .bool c7)] [0, 1, 5, 6] zsQ fun j => ?_
 obtain ⟨c11, h12, hF⟩ := zs8 hF
 refine zcg 4 [(37, .bool c11), (0, zs3 bm0), (1, zs3 bm1)] (fun Q hQ => ?_) fun j => ?_
 ·have hF := h12
  rcases z1 hF with ⟨hb13, hF⟩ | ⟨hb13, hF⟩
  ·refine zP (zs5 hb13) ?_
   refine zP rfl ?_
   refine zP (zs5 hb13) ?_
   refine zw (zs4 hb13) ?_
   refine ze ?_
   cases hF
   refine zg ?_
   exact hQ _ zsO
  refine zK (zs5 hb13) ?_
  refine zc hO 3 [] [(33, .bool (!c3.2))] [0, 1, 5, 30] zsQ fun j => ?_
  rcases z1 hF with ⟨hb14, hF⟩ | ⟨hb14, hF⟩
  ·refine zK (zs6 hb14) ?_
   refine zc hO 2 [] [(35, .bool (c3.1 != 0))] [0, 1, 30, 33] zsQ fun j => ?_
   refine zK (zs5 hb13) ?_
   refine zw (zs4 hb14) ?_
   refine zw (zs4 hb13) ?_
   refine ze ?_
   cases hF
   refine zg ?_
   exact hQ _ zsO
  refine zP (zs6 hb14) ?_
  refine zK (zs5 hb13) ?_
  refine zw (zs4 hb14) ?_
  refine zw (zs4 hb13) ?_
  refine ze ?_
  cases hF
  refine zg ?_
  exact hQ _ zsO
 refine ze (zi hF rfl (fun hF => ?_) fun hF => ?_)
 ·refine zb (za hO [] [(4, .bool false)] [0, 1] zsO fun j => ?_)
  refine zp ?_
  cases hF
  exact hQ _ _ _ _ _ rfl hO hL ⟨rfl, rfl⟩
 refine zl (z8 (zc hO 5 [3] [(38, zs3 bm0), (42, .pointer (some ⟨bm1, 6, none⟩)), (43, .int .u8 (q1.How.toNat : Int))] [0, 1] (And.intro (And.intro rfl rfl) zsQ) fun j => ?_))
 refine zbx ?_
 obtain ⟨c16, h17, hF⟩ := zs8 hF
 have hO := hO.sel [3, 4, 5, 0, 1, 2]
 refine zbe (hs := [_, _, _]) (vs := [_, _, _]) hO (zg0 (q0 := (⟨q0.code, q0.pc, q0.regs, q0.words, q0.input, q0.out, q0.how, q0.halting⟩ : zh)) (rm0_0.le hL) (wm0_18.le hL) (rm0_19.le hL) (wm0_20.le hL) h17) rfl fun _ σ _ _ hO h18 h19 => ?_
 have hL := hL.trans h18
 obtain ⟨rfl, rfl⟩ := h19
 have hO := zs76 hO
 have hO := hO.sel [3, 4, 5, 0, 1, 2]
 have hO := zs76 hO
 refine ze (zby ⟨(zbh rfl (hO.val (i := 3) (off := 6) (agg := false) (n := 1) rfl rfl) rfl), trivial⟩ ?_)
 refine zc hO 2 [] [(45, .bool (c16 == (q1.How.toNat : Int)))] [0, 1] zsO fun j => ?_
 obtain ⟨c20, h21, hF⟩ := zs8 hF
 refine zbN 2 (fun e' σ' => ∃ (τ' : Hp), agr [(53, .bool c20), (0, zs3 bm0), (1, zs3 bm1)] e' ∧ Obs τ' σ' [zI bm0 (zs9 Am0_0 q0.code cm0_0) q0.pc q0.regs (zs9 Am0_18 q0.words cm0_18) (zs9 Am0_19 q0.input cm0_19) (zs9 Am0_20 q0.out cm0_20) (q0.how.toNat : Int) q0.halting, om0_18, om0_20, zbz bm1 (zs9 Am1_0 q1.Code cm1_0) q1.Pc (zs9 Am1_2 q1.R cm1_2) (zs9 Am1_3 q1.W cm1_3) (zs9 Am1_4 q1.In cm1_4) (zs9 Am1_5 q1.Out cm1_5) (q1.How.toNat : Int) q1.Final, om1_2, om1_3] ∧ Hp.le τ τ') ?_ ?_
 ·have hF := h21
  rcases z1 hF with ⟨hb22, hF⟩ | ⟨hb22, hF⟩
  ·refine zK (zs6 hb22) ?_
   refine zc hO 5 [3] [(46, zs3 bm0), (50, .pointer (some ⟨bm1, 1, none⟩)), (51, zs2 q1.Pc)] [0, 1, 45] (And.intro (And.intro rfl rfl) zsR) fun j => ?_
   refine zbx ?_
   obtain ⟨c23, h24, hF⟩ := zs8 hF
   have hO := hO.sel [3, 4, 5, 0, 1, 2]
   refine zbe (hs := [_, _, _]) (vs := [_, _, _]) hO (zly (q0 := (⟨q0.code, q0.pc, q0.regs, q0.words, q0.input, q0.out, q0.how, q0.halting⟩ : zh)) (rm0_0.le hL) (wm0_18.le hL) (rm0_19.le hL) (wm0_20.le hL) h24) rfl fun _ σ _ _ hO h25 h26 => ?_
   have hL := hL.trans h25
   obtain ⟨rfl, rfl⟩ := h26
   have hO := zs76 hO
   have hO := hO.sel [3, 4, 5, 0, 1, 2]
   have hO := zs76 hO
   refine ze (zby ⟨(zcM rfl (hO.val (i := 3) (off := 1) (agg := false) (n := 1) rfl rfl) rfl), trivial⟩ ?_)
   refine zZ hO 1 [] [(0, zs3 bm0), (1, zs3 bm1), (45, .bool (c16 == (q1.How.toNat : Int))), (52, .bool (c23 == q1.Pc))] zsP fun j => ?_
   refine zw (zs4 hb22) ?_
   refine ze ?_
   cases hF
   refine zg ?_
   exact ⟨rfl, _, zs1 zsN, hO, hL⟩
  refine zcU (zs6 hb22) ⟨trivial, ⟨trivial, ⟨trivial, ⟨trivial, ⟨trivial, ⟨⟨(zc1 (zs6 hb22)), trivial⟩, ⟨trivial, trivial⟩⟩⟩⟩⟩⟩⟩ ?_
  refine zw (zs4 hb22) ?_
  refine ze ?_
  cases hF
  refine zg ?_
  exact ⟨rfl, _, zs1 zsN, hO, hL⟩
 rintro e σ ⟨_, hA, hO, hL⟩
 rw [← zD _ _ hA]
 refine zc hO 1 [] [(54, .bool c20)] [0, 1] zsO fun j => ?_
 obtain ⟨c27, h28, hF⟩ := zs8 hF
 refine zbN 2 (fun e' σ' => ∃ (τ' : Hp), agr [(63, .bool c27), (0, zs3 bm0), (1, zs3 bm1)] e' ∧ Obs τ' σ' [zI bm0 (zs9 Am0_0 q0.code cm0_0) q0.pc q0.regs (zs9 Am0_18 q0.words cm0_18) (zs9 Am0_19 q0.input cm0_19) (zs9 Am0_20 q0.out cm0_20) (q0.how.toNat : Int) q0.halting, om0_18, om0_20, zbz bm1 (zs9 Am1_0 q1.Code cm1_0) q1.Pc (zs9 Am1_2 q1.R cm1_2) (zs9 Am1_3 q1.W cm1_3) (zs9 Am1_4 q1.In cm1_4) (zs9 Am1_5 q1.Out cm1_5) (q1.How.toNat : Int) q1.Final, om1_2, om1_3] ∧ Hp.le τ τ') ?_ ?_
 ·have hF := h28
  rcases z1 hF with ⟨hb29, hF⟩ | ⟨hb29, hF⟩
  ·refine zK (zs6 hb29) ?_
   refine zZ hO 6 [3] [(0, zs3 bm0), (1, zs3 bm1), (54, .bool c20), (55, zs3 bm0), (59, .pointer (some ⟨bm1, 4, none⟩)), (60, zs9 Am1_4 q1.In cm1_4), (61, zs2 (q1.In.length : Int))] (And.intro (And.intro rfl rfl) zsS) fun j => ?_
   refine zbx ?_
   obtain ⟨c30, h31, hF⟩ := zs8 hF
   have hO := hO.sel [3, 4, 5, 0, 1, 2]
   refine zbe (hs := [_, _, _]) (vs := [_, _, _]) hO (zqE (q0 := (⟨q0.code, q0.pc, q0.regs, q0.words, q0.input, q0.out, q0.how, q0.halting⟩ : zh)) (rm0_0.le hL) (wm0_18.le hL) (rm0_19.le hL) (wm0_20.le hL) h31) rfl fun _ σ _ _ hO h32 h33 => ?_
   have hL := hL.trans h32
   obtain ⟨rfl, rfl⟩ := h33
   have hO := zs76 hO
   have hO := hO.sel [3, 4, 5, 0, 1, 2]
   have hO := zs76 hO
   refine ze (zby ⟨(zcM rfl (hO.val (i := 3) (off := 4) (agg := false) (n := 1) rfl rfl) rfl), trivial⟩ ?_)
   refine zc hO 1 [] [(62, .bool (c30 == (q1.In.length : Int)))] [0, 1, 54] zsP fun j => ?_
   refine zw (zs4 hb29) ?_
   refine ze ?_
   cases hF
   refine zg ?_
   exact ⟨rfl, _, zs1 zsN, hO, hL⟩
  refine zcU (zs6 hb29) ⟨trivial, ⟨trivial, ⟨trivial, ⟨trivial, ⟨trivial, ⟨trivial, ⟨⟨(zc1 (zs6 hb29)), trivial⟩, ⟨trivial, trivial⟩⟩⟩⟩⟩⟩⟩⟩ ?_
  refine zw (zs4 hb29) ?_
  refine ze ?_
  cases hF
  refine zg ?_
  exact ⟨rfl, _, zs1 zsN, hO, hL⟩
 rintro e σ ⟨_, hA, hO, hL⟩
 rw [← zD _ _ hA]
 refine zZ hO 1 [] [(0, zs3 bm0), (1, zs3 bm1), (64, .bool c27)] zsO fun j => ?_
 obtain ⟨c34, h35, hF⟩ := zs8 hF
 refine zbN 2 (fun e' σ' => ∃ (τ' : Hp), agr [(72, .bool c34), (0, zs3 bm0), (1, zs3 bm1)] e' ∧ Obs τ' σ' [zI bm0 (zs9 Am0_0 q0.code cm0_0) q0.pc q0.regs (zs9 Am0_18 q0.words cm0_18) (zs9 Am0_19 q0.input cm0_19) (zs9 Am0_20 q0.out cm0_20) (q0.how.toNat : Int) q0.halting, om0_18, om0_20, zbz bm1 (zs9 Am1_0 q1.Code cm1_0) q1.Pc (zs9 Am1_2 q1.R cm1_2) (zs9 Am1_3 q1.W cm1_3) (zs9 Am1_4 q1.In cm1_4) (zs9 Am1_5 q1.Out cm1_5) (q1.How.toNat : Int) q1.Final, om1_2, om1_3] ∧ Hp.le τ τ') ?_ ?_
 ·have hF := h35
  rcases z1 hF with ⟨hb36, hF⟩ | ⟨hb36, hF⟩
  ·refine zK (zs6 hb36) ?_
   refine zc hO 5 [3] [(65, zs3 bm0), (69, .pointer (some ⟨bm1, 2, none⟩)), (70, zs9 Am1_2 q1.R cm1_2)] [0, 1, 64] (And.intro (And.intro rfl rfl) zsR) fun j => ?_
   refine zbx ?_
   obtain ⟨c37, h38, hF⟩ := zs8 hF
   have hO := hO.sel [3, 4, 5, 0, 1, 2]
   refine zbe (hs := [_, _, _]) (vs := [_, _, _]) hO (zlq (q0 := (⟨q0.code, q0.pc, q0.regs, q0.words, q0.input, q0.out, q0.how, q0.halting⟩ : zh)) (rm0_0.le hL) (wm0_18.le hL) (rm0_19.le hL) (wm0_20.le hL) h38) rfl fun _ σ _ _ hO h39 h40 => ?_
   have hL := hL.trans h39
   obtain ⟨v41, o44, rfl, rfl, w45⟩ := h40
   obtain ⟨A42, c43, rfl, -⟩ := w45.form
   have hO := zs77 hO
   have hO := hO.sel [4, 5, 6, 0, 1, 2, 3]
   have hO := zs77 hO
   refine ze (zby ⟨(zcM rfl (hO.val (i := 3) (off := 2) (agg := false) (n := 1) rfl rfl) rfl), trivial⟩ ?_)
   obtain ⟨c46, h47, hF⟩ := zs8 hF
   have hO := hO.sel [0, 1, 2, 3, 5, 6, 4]
   refine zbe (hs := [_, _, _, _, _]) (vs := [_, _]) hO (Ctr.lendG w45 (zfH (fun _ _ _ _ h => h)) fun _ lL0 rL0 => Ctr.lendG ((wm1_2.le hL).le lL0) (fun _ _ _ _ h => h) fun _ lL1 rL1 => ziB (rL0.le lL1) rL1 h47) rfl fun _ σ _ _ hO h48 h49 => ?_
   have hL := hL.trans h48
   have w45 := w45.le h48
   obtain ⟨_, rfl, _, rfl, rfl, rfl⟩ := h49
   have hO := zs77 hO
   have hO := hO.sel [0, 1, 2, 3, 6, 4, 5]
   have hO := zs77 hO
   refine zw (zs4 hb36) ?_
   refine ze ?_
   cases hF
   refine zg ?_
   have hO := hO.sel [0, 1, 2, 3, 4, 5]
   exact ⟨rfl, _, zs1 zsN, hO, hL⟩
  refine zcU (zs6 hb36) ⟨trivial, ⟨trivial, ⟨trivial, ⟨trivial, ⟨trivial, ⟨⟨(zc1 (zs6 hb36)), trivial⟩, ⟨trivial, trivial⟩⟩⟩⟩⟩⟩⟩ ?_
  refine zw (zs4 hb36) ?_
  refine ze ?_
  cases hF
  refine zg ?_
  exact ⟨rfl, _, zs1 zsN, hO, hL⟩
 rintro e σ ⟨_, hA, hO, hL⟩
 rw [← zD _ _ hA]
 refine zc hO 1 [] [(73, .bool c34)] [0, 1] zsO fun j => ?_
 obtain ⟨c50, h51, hF⟩ := zs8 hF
 refine zbN 2 (fun e' σ' => ∃ (τ' : Hp), agr [(81, .bool c50), (0, zs3 bm0), (1, zs3 bm1)] e' ∧ Obs τ' σ' [zI bm0 (zs9 Am0_0 q0.code cm0_0) q0.pc q0.regs (zs9 Am0_18 q0.words cm0_18) (zs9 Am0_19 q0.input cm0_19) (zs9 Am0_20 q0.out cm0_20) (q0.how.toNat : Int) q0.halting, om0_18, om0_20, zbz bm1 (zs9 Am1_0 q1.Code cm1_0) q1.Pc (zs9 Am1_2 q1.R cm1_2) (zs9 Am1_3 q1.W cm1_3) (zs9 Am1_4 q1.In cm1_4) (zs9 Am1_5 q1.Out cm1_5) (q1.How.toNat : Int) q1.Final, om1_2, om1_3] ∧ Hp.le τ τ') ?_ ?_
 ·have hF := h51
  rcases z1 hF with ⟨hb52, hF⟩ | ⟨hb52, hF⟩
  ·refine zK (zs6 hb52) ?_
   refine zc hO 5 [3] [(74, zs3 bm0), (78, .pointer (some ⟨bm1, 3, none⟩)), (79, zs9 Am1_3 q1.W cm1_3)] [0, 1, 73] (And.intro (And.intro rfl rfl) zsR) fun j => ?_
   refine zbx ?_
   obtain ⟨c53, h54, hF⟩ := zs8 hF
   have hO := hO.sel [3, 4, 5, 0, 1, 2]
   refine zbe (hs := [_, _, _]) (vs := [_, _, _]) hO (zsq (q0 := (⟨q0.code, q0.pc, q0.regs, q0.words, q0.input, q0.out, q0.how, q0.halting⟩ : zh)) (rm0_0.le hL) (wm0_18.le hL) (rm0_19.le hL) (wm0_20.le hL) h54) rfl fun _ σ _ _ hO h55 h56 => ?_
   have hL := hL.trans h55
   obtain ⟨v57, o60, rfl, rfl, w61⟩ := h56
   obtain ⟨A58, c59, rfl, -⟩ := w61.form
   have hO := zs77 hO
   have hO := hO.sel [4, 5, 6, 0, 1, 2, 3]
   have hO := zs77 hO
   refine ze (zby ⟨(zcM rfl (hO.val (i := 3) (off := 3) (agg := false) (n := 1) rfl rfl) rfl), trivial⟩ ?_)
   obtain ⟨c62, h63, hF⟩ := zs8 hF
   have hO := hO.sel [0, 1, 2, 3, 4, 6, 5]
   refine zbe (hs := [_, _, _, _, _]) (vs := [_, _]) hO (Ctr.lendG w61 (zfH (fun _ _ _ _ h => h)) fun _ lL0 rL0 => Ctr.lendG ((wm1_3.le hL).le lL0) (fun _ _ _ _ h => h) fun _ lL1 rL1 => ziB (rL0.le lL1) rL1 h63) rfl fun _ σ _ _ hO h64 h65 => ?_
   have hL := hL.trans h64
   have w61 := w61.le h64
   obtain ⟨_, rfl, _, rfl, rfl, rfl⟩ := h65
   have hO := zs77 hO
   have hO := hO.sel [0, 1, 2, 3, 4, 6, 5]
   have hO := zs77 hO
   refine zw (zs4 hb52) ?_
   refine ze ?_
   cases hF
   refine zg ?_
   have hO := hO.sel [0, 1, 2, 3, 4, 5]
   exact ⟨rfl, _, zs1 zsN, hO, hL⟩
  refine zcU (zs6 hb52) ⟨trivial, ⟨trivial, ⟨trivial, ⟨trivial, ⟨trivial, ⟨⟨(zc1 (zs6 hb52)), trivial⟩, ⟨trivial, trivial⟩⟩⟩⟩⟩⟩⟩ ?_
  refine zw (zs4 hb52) ?_
  refine ze ?_
  cases hF
  refine zg ?_
  exact ⟨rfl, _, zs1 zsN, hO, hL⟩
 rintro e σ ⟨_, hA, hO, hL⟩
 rw [← zD _ _ hA]
 refine zc hO 1 [] [(82, .bool c50)] [0, 1] zsO fun j => ?_
 obtain ⟨c66, h67, hF⟩ := zs8 hF
 refine zbN 2 (fun e' σ' => ∃ (τ' : Hp), agr [(90, .bool c66), (0, zs3 bm0), (1, zs3 bm1)] e' ∧ Obs τ' σ' [zI bm0 (zs9 Am0_0 q0.code cm0_0) q0.pc q0.regs (zs9 Am0_18 q0.words cm0_18) (zs9 Am0_19 q0.input cm0_19) (zs9 Am0_20 q0.out cm0_20) (q0.how.toNat : Int) q0.halting, om0_18, om0_20, zbz bm1 (zs9 Am1_0 q1.Code cm1_0) q1.Pc (zs9 Am1_2 q1.R cm1_2) (zs9 Am1_3 q1.W cm1_3) (zs9 Am1_4 q1.In cm1_4) (zs9 Am1_5 q1.Out cm1_5) (q1.How.toNat : Int) q1.Final, om1_2, om1_3] ∧ Hp.le τ τ') ?_ ?_
 ·have hF := h67
  rcases z1 hF with ⟨hb68, hF⟩ | ⟨hb68, hF⟩
  ·refine zK (zs6 hb68) ?_
   refine zc hO 5 [3] [(83, zs3 bm0), (87, .pointer (some ⟨bm1, 5, none⟩)), (88, zs9 Am1_5 q1.Out cm1_5)] [0, 1, 82] (And.intro (And.intro rfl rfl) zsR) fun j => ?_
   refine zbx ?_
   obtain ⟨c69, h70, hF⟩ := zs8 hF
   have hO := hO.sel [3, 4, 5, 0, 1, 2]
   refine zbe (hs := [_, _, _]) (vs := [_, _, _]) hO (znO (q0 := (⟨q0.code, q0.pc, q0.regs, q0.words, q0.input, q0.out, q0.how, q0.halting⟩ : zh)) (rm0_0.le hL) (wm0_18.le hL) (rm0_19.le hL) (wm0_20.le hL) h70) rfl fun _ σ _ _ hO h71 h72 => ?_
   have hL := hL.trans h71
   obtain ⟨v73, o76, rfl, rfl, w77⟩ := h72
   obtain ⟨A74, c75, rfl, -⟩ := w77.form
   have hO := zs77 hO
   have hO := hO.sel [4, 5, 6, 0, 1, 2, 3]
   have hO := zs77 hO
   refine ze (zby ⟨(zcM rfl (hO.val (i := 3) (off := 5) (agg := false) (n := 1) rfl rfl) rfl), trivial⟩ ?_)
   obtain ⟨c78, h79, hF⟩ := zs8 hF
   refine zbe (hs := [_, _, _, _, _, _]) (vs := [_]) hO (Ctr.lendG w77 (fun _ _ _ _ h => h) fun _ lL0 rL0 => ziB rL0 ((rm1_5.le hL).le lL0) h79) rfl fun _ σ _ _ hO h80 h81 => ?_
   have hL := hL.trans h80
   have w77 := w77.le h80
   obtain ⟨_, rfl, rfl, rfl⟩ := h81
   have hO := zs77 hO
   refine zw (zs4 hb68) ?_
   refine ze ?_
   cases hF
   refine zg ?_
   have hO := hO.sel [0, 1, 2, 3, 4, 5]
   exact ⟨rfl, _, zs1 zsN, hO, hL⟩
  refine zcU (zs6 hb68) ⟨trivial, ⟨trivial, ⟨trivial, ⟨trivial, ⟨trivial, ⟨⟨(zc1 (zs6 hb68)), trivial⟩, ⟨trivial, trivial⟩⟩⟩⟩⟩⟩⟩ ?_
  refine zw (zs4 hb68) ?_
  refine ze ?_
  cases hF
  refine zg ?_
  exact ⟨rfl, _, zs1 zsN, hO, hL⟩
 rintro e σ ⟨_, hA, hO, hL⟩
 rw [← zD _ _ hA]
 refine za hO [] [(4, .bool c66)] [0, 1] zsO fun j => ?_
 refine zq ?_
 cases hF
 exact hQ _ _ _ _ _ rfl hO hL ⟨rfl, rfl⟩
theorem zl7 {τ : Hp} {v0 : Value} {p0 : (List UInt8)} {p1 p2 : Int} (r0 : RdT Ty.u8 τ v0 p0) {rr : Int} (hF : zez p0 p1 p2 = some rr) :
  Ctr Tryz.prog 69 #[v0, .int .i64 p1, .int .i64 p2] τ [] (fun v τ' vs' => v = .int .i64 rr ∧ vs' = []) := by
 obtain ⟨A0, c0, rfl, -⟩ := r0.form
 refine zu (args := [.slice A0 p0.length c0, .int .i64 p1, .int .i64 p2]) hm Tryz.func69 s69 rfl fun w0 σ hO Q hQ => ?_
 unfold zez at hF
 have hL := Hp.le.refl τ
 show wpn _ _ a69.body _ _ _
 unfold a69
 dsimp only
 refine za hO [] [] [0, 1, 2] zsO fun j => ?_
 refine zb (za hO [] [(14, .bool ((decide (p1 < 0)) || (decide (p1 > (p0.length : Int)))))] [0, 1, 2] (And.intro (And.intro rfl rfl) (fun _ => zs1 zsO)) fun j => ?_)
 refine zi hF rfl (fun hF => ?_) fun hF => ?_
 ·refine zb (zj hO [] [(6, zs2 1)] zsM fun j => ?_)
  refine zp ?_
  cases hF
  exact hQ _ _ _ _ _ rfl hO hL ⟨rfl, rfl⟩
 refine zl (zb (zj hO [] [(20, .bool (decide ((IntKind.i64.wrap ((p0.length : Int) - p1)) < p2)))] zsM fun j => ?_))
 refine zi hF rfl (fun hF => ?_) fun hF => ?_
 ·refine zb (zj hO [] [(6, zs2 5)] zsM fun j => ?_)
  refine zp ?_
  cases hF
  exact hQ _ _ _ _ _ rfl hO hL ⟨rfl, rfl⟩
 refine zl (zj hO [] [(6, zs2 0)] zsM fun j => ?_)
 refine zq ?_
 cases hF
 exact hQ _ _ _ _ _ rfl hO hL ⟨rfl, rfl⟩
theorem zsB {τ : Hp} {v0 : Value} {p0 : (List UInt8)} {p1 : Int} (r0 : RdT Ty.u8 τ v0 p0) {rr : Int × Int × Int} (hF : zeD p0 p1 = some rr) :
  Ctr Tryz.prog 48 #[v0, .int .i64 p1] τ [] (fun v τ' vs' => v = .tuple #[.int .u8 rr.1, .int .i64 rr.2.1, .int .i64 rr.2.2] ∧ vs' = []) := by
 obtain ⟨A0, c0, rfl, -⟩ := r0.form
 refine zu (args := [.slice A0 p0.length c0, .int .i64 p1]) hm Tryz.func48 s48 rfl fun w0 σ hO Q hQ => ?_
 unfold zeD at hF
 have hL := Hp.le.refl τ
 show wpn _ _ a48.body _ _ _
 unfold a48
 dsimp only
 refine za hO [] [] [0, 1] zsN fun j => ?_
 refine zc hO 2 [] [(8, zs9 A0 p0 c0), (9, zs2 p1)] [0, 1] zsP fun j => ?_
 obtain ⟨c3, h4, hF⟩ := zs8 hF
 refine zo hO (zl7 (r0.le hL) h4) rfl fun _ σ _ _ hO h5 h6 => ?_
 have hL := hL.trans h5
 obtain ⟨rfl, rfl⟩ := h6
 have hO : Obs _ _ [] := hO
 refine za hO [] [(7, zs2 c3)] [0, 1] zsO fun j => ?_
 refine zb (za hO [] [(12, .bool (c3 != 0))] [0, 1, 7] zsP fun j => ?_)
 refine zi hF rfl (fun hF => ?_) fun hF => ?_
 ·refine zb (zj hO [] [(4, .int .u8 0), (5, zs2 0), (6, zs2 c3)] zsO fun j => ?_)
  refine zp ?_
  cases hF
  exact hQ _ _ _ _ _ rfl hO hL ⟨rfl, rfl⟩
 refine zl (zc hO 2 [] [(14, zs9 A0 p0 c0), (15, zs2 p1)] [1] zsO fun j => ?_)
 obtain ⟨y8, g9, hF⟩ := zs8 hF
 refine zbJ (T := Ty.u8) (r0.le hL) hO.base rfl rfl g9 (by decide) fun a10 _ k11 m12 => ?_
 obtain rfl : _ = ([.int .u8 y8.toNat] : List Value) := k11
 refine zL rfl (m12.le hO.base).fst ?_
 refine zj hO [] [(4, .int .u8 (y8.toNat : Int)), (5, zs2 (IntKind.i64.wrap (p1 + 1))), (6, zs2 0)] zsO fun j => ?_
 refine zq ?_
 cases hF
 exact hQ _ _ _ _ _ rfl hO hL ⟨rfl, rfl⟩
theorem zmL {τ : Hp} {v0 : Value} {p0 : (List UInt8)} {p1 : Int} (r0 : RdT Ty.u8 τ v0 p0) {rr : Int} (hF : zgH p0 p1 = some rr) :
  Ctr Tryz.prog 70 #[v0, .int .i64 p1] τ [] (fun v τ' vs' => v = .int .i64 rr ∧ vs' = []) := by
 obtain ⟨A0, c0, rfl, -⟩ := r0.form
 refine zu (args := [.slice A0 p0.length c0, .int .i64 p1]) hm Tryz.func70 s70 rfl fun w0 σ hO Q hQ => ?_
 unfold zgH at hF
 have hL := Hp.le.refl τ
 show wpn _ _ a70.body _ _ _
 unfold a70
 dsimp only
 refine za hO [] [] [0, 1] zsN fun j => ?_
 refine zb (za hO [] [(5, zs2 0)] [0, 1] zsO fun j => ?_)
 refine zW (zbG (fun (n : Nat) e' σ' => ∃ (x10 : Int) (τ' : Hp), agr [(0, zs9 A0 p0 c0), (1, zs2 p1), (5, zs2 x10)] e' ∧ Obs τ' σ' [] ∧ Hp.le τ τ' ∧ zh3 p0 p1 n x10 = some rr) big ⟨0, _, zs1 zsN, hO, hL, hF⟩ ?_)
 clear hF hO hL
 rintro n18 e σ ⟨x10, _, hA, hO, hL, hF⟩
 rw [← zD _ _ hA]
 cases n18 with
 | zero => exact nomatch (show none = some rr from hF)
 | succ n18 =>
 replace hF : zhj (zh3 p0 p1 n18) p0 p1 x10 = some rr := hF
 unfold zhj at hF
 refine zb (za hO [] [(15, .bool ((decide (x10 < 10)) && (decide ((IntKind.i64.wrap (p1 + x10)) < (p0.length : Int)))))] [0, 1, 5] (And.intro (And.intro rfl rfl) (fun _ => zs1 zsO)) fun j => ?_)
 refine zi hF rfl (fun hF => ?_) fun hF => ?_
 ·refine zl (zW (zc hO 4 [] [(18, zs9 A0 p0 c0), (21, zs2 (IntKind.i64.wrap (p1 + x10)))] [0, 1, 5] zsQ fun j => ?_))
  obtain ⟨y20, g21, hF⟩ := zs8 hF
  refine zbJ (T := Ty.u8) (r0.le hL) hO.base rfl rfl g21 (by decide) fun a22 _ k23 m24 => ?_
  obtain rfl : _ = ([.int .u8 y20.toNat] : List Value) := k23
  refine zL rfl (m24.le hO.base).fst ?_
  refine za hO [] [(24, .bool (decide ((y20.toNat : Int) < 128)))] [0, 1, 5] zsP fun j => ?_
  refine z5 (zi hF rfl (fun hF => ?_) fun hF => ?_)
  ·refine zb (zj hO [] [(4, zs2 (IntKind.i64.wrap (x10 + 1)))] zsM fun j => ?_)
   refine zp (zJ (zB (zB (zJ (zB ?_)))))
   cases hF
   exact hQ _ _ _ _ _ rfl hO hL ⟨rfl, rfl⟩
  refine zl (zg (zF (zk (zV (za hO [] [(5, zs2 (IntKind.i64.wrap (x10 + 1)))] [0, 1] zsO fun j => ?_)))))
  refine zg (zk ?_)
  exact ⟨n18, Nat.lt_succ_self _, (IntKind.i64.wrap (x10 + 1)), _, zs1 zsN, hO, hL, hF⟩
 refine zbl (zbw (zbD (zk (zj hO [] [(4, zs2 0)] zsM fun j => ?_))))
 refine zq ?_
 cases hF
 exact hQ _ _ _ _ _ rfl hO hL ⟨rfl, rfl⟩
theorem znh {τ : Hp} {v0 : Value} {p0 : (List UInt8)} {p1 p2 : Int} (r0 : RdT Ty.u8 τ v0 p0) {rr : Int} (hF : zgg p0 p1 p2 = some rr) :
  Ctr Tryz.prog 71 #[v0, .int .i64 p1, .int .i64 p2] τ [] (fun v τ' vs' => v = .int .u64 rr ∧ vs' = []) := by
 obtain ⟨A0, c0, rfl, -⟩ := r0.form
 refine zu (args := [.slice A0 p0.length c0, .int .i64 p1, .int .i64 p2]) hm Tryz.func71 s71 rfl fun w0 σ hO Q hQ => ?_
 unfold zgg at hF
 have hL := Hp.le.refl τ
 show wpn _ _ a71.body _ _ _
 unfold a71
 dsimp only
 refine za hO [] [] [0, 1, 2] zsO fun j => ?_
 refine za hO [] [(7, .int .u64 0)] [0, 1, 2] zsP fun j => ?_
 refine zb (za hO [] [(8, zs2 (IntKind.i64.wrap (p2 - 1)))] [0, 1, 7] zsP fun j => ?_)
 refine zW (zbG (fun (n : Nat) e' σ' => ∃ (x10 x11 : Int) (τ' : Hp), agr [(0, zs9 A0 p0 c0), (1, zs2 p1), (7, .int .u64 x10), (8, zs2 x11)] e' ∧ Obs τ' σ' [] ∧ Hp.le τ τ' ∧ zgX p0 p1 n x10 x11 = some rr) big ⟨0, (IntKind.i64.wrap (p2 - 1)), _, zs1 zsO, hO, hL, hF⟩ ?_)
 clear hF hO hL
 rintro n18 e σ ⟨x10, x11, _, hA, hO, hL, hF⟩
 rw [← zD _ _ hA]
 cases n18 with
 | zero => exact nomatch (show none = some rr from hF)
 | succ n18 =>
 replace hF : zib (zgX p0 p1 n18) p0 p1 x10 x11 = some rr := hF
 unfold zib at hF
 refine zb (za hO [] [(12, .bool (decide (x11 ≥ 0)))] [0, 1, 7, 8] zsQ fun j => ?_)
 refine zi hF rfl (fun hF => ?_) fun hF => ?_
 ·refine zl (zW (zV (zc hO 6 [] [(16, .int .u64 (IntKind.u64.wrap (128 * x10))), (17, zs9 A0 p0 c0), (20, zs2 (IntKind.i64.wrap (p1 + x11)))] [0, 1, 8] zsR fun j => ?_)))
  obtain ⟨y20, g21, hF⟩ := zs8 hF
  refine zbJ (T := Ty.u8) (r0.le hL) hO.base rfl rfl g21 (by decide) fun a22 _ k23 m24 => ?_
  obtain rfl : _ = ([.int .u8 y20.toNat] : List Value) := k23
  refine zL rfl (m24.le hO.base).fst ?_
  refine za hO [] [(7, .int .u64 (IntKind.u64.wrap ((IntKind.u64.wrap (128 * x10)) + (IntKind.u64.wrap (Int.tmod (y20.toNat : Int) 128)))))] [0, 1, 8] zsP fun j => ?_
  refine zg (zF (zk (zV (za hO [] [(8, zs2 (IntKind.i64.wrap (x11 - 1)))] [0, 1, 7] zsP fun j => ?_))))
  refine zg (zk ?_)
  exact ⟨n18, Nat.lt_succ_self _, (IntKind.u64.wrap ((IntKind.u64.wrap (128 * x10)) + (IntKind.u64.wrap (Int.tmod (y20.toNat : Int) 128)))), (IntKind.i64.wrap (x11 - 1)), _, zs1 zsO, hO, hL, hF⟩
 refine zbl (zbw (zbD (zk (zj hO [] [(6, .int .u64 x10)] zsM fun j => ?_))))
 refine zq ?_
 cases hF
 exact hQ _ _ _ _ _ rfl hO hL ⟨rfl, rfl⟩
theorem zm2 {τ : Hp} {v0 : Value} {p0 : (List UInt8)} {p1 : Int} {v2 : Value} {p2 : (List UInt8)} (r0 : RdT Ty.u8 τ v0 p0) (r2 : RdT Ty.u8 τ v2 p2) {rr : Bool} (hF : zfB p0 p1 p2 = some rr) :
  Ctr Tryz.prog 72 #[v0, .int .i64 p1, v2] τ [] (fun v τ' vs' => v = .bool rr ∧ vs' = []) := by
 obtain ⟨A0, c0, rfl, -⟩ := r0.form
 obtain ⟨A2, c2, rfl, -⟩ := r2.form
 refine zu (args := [.slice A0 p0.length c0, .int .i64 p1, .slice A2 p2.length c2]) hm Tryz.func72 s72 rfl fun w0 σ hO Q hQ => ?_
 unfold zfB at hF
 have hL := Hp.le.refl τ
 show wpn _ _ a72.body _ _ _
 unfold a72
 dsimp only
 refine za hO [] [] [0, 1, 2] zsO fun j => ?_
 refine zb (za hO [] [(14, .bool (decide ((p2.length : Int) > (IntKind.i64.wrap ((p0.length : Int) - p1)))))] [0, 1, 2] zsP fun j => ?_)
 refine zi hF rfl (fun hF => ?_) fun hF => ?_
 ·refine zb (zj hO [] [(6, .bool false)] zsM fun j => ?_)
  refine zp ?_
  cases hF
  exact hQ _ _ _ _ _ rfl hO hL ⟨rfl, rfl⟩
 refine zl (zb (za hO [] [(7, zs2 0)] [0, 1, 2] zsP fun j => ?_))
 refine zW (zbG (fun (n : Nat) e' σ' => ∃ (x17 : Int) (τ' : Hp), agr [(0, zs9 A0 p0 c0), (1, zs2 p1), (2, zs9 A2 p2 c2), (7, zs2 x17)] e' ∧ Obs τ' σ' [] ∧ Hp.le τ τ' ∧ zh6 p0 p1 p2 n x17 = some rr) big ⟨0, _, zs1 zsO, hO, hL, hF⟩ ?_)
 clear hF hO hL
 rintro n30 e σ ⟨x17, _, hA, hO, hL, hF⟩
 rw [← zD _ _ hA]
 cases n30 with
 | zero => exact nomatch (show none = some rr from hF)
 | succ n30 =>
 replace hF : zhs (zh6 p0 p1 p2 n30) p0 p1 p2 x17 = some rr := hF
 unfold zhs at hF
 refine zb (za hO [] [(18, .bool (decide (x17 < (p2.length : Int))))] [0, 1, 2, 7] zsQ fun j => ?_)
 refine zi hF rfl (fun hF => ?_) fun hF => ?_
 ·refine zl (zW (z8 (zc hO 4 [] [(21, zs9 A0 p0 c0), (24, zs2 (IntKind.i64.wrap (p1 + x17)))] [0, 1, 2, 7] zsR fun j => ?_)))
  obtain ⟨y32, g33, hF⟩ := zs8 hF
  refine zbJ (T := Ty.u8) (r0.le hL) hO.base rfl rfl g33 (by decide) fun a34 _ k35 m36 => ?_
  obtain rfl : _ = ([.int .u8 y32.toNat] : List Value) := k35
  refine zL rfl (m36.le hO.base).fst ?_
  refine zc hO 2 [] [(27, zs9 A2 p2 c2), (28, zs2 x17)] [0, 1, 2, 7, 26] zsS fun j => ?_
  obtain ⟨y37, g38, hF⟩ := zs8 hF
  refine zbJ (T := Ty.u8) (r2.le hL) hO.base rfl rfl g38 (by decide) fun a39 _ k40 m41 => ?_
  obtain rfl : _ = ([.int .u8 y37.toNat] : List Value) := k40
  refine zL rfl (m41.le hO.base).fst ?_
  refine za hO [] [(31, .bool ((y32.toNat : Int) != (y37.toNat : Int)))] [0, 1, 2, 7] zsQ fun j => ?_
  refine z5 (zi hF rfl (fun hF => ?_) fun hF => ?_)
  ·refine zb (zj hO [] [(6, .bool false)] zsM fun j => ?_)
   refine zp (zJ (zB (zB (zJ (zB ?_)))))
   cases hF
   exact hQ _ _ _ _ _ rfl hO hL ⟨rfl, rfl⟩
  refine zl (zg (zF (zk (zV (za hO [] [(7, zs2 (IntKind.i64.wrap (x17 + 1)))] [0, 1, 2] zsP fun j => ?_)))))
  refine zg (zk ?_)
  exact ⟨n30, Nat.lt_succ_self _, (IntKind.i64.wrap (x17 + 1)), _, zs1 zsO, hO, hL, hF⟩
 refine zbl (zbw (zbD (zk (zj hO [] [(6, .bool true)] zsM fun j => ?_))))
 refine zq ?_
 cases hF
 exact hQ _ _ _ _ _ rfl hO hL ⟨rfl, rfl⟩
theorem zpp {τ : Hp} {v0 : Value} {p0 : (List UInt8)} {p1 : Int} (r0 : RdT Ty.u8 τ v0 p0) {rr : Int × Int × Int} (hF : zf4 p0 p1 = some rr) :
  Ctr Tryz.prog 49 #[v0, .int .i64 p1] τ [] (fun v τ' vs' => v = .tuple #[.int .i64 rr.1, .int .i64 rr.2.1, .int .i64 rr.2.2] ∧ vs' = []) := by
 obtain ⟨A0, c0, rfl, -⟩ := r0.form
 refine zu (args := [.slice A0 p0.length c0, .int .i64 p1]) hm Tryz.func49 s49 rfl fun w0 σ hO Q hQ => ?_
 unfold zf4 at hF
 have hL := Hp.le.refl τ
 show wpn _ _ a49.body _ _ _
 unfold a49
 dsimp only
 refine za hO [] [] [0, 1] zsN fun j => ?_
 refine zb (za hO [] [(16, .bool ((decide (p1 < 0)) || (decide (p1 > (p0.length : Int)))))] [0, 1] (And.intro (And.intro rfl rfl) (fun _ => zs1 zsN)) fun j => ?_)
 refine zi hF rfl (fun hF => ?_) fun hF => ?_
 ·refine zb (zj hO [] [(4, zs2 0), (5, zs2 0), (6, zs2 1)] zsO fun j => ?_)
  refine zp ?_
  cases hF
  exact hQ _ _ _ _ _ rfl hO hL ⟨rfl, rfl⟩
 refine zl (zc hO 2 [] [(17, zs9 A0 p0 c0), (18, zs2 p1)] [0, 1] zsP fun j => ?_)
 obtain ⟨c4, h5, hF⟩ := zs8 hF
 refine zo hO (zmL (r0.le hL) h5) rfl fun _ σ _ _ hO h6 h7 => ?_
 have hL := hL.trans h6
 obtain ⟨rfl, rfl⟩ := h7
 have hO : Obs _ _ [] := hO
 refine za hO [] [(7, zs2 c4)] [0, 1] zsO fun j => ?_
 refine zb (za hO [] [(21, .bool (c4 == 0))] [0, 1, 7] zsP fun j => ?_)
 refine zi hF rfl (fun hF => ?_) fun hF => ?_
 ·refine zb (zj hO [] [(4, zs2 0), (5, zs2 0), (6, zs2 5)] zsO fun j => ?_)
  refine zp ?_
  cases hF
  exact hQ _ _ _ _ _ rfl hO hL ⟨rfl, rfl⟩
 refine zl (zc hO 3 [] [(22, zs9 A0 p0 c0), (23, zs2 p1), (24, zs2 c4)] [0, 1, 7] zsR fun j => ?_)
 obtain ⟨c9, h10, hF⟩ := zs8 hF
 refine zo hO (znh (r0.le hL) h10) rfl fun _ σ _ _ hO h11 h12 => ?_
 have hL := hL.trans h11
 obtain ⟨rfl, rfl⟩ := h12
 have hO : Obs _ _ [] := hO
 refine za hO [] [(8, .int .u64 c9)] [0, 1, 7] zsP fun j => ?_
 refine zb (zc hO 5 [] [(26, zs9 A0 p0 c0), (30, zs2 (IntKind.i64.wrap ((IntKind.i64.wrap (p1 + c4)) - 1)))] [0, 1, 7, 8] zsR fun j => ?_)
 obtain ⟨y13, g14, hF⟩ := zs8 hF
 refine zbJ (T := Ty.u8) (r0.le hL) hO.base rfl rfl g14 (by decide) fun a15 _ k16 m17 => ?_
 obtain rfl : _ = ([.int .u8 y13.toNat] : List Value) := k16
 refine zL rfl (m17.le hO.base).fst ?_
 refine zj hO [] [(0, zs9 A0 p0 c0), (1, zs2 p1), (7, zs2 c4), (8, .int .u64 c9), (37, .bool ((decide ((y13.toNat : Int) ≥ 64)) && (decide (c4 < 10))))] (And.intro (And.intro rfl rfl) (fun _ => zs1 zsP)) fun j => ?_
 refine zbK (fun e' σ' => ∃ (x21 : Int) (τ' : Hp), agr [(0, zs9 A0 p0 c0), (1, zs2 p1), (7, zs2 c4), (8, .int .u64 x21)] e' ∧ Obs τ' σ' [] ∧ Hp.le τ τ' ∧ zfw p0 p1 c4 x21 = some rr) ?_ ?_
 ·refine z5 (zi hF rfl (fun hF => ?_) fun hF => ?_)
  ·refine zc hO 4 [] [(38, .int .u64 c9), (41, .int .u64 (IntKind.u64.wrap (IntKind.i64.wrap (7 * c4))))] [0, 1, 7] zsQ fun j => ?_
   obtain ⟨y39, g40, hF⟩ := zs8 hF
   refine zc7 (zfy g40) ?_
   refine za hO [] [(8, .int .u64 (IntKind.u64.wrap (c9 - y39)))] [0, 1, 7] zsP fun j => ?_
   refine zg (zk ?_)
   exact ⟨(IntKind.u64.wrap (c9 - y39)), _, zs1 zsO, hO, hL, hF⟩
  refine zl (zg (zk ?_))
  exact ⟨c9, _, zs1 zsO, hO, hL, hF⟩
 rintro e σ ⟨x21, _, hA, hO, hL, hF⟩
 rw [← zD _ _ hA]
 unfold zfw at hF
 refine zb (zc hO 4 [] [(44, zs9 A0 p0 c0), (45, zs2 p1), (47, zs2 (IntKind.i64.wrap x21))] [1, 7, 8] zsR fun j => ?_)
 obtain ⟨c22, h23, hF⟩ := zs8 hF
 refine zo hO (zmY (RdT.nil Ty.u8 _) h23) rfl fun _ σ _ _ hO h24 h25 => ?_
 have hL := hL.trans h24
 obtain ⟨v26, o29, rfl, rfl, w30⟩ := h25
 obtain ⟨A27, c28, rfl, -⟩ := w30.form
 have hO := zs71 hO
 obtain ⟨_, h32, r31, hO⟩ := w30.share hO (i := 0) rfl
 have hL := hL.trans h32
 have hO := zs71 hO
 obtain ⟨c33, h34, hF⟩ := zs8 hF
 refine zo hO (zm2 (r0.le hL) r31 h34) rfl fun _ σ _ _ hO h35 h36 => ?_
 have hL := hL.trans h35
 have r31 := r31.le h35
 obtain ⟨rfl, rfl⟩ := h36
 have hO := zs71 hO
 refine za hO [] [(50, .bool (!c33))] [1, 7, 8] zsP fun j => ?_
 refine zi hF rfl (fun hF => ?_) fun hF => ?_
 ·refine zb (zj hO [] [(4, zs2 0), (5, zs2 0), (6, zs2 5)] zsO fun j => ?_)
  refine zp ?_
  cases hF
  have hO := hO.sel []
  exact hQ _ _ _ _ _ rfl hO hL ⟨rfl, rfl⟩
 refine zl (zj hO [] [(4, zs2 (IntKind.i64.wrap x21)), (5, zs2 (IntKind.i64.wrap (p1 + c4))), (6, zs2 0)] zsO fun j => ?_)
 refine zq ?_
 cases hF
 have hO := hO.sel []
 exact hQ _ _ _ _ _ rfl hO hL ⟨rfl, rfl⟩
end Go.Proofs.YtgkllgoelpfdkaaGreat
