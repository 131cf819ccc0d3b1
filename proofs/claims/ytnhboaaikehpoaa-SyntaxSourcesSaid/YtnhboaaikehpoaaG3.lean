import Derived.Test.YtnhboaaikehpoaaG2
namespace Go.Proofs.Ytnhboaaikehpoaa
open Go.Ab Go.RowKit
set_option linter.unusedVariables false
set_option linter.unusedSimpArgs false
set_option maxRecDepth 10000
set_option maxHeartbeats 1000000
theorem zbK {τ : Hp} {q0 : zj} {bm0 : Nat} {vm0_0 : Value} {p1 : Int} {p2 : ByteArray} (rm0_0 : RdT zl τ vm0_0 q0.L) {rr : Bool} (hF : zbg q0 p1 p2 = some rr) :
  Ctr Try.prog 22 #[.pointer (some ⟨bm0, 0, none⟩), .int .u8 p1, .string p2] τ [zba bm0 vm0_0 q0.At q0.Failed] (fun v τ' vs' => v = .bool rr ∧ vs' = [zba bm0 vm0_0 q0.At q0.Failed]) := by
 obtain ⟨Am0_0, cm0_0, rfl, -⟩ := rm0_0.form
 refine zbf (args := [.pointer (some ⟨bm0, 0, none⟩), .int .u8 p1, .string p2]) hm Try.func22 s22 rfl fun w0 σ hO Q hQ => ?_
 unfold zbg at hF
 have hL := Hp.le.refl τ
 show wpn _ _ a22.body _ _ _
 unfold a22
 dsimp only
 refine zf hO [] [] [0, 1, 2] zrz fun j => ?_
 refine zbS (za hO 9 [0, 0, 0] [(24, .bool ((!q0.Failed) && (decide (q0.At < (q0.L.length : Int)))))] [0, 1, 2] (And.intro (And.intro rfl rfl) (And.intro (And.intro rfl rfl) (And.intro (And.intro rfl rfl) (And.intro (And.intro rfl rfl) (fun _ => zrM zrz))))) fun j => ?_)
 obtain ⟨c4, h5, hF⟩ := zrT hF
 refine zcw 2 [(38, .bool c4), (0, zrO bm0), (2, .string p2)] (fun Q hQ => ?_) fun j => ?_
 ·have hF := h5
  rcases zbr hF with ⟨hb6, hF⟩ | ⟨hb6, hF⟩
  ·refine zbi (zrR hb6) ?_
   refine za hO 8 [0, 0] [(28, zrU Am0_0 q0.L cm0_0), (32, zrN q0.At)] [0, 1, 2, 24] (And.intro (And.intro rfl rfl) (And.intro (And.intro rfl rfl) zrC)) fun j => ?_
   obtain ⟨y7, g8, hF⟩ := zrT hF
   refine zV (T := zl) (rm0_0.le hL) hO.base rfl rfl g8 (by decide) fun a9 _ k10 m11 => ?_
   obtain rfl : _ = ([.int .u8 y7.Kind.toNat, .string y7.Text, .int .i64 y7.Num, .int .i64 y7.Line] : List Value) := k10
   refine za hO 1 [] [(34, .pointer (some a9))] [0, 1, 2, 24] zrB fun j => ?_
   refine zN rfl (m11.le hO.base).fst ?_
   refine za hO 2 [] [(37, .bool ((y7.Kind.toNat : Int) == p1))] [0, 2, 24] zrA fun j => ?_
   refine zF (zrP hb6) ?_
   refine zc ?_
   cases hF
   refine zi ?_
   exact hQ _ zrz
  refine zbk (zrR hb6) ?_
  refine zF (zrP hb6) ?_
  refine zc ?_
  cases hF
  refine zi ?_
  exact hQ _ zrz
 refine za hO 1 [] [(39, .bool c4)] [0, 2] zrz fun j => ?_
 obtain ⟨c12, h13, hF⟩ := zrT hF
 refine zcw 4 [(57, .bool c12), (0, zrO bm0)] (fun Q hQ => ?_) fun j => ?_
 ·have hF := h13
  rcases zbr hF with ⟨hb14, hF⟩ | ⟨hb14, hF⟩
  ·refine zbi (zrR hb14) ?_
   refine za hO 3 [] [(42, .bool (zbl p2 (⟨#[]⟩ : ByteArray)))] [0, 2, 39] zrA fun j => ?_
   rcases zbr hF with ⟨hb15, hF⟩ | ⟨hb15, hF⟩
   ·refine zbk (zrQ hb15) ?_
    refine zbi (zrR hb14) ?_
    refine zF (zrP hb15) ?_
    refine zF (zrP hb14) ?_
    refine zc ?_
    cases hF
    refine zi ?_
    exact hQ _ zry
   refine zbi (zrQ hb15) ?_
   refine za hO 8 [0, 0] [(46, zrU Am0_0 q0.L cm0_0), (50, zrN q0.At)] [0, 2, 39, 42] (And.intro (And.intro rfl rfl) (And.intro (And.intro rfl rfl) zrC)) fun j => ?_
   obtain ⟨y16, g17, hF⟩ := zrT hF
   refine zV (T := zl) (rm0_0.le hL) hO.base rfl rfl g17 (by decide) fun a18 _ k19 m20 => ?_
   obtain rfl : _ = ([.int .u8 y16.Kind.toNat, .string y16.Text, .int .i64 y16.Num, .int .i64 y16.Line] : List Value) := k19
   refine za hO 1 [] [(52, .pointer (some (a18.add 1)))] [0, 2, 39, 42] zrB fun j => ?_
   refine zN rfl ((m20.le hO.base).one 1 rfl) ?_
   refine za hO 2 [] [(55, .bool (zbl y16.Text p2))] [0, 39, 42] zrA fun j => ?_
   refine zbi (zrR hb14) ?_
   refine zF (zrP hb15) ?_
   refine zF (zrP hb14) ?_
   refine zc ?_
   cases hF
   refine zi ?_
   exact hQ _ zry
  refine zbk (zrR hb14) ?_
  refine zbk rfl ?_
  refine zbk (zrR hb14) ?_
  refine zF (zrP hb14) ?_
  refine zc ?_
  cases hF
  refine zi ?_
  exact hQ _ zry
 refine zf hO [] [(6, .bool c12)] [0] zry fun j => ?_
 refine z3 ?_
 cases hF
 exact hQ _ _ _ _ _ rfl hO hL ⟨rfl, rfl⟩
theorem zfJ {τ : Hp} {q0 : zj} {bm0 : Nat} {vm0_0 : Value} {p1 : Int} {p2 : ByteArray} (rm0_0 : RdT zl τ vm0_0 q0.L) {rr : zp × zj} (hF : zde q0 p1 p2 = some rr) :
  Ctr Try.prog 47 #[.pointer (some ⟨bm0, 0, none⟩), .int .u8 p1, .string p2] τ [zba bm0 vm0_0 q0.At q0.Failed] (fun v τ' vs' => ∃ (u0_0 : Value), v = .agg #[.int .u8 rr.1.Kind.toNat, .string rr.1.Text, .int .i64 rr.1.Num, .int .i64 rr.1.Line] ∧ vs' = [zba bm0 u0_0 rr.2.At rr.2.Failed] ∧ RdT zl τ' u0_0 rr.2.L) := by
 obtain ⟨Am0_0, cm0_0, rfl, -⟩ := rm0_0.form
 refine zbf (args := [.pointer (some ⟨bm0, 0, none⟩), .int .u8 p1, .string p2]) hm Try.func47 s47 rfl fun w0 σ hO Q hQ => ?_
 unfold zde at hF
 have hL := Hp.le.refl τ
 show wpn _ _ a47.body _ _ _
 unfold a47
 dsimp only
 refine zbm hO fun b4 σ hO => ?_
 have hO := zrS2 hO
 refine zc (zg (za hO 3 [] [(7, zrO bm0), (8, .int .u8 p1), (9, .string p2)] [0, 6] zrB fun j => ?_))
 obtain ⟨c5, h6, hF⟩ := zrT hF
 have hO := hO.sel [1, 0]
 refine zn (hs := [_]) (vs := [_]) hO (zbK (rm0_0.le hL) h6) rfl fun _ σ _ _ hO h7 h8 => ?_
 have hL := hL.trans h7
 obtain ⟨rfl, rfl⟩ := h8
 have hO := zrS2 hO
 have hO := hO.sel [1, 0]
 have hO := zrS2 hO
 refine zf hO [] [(11, .bool (!c5))] [0, 6] zrz fun j => ?_
 refine zq hF rfl (fun hF => ?_) fun hF => ?_
 ·refine zg (za hO 3 [] [(14, .pointer (some ⟨bm0, 2, none⟩))] [0, 6] zrz fun j => ?_)
  refine zk hO (i := 0) rfl (off := 2) rfl rfl rfl rfl (Nat.le_of_ble_eq_true rfl) rfl fun σ hO => ?_
  have hO := zrS2 hO
  refine zc (zg (za hO 1 [] [(15, .agg #[(.int .u8 0), (.string (⟨#[]⟩ : ByteArray)), (.int .i64 0), (.int .i64 0)])] [0, 6] zrz fun j => ?_))
  refine zk hO (i := 1) rfl (off := 0) rfl rfl rfl rfl (Nat.le_of_ble_eq_true rfl) rfl fun σ hO => ?_
  have hO := zrS2 hO
  refine zc (z1 ?_)
  cases hF
  have hV0 := hO.val (i := 1) rfl (off := 0) (agg := true) (n := 4) rfl
  have hO := hO.sel [0]
  exact hQ _ _ _ _ _ (z8 rfl (hV0) rfl) hO hL ⟨_, rfl, rfl, (rm0_0.le hL)⟩
 refine zz (za hO 7 [0] [(20, zrN (IntKind.i64.wrap (q0.At + 1))), (22, .pointer (some ⟨bm0, 1, none⟩))] [0, 6] (And.intro (And.intro rfl rfl) zrA) fun j => ?_)
 refine zk hO (i := 0) rfl (off := 1) rfl rfl rfl rfl (Nat.le_of_ble_eq_true rfl) rfl fun σ hO => ?_
 have hO := zrS2 hO
 refine zc (zbS (za hO 9 [0, 0] [(26, zrU Am0_0 q0.L cm0_0), (31, zrN (IntKind.i64.wrap ((IntKind.i64.wrap (q0.At + 1)) - 1)))] [0, 6] (And.intro (And.intro rfl rfl) (And.intro (And.intro rfl rfl) zrA)) fun j => ?_))
 obtain ⟨y10, g11, hF⟩ := zrT hF
 refine zV (T := zl) (rm0_0.le hL) hO.base rfl rfl g11 (by decide) fun a12 _ k13 m14 => ?_
 obtain rfl : _ = ([.int .u8 y10.Kind.toNat, .string y10.Text, .int .i64 y10.Num, .int .i64 y10.Line] : List Value) := k13
 refine zN rfl ((m14.le hO.base).all rfl) ?_
 refine zk hO (i := 1) rfl (off := 0) rfl rfl rfl rfl (Nat.le_of_ble_eq_true rfl) rfl fun σ hO => ?_
 have hO := zrS2 hO
 refine zc (z3 ?_)
 cases hF
 have hV0 := hO.val (i := 1) rfl (off := 0) (agg := true) (n := 4) rfl
 have hO := hO.sel [0]
 exact hQ _ _ _ _ _ (z8 rfl (hV0) rfl) hO hL ⟨_, rfl, rfl, (rm0_0.le hL)⟩
theorem zdu {τ : Hp} {q0 : zj} {bm0 : Nat} {vm0_0 : Value} (rm0_0 : RdT zl τ vm0_0 q0.L) {rr : ByteArray × zj} (hF : zcF q0 = some rr) :
  Ctr Try.prog 23 #[.pointer (some ⟨bm0, 0, none⟩)] τ [zba bm0 vm0_0 q0.At q0.Failed] (fun v τ' vs' => ∃ (u0_0 : Value), v = .string rr.1 ∧ vs' = [zba bm0 u0_0 rr.2.At rr.2.Failed] ∧ RdT zl τ' u0_0 rr.2.L) := by
 obtain ⟨Am0_0, cm0_0, rfl, -⟩ := rm0_0.form
 refine zbf (args := [.pointer (some ⟨bm0, 0, none⟩)]) hm Try.func23 s23 rfl fun w0 σ hO Q hQ => ?_
 unfold zcF at hF
 have hL := Hp.le.refl τ
 show wpn _ _ a23.body _ _ _
 unfold a23
 dsimp only
 refine zf hO [] [] [0] zrx fun j => ?_
 refine za hO 1 [] [(3, zrO bm0)] [0] zry fun j => ?_
 obtain ⟨c2, h3, hF⟩ := zrT hF
 refine zn (hs := []) (vs := [_]) hO (zfJ (p2 := (⟨#[]⟩ : ByteArray)) (rm0_0.le hL) h3) rfl fun _ σ _ _ hO h4 h5 => ?_
 have hL := hL.trans h4
 obtain ⟨v6, rfl, rfl, r9⟩ := h5
 obtain ⟨A7, c8, rfl, -⟩ := r9.form
 have hO := zrS1 hO
 refine zf hO [] [(2, .string c2.1.Text)] [0] zry fun j => ?_
 refine z3 ?_
 cases hF
 exact hQ _ _ _ _ _ rfl hO hL ⟨_, rfl, rfl, r9⟩
theorem ziT {τ : Hp} {q0 : zj} {bm0 : Nat} {vm0_0 : Value} {p1 : ByteArray} (rm0_0 : RdT zl τ vm0_0 q0.L) {rr : zj} (hF : zcY q0 p1 = some rr) :
  Ctr Try.prog 24 #[.pointer (some ⟨bm0, 0, none⟩), .string p1] τ [zba bm0 vm0_0 q0.At q0.Failed] (fun v τ' vs' => ∃ (u0_0 : Value), v = .tuple #[] ∧ vs' = [zba bm0 u0_0 rr.At rr.Failed] ∧ RdT zl τ' u0_0 rr.L) := by
 obtain ⟨Am0_0, cm0_0, rfl, -⟩ := rm0_0.form
 refine zmb (args := [.pointer (some ⟨bm0, 0, none⟩), .string p1]) hm Try.func24 s24 rfl fun w0 σ hO Q hQ => ?_
 unfold zcY at hF
 have hL := Hp.le.refl τ
 show wpn _ _ a24.body _ _ _
 unfold a24
 dsimp only
 refine zbv (za hO 2 [] [(4, zrO bm0), (5, .string p1)] [0] zrz fun j => ?_)
 obtain ⟨c3, h4, hF⟩ := zrT hF
 refine zn (hs := []) (vs := [_]) hO (zfJ (rm0_0.le hL) h4) rfl fun _ σ _ _ hO h5 h6 => ?_
 have hL := hL.trans h5
 obtain ⟨v7, rfl, rfl, r10⟩ := h6
 obtain ⟨A8, c9, rfl, -⟩ := r10.form
 have hO := zrS1 hO
 refine zc (zi ?_)
 cases hF
 exact (hQ _ _ _ _ _ rfl hO hL ⟨_, rfl, rfl, r10⟩).2
theorem zbT {τ : Hp} {q0 : zj} {bm0 : Nat} {vm0_0 : Value} {p1 : ByteArray} (rm0_0 : RdT zl τ vm0_0 q0.L) {rr : zj} (hF : zbt q0 p1 = some rr) :
  Ctr Try.prog 25 #[.pointer (some ⟨bm0, 0, none⟩), .string p1] τ [zba bm0 vm0_0 q0.At q0.Failed] (fun v τ' vs' => ∃ (u0_0 : Value), v = .tuple #[] ∧ vs' = [zba bm0 u0_0 rr.At rr.Failed] ∧ RdT zl τ' u0_0 rr.L) := by
 obtain ⟨Am0_0, cm0_0, rfl, -⟩ := rm0_0.form
 refine zmb (args := [.pointer (some ⟨bm0, 0, none⟩), .string p1]) hm Try.func25 s25 rfl fun w0 σ hO Q hQ => ?_
 unfold zbt at hF
 have hL := Hp.le.refl τ
 show wpn _ _ a25.body _ _ _
 unfold a25
 dsimp only
 refine zbv (za hO 2 [] [(4, zrO bm0), (5, .string p1)] [0] zrz fun j => ?_)
 obtain ⟨c3, h4, hF⟩ := zrT hF
 refine zn (hs := []) (vs := [_]) hO (zfJ (rm0_0.le hL) h4) rfl fun _ σ _ _ hO h5 h6 => ?_
 have hL := hL.trans h5
 obtain ⟨v7, rfl, rfl, r10⟩ := h6
 obtain ⟨A8, c9, rfl, -⟩ := r10.form
 have hO := zrS1 hO
 refine zc (zi ?_)
 cases hF
 exact (hQ _ _ _ _ _ rfl hO hL ⟨_, rfl, rfl, r10⟩).2
theorem zk6 {τ : Hp} {q0 : zj} {bm0 : Nat} {vm0_0 : Value} (rm0_0 : RdT zl τ vm0_0 q0.L) {rr : Int} (hF : zfx q0 = some rr) :
  Ctr Try.prog 26 #[.pointer (some ⟨bm0, 0, none⟩)] τ [zba bm0 vm0_0 q0.At q0.Failed] (fun v τ' vs' => v = .int .i64 rr ∧ vs' = [zba bm0 vm0_0 q0.At q0.Failed]) := by
 obtain ⟨Am0_0, cm0_0, rfl, -⟩ := rm0_0.form
 refine zbf (args := [.pointer (some ⟨bm0, 0, none⟩)]) hm Try.func26 s26 rfl fun w0 σ hO Q hQ => ?_
 unfold zfx at hF
 have hL := Hp.le.refl τ
 show wpn _ _ a26.body _ _ _
 unfold a26
 dsimp only
 refine zf hO [] [] [0] zrx fun j => ?_
 refine zg (zbS (zf hO [0, 0] [(12, .bool (decide (q0.At < (q0.L.length : Int))))] [0] (And.intro (And.intro rfl rfl) (And.intro (And.intro rfl rfl) zry)) fun j => ?_))
 refine zq hF rfl (fun hF => ?_) fun hF => ?_
 ·refine zg (zbS (za hO 8 [0, 0] [(16, zrU Am0_0 q0.L cm0_0), (20, zrN q0.At)] [0] (And.intro (And.intro rfl rfl) (And.intro (And.intro rfl rfl) zrz)) fun j => ?_))
  obtain ⟨y3, g4, hF⟩ := zrT hF
  refine zV (T := zl) (rm0_0.le hL) hO.base rfl rfl g4 (by decide) fun a5 _ k6 m7 => ?_
  obtain rfl : _ = ([.int .u8 y3.Kind.toNat, .string y3.Text, .int .i64 y3.Num, .int .i64 y3.Line] : List Value) := k6
  refine za hO 1 [] [(22, .pointer (some (a5.add 3)))] [0] zry fun j => ?_
  refine zN rfl ((m7.le hO.base).one 3 rfl) ?_
  refine zf hO [] [(2, zrN y3.Line)] [0] zry fun j => ?_
  refine z1 ?_
  cases hF
  exact hQ _ _ _ _ _ rfl hO hL ⟨rfl, rfl⟩
 refine zz (zf hO [] [(2, zrN 0)] [0] zry fun j => ?_)
 refine z3 ?_
 cases hF
 exact hQ _ _ _ _ _ rfl hO hL ⟨rfl, rfl⟩
theorem zkp {τ : Hp} {q0 : zj} {bm0 : Nat} {vm0_0 : Value} {p1 : Bool} (rm0_0 : RdT zl τ vm0_0 q0.L) {rr : zD × zj} (hF : zdF q0 p1 = some rr) :
  Ctr Try.prog 48 #[.pointer (some ⟨bm0, 0, none⟩), .bool p1] τ [zba bm0 vm0_0 q0.At q0.Failed] (fun v τ' vs' => ∃ (u0_0 : Value), v = .agg #[.int .u8 rr.1.Kind.toNat, .int .i64 rr.1.N, .string rr.1.Name] ∧ vs' = [zba bm0 u0_0 rr.2.At rr.2.Failed] ∧ RdT zl τ' u0_0 rr.2.L) := by
 obtain ⟨Am0_0, cm0_0, rfl, -⟩ := rm0_0.form
 refine zbf (args := [.pointer (some ⟨bm0, 0, none⟩), .bool p1]) hm Try.func48 s48 rfl fun w0 σ hO Q hQ => ?_
 unfold zdF at hF
 have hL := Hp.le.refl τ
 show wpn _ _ a48.body _ _ _
 unfold a48
 dsimp only
 refine zbm hO fun b3 σ hO => ?_
 have hO := zrS2 hO
 refine zc (zJ (za hO 1 [] [(7, zrO bm0)] [0, 1, 4] zrA fun j => ?_))
 obtain ⟨c4, h5, hF⟩ := zrT hF
 have hO := hO.sel [1, 0]
 refine zn (hs := [_]) (vs := [_]) hO (zbK (p2 := (⟨#[105, 110, 116]⟩ : ByteArray)) (rm0_0.le hL) h5) rfl fun _ σ _ _ hO h6 h7 => ?_
 have hL := hL.trans h6
 obtain ⟨rfl, rfl⟩ := h7
 have hO := zrS2 hO
 have hO := hO.sel [1, 0]
 have hO := zrS2 hO
 refine zf hO [] [(6, .bool c4)] [0, 1, 4] zrA fun j => ?_
 refine zbF (zq hF rfl (fun hF => ?_) fun hF => ?_)
 ·refine zg (za hO 7 [0] [(13, zrN (IntKind.i64.wrap (q0.At + 1))), (15, .pointer (some ⟨bm0, 1, none⟩))] [0, 4] (And.intro (And.intro rfl rfl) zrA) fun j => ?_)
  refine zk hO (i := 0) rfl (off := 1) rfl rfl rfl rfl (Nat.le_of_ble_eq_true rfl) rfl fun σ hO => ?_
  have hO := zrS2 hO
  refine zc (zg (za hO 1 [] [(16, .agg #[(.int .u8 1), (.int .i64 0), (.string (⟨#[]⟩ : ByteArray))])] [0, 4] zrz fun j => ?_))
  refine zk hO (i := 1) rfl (off := 0) rfl rfl rfl rfl (Nat.le_of_ble_eq_true rfl) rfl fun σ hO => ?_
  have hO := zrS2 hO
  refine zc (z1 (zY (zE ?_)))
  cases hF
  have hV0 := hO.val (i := 1) rfl (off := 0) (agg := true) (n := 3) rfl
  have hO := hO.sel [0]
  exact hQ _ _ _ _ _ (z8 rfl (hV0) rfl) hO hL ⟨_, rfl, rfl, (rm0_0.le hL)⟩
 refine zg (za hO 1 [] [(18, zrO bm0)] [0, 1, 4] zrA fun j => ?_)
 obtain ⟨c9, h10, hF⟩ := zrT hF
 have hO := hO.sel [1, 0]
 refine zn (hs := [_]) (vs := [_]) hO (zbK (p2 := (⟨#[98, 111, 111, 108]⟩ : ByteArray)) (rm0_0.le hL) h10) rfl fun _ σ _ _ hO h11 h12 => ?_
 have hL := hL.trans h11
 obtain ⟨rfl, rfl⟩ := h12
 have hO := zrS2 hO
 have hO := hO.sel [1, 0]
 have hO := zrS2 hO
 refine zf hO [] [(17, .bool c9)] [0, 1, 4] zrA fun j => ?_
 refine zq hF rfl (fun hF => ?_) fun hF => ?_
 ·refine zg (za hO 7 [0] [(24, zrN (IntKind.i64.wrap (q0.At + 1))), (26, .pointer (some ⟨bm0, 1, none⟩))] [0, 4] (And.intro (And.intro rfl rfl) zrA) fun j => ?_)
  refine zk hO (i := 0) rfl (off := 1) rfl rfl rfl rfl (Nat.le_of_ble_eq_true rfl) rfl fun σ hO => ?_
  have hO := zrS2 hO
  refine zc (zg (za hO 1 [] [(27, .agg #[(.int .u8 2), (.int .i64 0), (.string (⟨#[]⟩ : ByteArray))])] [0, 4] zrz fun j => ?_))
  refine zk hO (i := 1) rfl (off := 0) rfl rfl rfl rfl (Nat.le_of_ble_eq_true rfl) rfl fun σ hO => ?_
  have hO := zrS2 hO
  refine zc (z1 (zY (zE ?_)))
  cases hF
  have hV0 := hO.val (i := 1) rfl (off := 0) (agg := true) (n := 3) rfl
  have hO := hO.sel [0]
  exact hQ _ _ _ _ _ (z8 rfl (hV0) rfl) hO hL ⟨_, rfl, rfl, (rm0_0.le hL)⟩
 refine zg (za hO 1 [] [(29, zrO bm0)] [0, 1, 4] zrA fun j => ?_)
 obtain ⟨c14, h15, hF⟩ := zrT hF
 have hO := hO.sel [1, 0]
 refine zn (hs := [_]) (vs := [_]) hO (zbK (p2 := (⟨#[91]⟩ : ByteArray)) (rm0_0.le hL) h15) rfl fun _ σ _ _ hO h16 h17 => ?_
 have hL := hL.trans h16
 obtain ⟨rfl, rfl⟩ := h17
 have hO := zrS2 hO
 have hO := hO.sel [1, 0]
 have hO := zrS2 hO
 refine zf hO [] [(28, .bool c14)] [0, 1, 4] zrA fun j => ?_
 refine zq hF rfl (fun hF => ?_) fun hF => ?_
 ·refine zg (za hO 7 [0] [(35, zrN (IntKind.i64.wrap (q0.At + 1))), (37, .pointer (some ⟨bm0, 1, none⟩))] [0, 4] (And.intro (And.intro rfl rfl) zrA) fun j => ?_)
  refine zk hO (i := 0) rfl (off := 1) rfl rfl rfl rfl (Nat.le_of_ble_eq_true rfl) rfl fun σ hO => ?_
  have hO := zrS2 hO
  refine zc (zg (za hO 1 [] [(38, zrO bm0)] [0, 4] zrz fun j => ?_))
  obtain ⟨c19, h20, hF⟩ := zrT hF
  have hO := hO.sel [1, 0]
  refine zn (hs := [_]) (vs := [_]) hO (zfJ (q0 := (⟨q0.L, (IntKind.i64.wrap (q0.At + 1)), q0.Failed⟩ : zj)) (p2 := (⟨#[]⟩ : ByteArray)) (rm0_0.le hL) h20) rfl fun _ σ _ _ hO h21 h22 => ?_
  have hL := hL.trans h21
  obtain ⟨v23, rfl, rfl, r26⟩ := h22
  obtain ⟨A24, c25, rfl, -⟩ := r26.form
  have hO := zrS2 hO
  refine zZ hO [] [(0, zrO bm0), (4, zrO b3), (5, zrN c19.1.Num)] zrz fun j => ?_
  refine zg (za hO 1 [] [(41, zrO bm0)] [0, 4, 5] zrA fun j => ?_)
  obtain ⟨c27, h28, hF⟩ := zrT hF
  refine zn (hs := [_]) (vs := [_]) hO (zbT (p1 := (⟨#[93]⟩ : ByteArray)) r26 h28) rfl fun _ σ _ _ hO h29 h30 => ?_
  have hL := hL.trans h29
  obtain ⟨v31, rfl, rfl, r34⟩ := h30
  obtain ⟨A32, c33, rfl, -⟩ := r34.form
  have hO := zrS2 hO
  refine zc (zg (za hO 1 [] [(43, zrO bm0)] [0, 4, 5] zrA fun j => ?_))
  obtain ⟨c35, h36, hF⟩ := zrT hF
  refine zn (hs := [_]) (vs := [_]) hO (ziT (p1 := (⟨#[105, 110, 116]⟩ : ByteArray)) r34 h36) rfl fun _ σ _ _ hO h37 h38 => ?_
  have hL := hL.trans h37
  obtain ⟨v39, rfl, rfl, r42⟩ := h38
  obtain ⟨A40, c41, rfl, -⟩ := r42.form
  have hO := zrS2 hO
  refine zc (zg (za hO 2 [] [(46, .agg #[(.int .u8 3), (.int .i64 c19.1.Num), (.string (⟨#[]⟩ : ByteArray))])] [0, 4] zrz fun j => ?_))
  refine zk hO (i := 0) rfl (off := 0) rfl rfl rfl rfl (Nat.le_of_ble_eq_true rfl) rfl fun σ hO => ?_
  have hO := zrS2 hO
  refine zc (z1 (zY (zE ?_)))
  cases hF
  have hV0 := hO.val (i := 0) rfl (off := 0) (agg := true) (n := 3) rfl
  have hO := hO.sel [1]
  exact hQ _ _ _ _ _ (z8 rfl (hV0) rfl) hO hL ⟨_, rfl, rfl, r42⟩
 refine zg (za hO 1 [] [(48, zrO bm0)] [0, 1, 4] zrA fun j => ?_)
 obtain ⟨c43, h44, hF⟩ := zrT hF
 have hO := hO.sel [1, 0]
 refine zn (hs := [_]) (vs := [_]) hO (zbK (p2 := (⟨#[]⟩ : ByteArray)) (rm0_0.le hL) h44) rfl fun _ σ _ _ hO h45 h46 => ?_
 have hL := hL.trans h45
 obtain ⟨rfl, rfl⟩ := h46
 have hO := zrS2 hO
 have hO := hO.sel [1, 0]
 have hO := zrS2 hO
 refine zf hO [] [(47, .bool c43)] [0, 1, 4] zrA fun j => ?_
 refine zq hF rfl (fun hF => ?_) fun hF => ?_
 ·refine zg (zbn hO 1 [] [(0, zrO bm0), (4, zrO b3), (50, zrO bm0)] zrz fun j => ?_)
  obtain ⟨c48, h49, hF⟩ := zrT hF
  have hO := hO.sel [1, 0]
  refine zn (hs := [_]) (vs := [_]) hO (zdu (rm0_0.le hL) h49) rfl fun _ σ _ _ hO h50 h51 => ?_
  have hL := hL.trans h50
  obtain ⟨v52, rfl, rfl, r55⟩ := h51
  obtain ⟨A53, c54, rfl, -⟩ := r55.form
  have hO := zrS2 hO
  refine za hO 1 [] [(52, .agg #[(.int .u8 4), (.int .i64 0), (.string c48.1)])] [0, 4] zrz fun j => ?_
  refine zk hO (i := 0) rfl (off := 0) rfl rfl rfl rfl (Nat.le_of_ble_eq_true rfl) rfl fun σ hO => ?_
  have hO := zrS2 hO
  refine zc (z1 (zY (zE ?_)))
  cases hF
  have hV0 := hO.val (i := 0) rfl (off := 0) (agg := true) (n := 3) rfl
  have hO := hO.sel [1]
  exact hQ _ _ _ _ _ (z8 rfl (hV0) rfl) hO hL ⟨_, rfl, rfl, r55⟩
 refine zz (zi (zM (zm (zg (zZ hO [] [(0, zrO bm0), (4, zrO b3), (53, .bool p1)] zrz fun j => ?_)))))
 refine zq hF rfl (fun hF => ?_) fun hF => ?_
 ·refine za hO 3 [] [(56, .pointer (some ⟨bm0, 2, none⟩))] [0, 4] zrz fun j => ?_
  refine zk hO (i := 0) rfl (off := 2) rfl rfl rfl rfl (Nat.le_of_ble_eq_true rfl) rfl fun σ hO => ?_
  have hO := zrS2 hO
  refine zc (za hO 1 [] [(57, .agg #[(.int .u8 0), (.int .i64 0), (.string (⟨#[]⟩ : ByteArray))])] [0, 4] zrz fun j => ?_)
  refine zk hO (i := 1) rfl (off := 0) rfl rfl rfl rfl (Nat.le_of_ble_eq_true rfl) rfl fun σ hO => ?_
  have hO := zrS2 hO
  refine zc (z3 ?_)
  cases hF
  have hV0 := hO.val (i := 1) rfl (off := 0) (agg := true) (n := 3) rfl
  have hO := hO.sel [0]
  exact hQ _ _ _ _ _ (z8 rfl (hV0) rfl) hO hL ⟨_, rfl, rfl, (rm0_0.le hL)⟩
 refine zz (za hO 1 [] [(57, .agg #[(.int .u8 0), (.int .i64 0), (.string (⟨#[]⟩ : ByteArray))])] [0, 4] zrz fun j => ?_)
 refine zk hO (i := 1) rfl (off := 0) rfl rfl rfl rfl (Nat.le_of_ble_eq_true rfl) rfl fun σ hO => ?_
 have hO := zrS2 hO
 refine zc (z3 ?_)
 cases hF
 have hV0 := hO.val (i := 1) rfl (off := 0) (agg := true) (n := 3) rfl
 have hO := hO.sel [0]
 exact hQ _ _ _ _ _ (z8 rfl (hV0) rfl) hO hL ⟨_, rfl, rfl, (rm0_0.le hL)⟩
theorem zlE {τ : Hp}   {rr : (List (List ByteArray))} (hF : zfz  = some rr) :
  Ctr Try.prog 85 #[] τ [] (fun v τ' vs' => ∃ (v0 : Value) (o0 : Ob), v = v0 ∧ vs' = [o0] ∧ ze (Ty.slice Ty.str) 69 τ' v0 rr o0) := by
 refine zbf (args := []) hm Try.func85 s85 rfl fun w0 σ hO Q hQ => ?_
 unfold zfz at hF
 have hL := Hp.le.refl τ
 show wpn _ _ a85.body _ _ _
 unfold a85
 dsimp only
 refine zZ hO [] [] (trivial) fun j => ?_
 refine zB (T := Ty.str) (l := ([(⟨#[124, 124]⟩ : ByteArray)] : List ByteArray)) (cs := [.string (⟨#[124, 124]⟩ : ByteArray)]) hO rfl ⟨[.string (⟨#[124, 124]⟩ : ByteArray)], _, rfl, rfl, rfl⟩ rfl (by decide) fun _ σ o3 w4 hO => ?_
 obtain ⟨A1, c2, rfl, -⟩ := w4.form
 have hO := zrS1 hO
 refine zB (T := Ty.str) (l := ([(⟨#[38, 38]⟩ : ByteArray)] : List ByteArray)) (cs := [.string (⟨#[38, 38]⟩ : ByteArray)]) hO rfl ⟨[.string (⟨#[38, 38]⟩ : ByteArray)], _, rfl, rfl, rfl⟩ rfl (by decide) fun _ σ o7 w8 hO => ?_
 obtain ⟨A5, c6, rfl, -⟩ := w8.form
 have hO := zrS2 hO
 refine zB (T := Ty.str) (l := ([(⟨#[61, 61]⟩ : ByteArray), (⟨#[33, 61]⟩ : ByteArray), (⟨#[60]⟩ : ByteArray), (⟨#[60, 61]⟩ : ByteArray), (⟨#[62]⟩ : ByteArray), (⟨#[62, 61]⟩ : ByteArray)] : List ByteArray)) (cs := [.string (⟨#[61, 61]⟩ : ByteArray), .string (⟨#[33, 61]⟩ : ByteArray), .string (⟨#[60]⟩ : ByteArray), .string (⟨#[60, 61]⟩ : ByteArray), .string (⟨#[62]⟩ : ByteArray), .string (⟨#[62, 61]⟩ : ByteArray)]) hO (by kernel_rfl) ⟨[.string (⟨#[61, 61]⟩ : ByteArray)], _, rfl, rfl, ⟨[.string (⟨#[33, 61]⟩ : ByteArray)], _, rfl, rfl, ⟨[.string (⟨#[60]⟩ : ByteArray)], _, rfl, rfl, ⟨[.string (⟨#[60, 61]⟩ : ByteArray)], _, rfl, rfl, ⟨[.string (⟨#[62]⟩ : ByteArray)], _, rfl, rfl, ⟨[.string (⟨#[62, 61]⟩ : ByteArray)], _, rfl, rfl, rfl⟩⟩⟩⟩⟩⟩ rfl (by decide) fun _ σ o11 w12 hO => ?_
 obtain ⟨A9, c10, rfl, -⟩ := w12.form
 have hO := zrS3 hO
 refine zB (T := Ty.str) (l := ([(⟨#[43]⟩ : ByteArray), (⟨#[45]⟩ : ByteArray)] : List ByteArray)) (cs := [.string (⟨#[43]⟩ : ByteArray), .string (⟨#[45]⟩ : ByteArray)]) hO rfl ⟨[.string (⟨#[43]⟩ : ByteArray)], _, rfl, rfl, ⟨[.string (⟨#[45]⟩ : ByteArray)], _, rfl, rfl, rfl⟩⟩ rfl (by decide) fun _ σ o15 w16 hO => ?_
 obtain ⟨A13, c14, rfl, -⟩ := w16.form
 have hO := zrS4 hO
 refine zB (T := Ty.str) (l := ([(⟨#[42]⟩ : ByteArray), (⟨#[47]⟩ : ByteArray), (⟨#[37]⟩ : ByteArray)] : List ByteArray)) (cs := [.string (⟨#[42]⟩ : ByteArray), .string (⟨#[47]⟩ : ByteArray), .string (⟨#[37]⟩ : ByteArray)]) hO rfl ⟨[.string (⟨#[42]⟩ : ByteArray)], _, rfl, rfl, ⟨[.string (⟨#[47]⟩ : ByteArray)], _, rfl, rfl, ⟨[.string (⟨#[37]⟩ : ByteArray)], _, rfl, rfl, rfl⟩⟩⟩ rfl (by decide) fun _ σ o19 w20 hO => ?_
 obtain ⟨A17, c18, rfl, -⟩ := w20.form
 have hO := zrS5 hO
 obtain ⟨_, h22, r21, hO⟩ := w4.share hO (i := 0) rfl
 have hL := hL.trans h22
 have w8 := w8.le h22
 have w12 := w12.le h22
 have w16 := w16.le h22
 have w20 := w20.le h22
 have hO := zrS5 hO
 obtain ⟨_, h24, r23, hO⟩ := w8.share hO (i := 1) rfl
 have hL := hL.trans h24
 have r21 := r21.le h24
 have w12 := w12.le h24
 have w16 := w16.le h24
 have w20 := w20.le h24
 have hO := zrS5 hO
 obtain ⟨_, h26, r25, hO⟩ := w12.share hO (i := 2) rfl
 have hL := hL.trans h26
 have r21 := r21.le h26
 have r23 := r23.le h26
 have w16 := w16.le h26
 have w20 := w20.le h26
 have hO := zrS5 hO
 obtain ⟨_, h28, r27, hO⟩ := w16.share hO (i := 3) rfl
 have hL := hL.trans h28
 have r21 := r21.le h28
 have r23 := r23.le h28
 have r25 := r25.le h28
 have w20 := w20.le h28
 have hO := zrS5 hO
 obtain ⟨_, h30, r29, hO⟩ := w20.share hO (i := 4) rfl
 have hL := hL.trans h30
 have r21 := r21.le h30
 have r23 := r23.le h30
 have r25 := r25.le h30
 have r27 := r27.le h30
 have hO := zrS5 hO
 refine zB (T := (Ty.slice Ty.str)) (l := ([([(⟨#[124, 124]⟩ : ByteArray)] : List ByteArray), ([(⟨#[38, 38]⟩ : ByteArray)] : List ByteArray), ([(⟨#[61, 61]⟩ : ByteArray), (⟨#[33, 61]⟩ : ByteArray), (⟨#[60]⟩ : ByteArray), (⟨#[60, 61]⟩ : ByteArray), (⟨#[62]⟩ : ByteArray), (⟨#[62, 61]⟩ : ByteArray)] : List ByteArray), ([(⟨#[43]⟩ : ByteArray), (⟨#[45]⟩ : ByteArray)] : List ByteArray), ([(⟨#[42]⟩ : ByteArray), (⟨#[47]⟩ : ByteArray), (⟨#[37]⟩ : ByteArray)] : List ByteArray)] : List (List ByteArray))) (cs := [zrU A1 ([(⟨#[124, 124]⟩ : ByteArray)] : List ByteArray) c2, zrU A5 ([(⟨#[38, 38]⟩ : ByteArray)] : List ByteArray) c6, zrU A9 ([(⟨#[61, 61]⟩ : ByteArray), (⟨#[33, 61]⟩ : ByteArray), (⟨#[60]⟩ : ByteArray), (⟨#[60, 61]⟩ : ByteArray), (⟨#[62]⟩ : ByteArray), (⟨#[62, 61]⟩ : ByteArray)] : List ByteArray) c10, zrU A13 ([(⟨#[43]⟩ : ByteArray), (⟨#[45]⟩ : ByteArray)] : List ByteArray) c14, zrU A17 ([(⟨#[42]⟩ : ByteArray), (⟨#[47]⟩ : ByteArray), (⟨#[37]⟩ : ByteArray)] : List ByteArray) c18]) hO rfl ⟨[zrU A1 ([(⟨#[124, 124]⟩ : ByteArray)] : List ByteArray) c2], _, rfl, ⟨_, rfl, r21⟩, ⟨[zrU A5 ([(⟨#[38, 38]⟩ : ByteArray)] : List ByteArray) c6], _, rfl, ⟨_, rfl, r23⟩, ⟨[zrU A9 ([(⟨#[61, 61]⟩ : ByteArray), (⟨#[33, 61]⟩ : ByteArray), (⟨#[60]⟩ : ByteArray), (⟨#[60, 61]⟩ : ByteArray), (⟨#[62]⟩ : ByteArray), (⟨#[62, 61]⟩ : ByteArray)] : List ByteArray) c10], _, rfl, ⟨_, rfl, r25⟩, ⟨[zrU A13 ([(⟨#[43]⟩ : ByteArray), (⟨#[45]⟩ : ByteArray)] : List ByteArray) c14], _, rfl, ⟨_, rfl, r27⟩, ⟨[zrU A17 ([(⟨#[42]⟩ : ByteArray), (⟨#[47]⟩ : ByteArray), (⟨#[37]⟩ : ByteArray)] : List ByteArray) c18], _, rfl, ⟨_, rfl, r29⟩, rfl⟩⟩⟩⟩⟩ rfl (by decide) fun _ σ o33 w34 hO => ?_
 obtain ⟨A31, c32, rfl, -⟩ := w34.form
 have hO := zrS6 hO
 refine zZ hO [] [(0, zrU A31 ([([(⟨#[124, 124]⟩ : ByteArray)] : List ByteArray), ([(⟨#[38, 38]⟩ : ByteArray)] : List ByteArray), ([(⟨#[61, 61]⟩ : ByteArray), (⟨#[33, 61]⟩ : ByteArray), (⟨#[60]⟩ : ByteArray), (⟨#[60, 61]⟩ : ByteArray), (⟨#[62]⟩ : ByteArray), (⟨#[62, 61]⟩ : ByteArray)] : List ByteArray), ([(⟨#[43]⟩ : ByteArray), (⟨#[45]⟩ : ByteArray)] : List ByteArray), ([(⟨#[42]⟩ : ByteArray), (⟨#[47]⟩ : ByteArray), (⟨#[37]⟩ : ByteArray)] : List ByteArray)] : List (List ByteArray)) c32)] zrx fun j => ?_
 refine z3 ?_
 cases hF
 have hO := hO.sel [5]
 exact hQ _ _ _ _ _ rfl hO hL ⟨_, _, rfl, rfl, w34⟩
theorem zop {τ : Hp} {q0 : zj} {bm0 : Nat} {vm0_0 : Value} {p1 : Int} (rm0_0 : RdT zl τ vm0_0 q0.L) {rr : ByteArray} (hF : zg3 q0 p1 = some rr) :
  Ctr Try.prog 87 #[.pointer (some ⟨bm0, 0, none⟩), .int .i64 p1] τ [zba bm0 vm0_0 q0.At q0.Failed] (fun v τ' vs' => v = .string rr ∧ vs' = [zba bm0 vm0_0 q0.At q0.Failed]) := by
 obtain ⟨Am0_0, cm0_0, rfl, -⟩ := rm0_0.form
 refine zbf (args := [.pointer (some ⟨bm0, 0, none⟩), .int .i64 p1]) hm Try.func87 s87 rfl fun w0 σ hO Q hQ => ?_
 unfold zg3 at hF
 have hL := Hp.le.refl τ
 show wpn _ _ a87.body _ _ _
 unfold a87
 dsimp only
 refine zf hO [] [] [0, 1] zry fun j => ?_
 obtain ⟨c3, h4, hF⟩ := zrT hF
 refine zbh hO (zlE h4) rfl fun _ σ _ _ hO h5 h6 => ?_
 have hL := hL.trans h5
 obtain ⟨v7, o10, rfl, rfl, w11⟩ := h6
 obtain ⟨A8, c9, rfl, -⟩ := w11.form
 have hO := zrS2 hO
 refine za hO 1 [] [(8, zrN p1)] [0, 7] zrz fun j => ?_
 obtain ⟨y12, g13, hF⟩ := zrT hF
 refine zfu (T := (Ty.slice Ty.str)) hO w11 (i := 1) rfl rfl rfl g13 (by decide) fun a14 _ k15 m16 i17 => ?_
 have k18 := k15
 obtain ⟨v19, rfl, r20⟩ := k18
 obtain ⟨A21, c22, rfl, -⟩ := r20.form
 refine zN rfl m16.fst ?_
 refine zf hO [] [(5, zrU A21 y12 c22)] [0] zry fun j => ?_
 refine zg (zf hO [] [(6, zrN 0)] [0, 5] zrz fun j => ?_)
 refine zJ ?_
 have hO := hO.sel [0]
 refine zby (fun (n : Nat) e' σ' => ∃ (x41 : Int) (τ' : Hp), agr [(0, zrO bm0), (5, zrU A21 y12 c22), (6, zrN x41)] e' ∧ Obs τ' σ' [zba bm0 (zrU Am0_0 q0.L cm0_0) q0.At q0.Failed] ∧ Hp.le τ τ' ∧ RdT Ty.str τ' (zrU A21 y12 c22) y12 ∧ zeF q0 y12 n x41 = some rr) big ⟨0, _, zrM zry, hO, hL, r20, hF⟩ ?_
 clear hF hO hL
 rintro n58 e σ ⟨x41, _, hA, hO, hL, r40, hF⟩
 rw [← zW _ _ hA]
 cases n58 with
 | zero => exact nomatch (show none = some rr from hF)
 | succ n58 =>
 replace hF : zfe (zeF q0 y12 n58) q0 y12 x41 = some rr := hF
 unfold zfe at hF
 refine zg (zf hO [] [(14, .bool (decide (x41 < (y12.length : Int))))] [0, 5, 6] zrA fun j => ?_)
 refine zq hF rfl (fun hF => ?_) fun hF => ?_
 ·refine zz (zJ (za hO 3 [] [(17, zrO bm0), (18, zrU A21 y12 c22), (19, zrN x41)] [0, 5, 6] zrC fun j => ?_))
  obtain ⟨y60, g61, hF⟩ := zrT hF
  refine zV (T := Ty.str) r40 hO.base rfl rfl g61 (by decide) fun a62 _ k63 m64 => ?_
  obtain rfl : _ = ([.string y60] : List Value) := k63
  refine zN rfl (m64.le hO.base).fst ?_
  obtain ⟨c65, h66, hF⟩ := zrT hF
  refine zn (hs := []) (vs := [_]) hO (zbK (rm0_0.le hL) h66) rfl fun _ σ _ _ hO h67 h68 => ?_
  have hL := hL.trans h67
  have r40 := r40.le h67
  have m64 := m64.le h67
  obtain ⟨rfl, rfl⟩ := h68
  have hO := zrS1 hO
  refine zc (zbF (zq hF rfl (fun hF => ?_) fun hF => ?_))
  ·refine zg (za hO 2 [] [(23, zrU A21 y12 c22), (24, zrN x41)] [0] zrz fun j => ?_)
   obtain ⟨y70, g71, hF⟩ := zrT hF
   refine zV (T := Ty.str) r40 hO.base rfl rfl g71 (by decide) fun a72 _ k73 m74 => ?_
   obtain rfl : _ = ([.string y70] : List Value) := k73
   refine zN rfl (m74.le hO.base).fst ?_
   refine zf hO [] [(4, .string y70)] [0] zry fun j => ?_
   refine z1 (zY (zE (zE (zY (zE ?_)))))
   cases hF
   exact hQ _ _ _ _ _ rfl hO hL ⟨rfl, rfl⟩
  refine zz (zi (zM (zm (zbv (zf hO [] [(6, zrN (IntKind.i64.wrap (x41 + 1)))] [0, 5] zrz fun j => ?_)))))
  refine zi (zm ?_)
  exact ⟨n58, Nat.lt_succ_self _, (IntKind.i64.wrap (x41 + 1)), _, zrM zry, hO, hL, r40, hF⟩
 refine zbA (zbB (zbz (zm (zf hO [] [(4, .string (⟨#[]⟩ : ByteArray))] [0] zry fun j => ?_))))
 refine z3 ?_
 cases hF
 exact hQ _ _ _ _ _ rfl hO hL ⟨rfl, rfl⟩
def zjX (gn : Nat) : Prop := ∀ {τ : Hp} {q0 : zj} {bm0 : Nat} {vm0_0 : Value} {p1 : Int} (rm0_0 : RdT zl τ vm0_0 q0.L) {rr : zb × zj} (hF : ((zbP gn).1) q0 p1 = some rr), Ctr Try.prog 79 #[.pointer (some ⟨bm0, 0, none⟩), .int .i64 p1] τ [zba bm0 vm0_0 q0.At q0.Failed] (fun v τ' vs' => ∃ (v0_5 u0_0 : Value), v = .agg #[.int .u8 rr.1.Kind.toNat, .int .i64 rr.1.Num, .string rr.1.Name, .string rr.1.Field, .string rr.1.Op, v0_5] ∧ vs' = [zba bm0 u0_0 rr.2.At rr.2.Failed] ∧ RdT zr τ' v0_5 rr.1.Kids ∧ RdT zl τ' u0_0 rr.2.L)
def zjh (gn : Nat) : Prop := ∀ {τ : Hp} {q0 : zj} {bm0 : Nat} {vm0_0 : Value} (rm0_0 : RdT zl τ vm0_0 q0.L) {rr : zb × zj} (hF : ((zbP gn).2) q0 = some rr), Ctr Try.prog 86 #[.pointer (some ⟨bm0, 0, none⟩)] τ [zba bm0 vm0_0 q0.At q0.Failed] (fun v τ' vs' => ∃ (v0_5 u0_0 : Value), v = .agg #[.int .u8 rr.1.Kind.toNat, .int .i64 rr.1.Num, .string rr.1.Name, .string rr.1.Field, .string rr.1.Op, v0_5] ∧ vs' = [zba bm0 u0_0 rr.2.At rr.2.Failed] ∧ RdT zr τ' v0_5 rr.1.Kids ∧ RdT zl τ' u0_0 rr.2.L)
theorem zpR {gn : Nat} (ih_ref12_parser_exp : zjX gn) (ih_ref12_parser_primary : zjh gn) {τ : Hp} {q0 : zj} {bm0 : Nat} {vm0_0 : Value} {p1 : Int} (rm0_0 : RdT zl τ vm0_0 q0.L) {rr : zb × zj} (hF : zep ((zbP gn).1) ((zbP gn).2) q0 p1 = some rr) :
  Ctr Try.prog 79 #[.pointer (some ⟨bm0, 0, none⟩), .int .i64 p1] τ [zba bm0 vm0_0 q0.At q0.Failed] (fun v τ' vs' => ∃ (v0_5 u0_0 : Value), v = .agg #[.int .u8 rr.1.Kind.toNat, .int .i64 rr.1.Num, .string rr.1.Name, .string rr.1.Field, .string rr.1.Op, v0_5] ∧ vs' = [zba bm0 u0_0 rr.2.At rr.2.Failed] ∧ RdT zr τ' v0_5 rr.1.Kids ∧ RdT zl τ' u0_0 rr.2.L) := by
 obtain ⟨Am0_0, cm0_0, rfl, -⟩ := rm0_0.form
 refine zbf (args := [.pointer (some ⟨bm0, 0, none⟩), .int .i64 p1]) hm Try.func79 s79 rfl fun w0 σ hO Q hQ => ?_
 unfold zep at hF
 have hL := Hp.le.refl τ
 show wpn _ _ a79.body _ _ _
 unfold a79
 dsimp only
 refine zbm hO fun b3 σ hO => ?_
 have hO := zrS2 hO
 refine zc (zg (za hO 1 [] [(8, zrN p1)] [0, 1, 4] zrA fun j => ?_))
 obtain ⟨c4, h5, hF⟩ := zrT hF
 refine zbh hO (zlE h5) rfl fun _ σ _ _ hO h6 h7 => ?_
 have hL := hL.trans h6
 obtain ⟨v8, o11, rfl, rfl, w12⟩ := h7
 obtain ⟨A9, c10, rfl, -⟩ := w12.form
 have hO := zrS3 hO
 refine zf hO [] [(11, .bool (decide (p1 ≥ (c4.length : Int))))] [0, 1, 4] zrA fun j => ?_
 refine zq hF rfl (fun hF => ?_) fun hF => ?_
 ·refine zg (za hO 1 [] [(12, zrO bm0)] [0, 4] zrz fun j => ?_)
  obtain ⟨c14, h15, hF⟩ := zrT hF
  have hO := hO.sel [1, 2, 0]
  refine zn (hs := [_, _]) (vs := [_]) hO (ih_ref12_parser_primary (rm0_0.le hL) h15) rfl fun _ σ _ _ hO h16 h17 => ?_
  have hL := hL.trans h16
  obtain ⟨v18, v22, rfl, rfl, r19, r25⟩ := h17
  obtain ⟨A20, c21, rfl, -⟩ := r19.form
  obtain ⟨A23, c24, rfl, -⟩ := r25.form
  have hO := zrS3 hO
  refine zk hO (i := 0) rfl (off := 0) rfl rfl rfl rfl (Nat.le_of_ble_eq_true rfl) rfl fun σ hO => ?_
  have hO := zrS3 hO
  refine zc (z1 ?_)
  cases hF
  have hV0 := hO.val (i := 0) rfl (off := 0) (agg := true) (n := 6) rfl
  have hO := hO.sel [2]
  exact hQ _ _ _ _ _ (z8 rfl (hV0) rfl) hO hL ⟨_, _, rfl, rfl, r19, r25⟩
 refine zz (za hO 3 [] [(14, zrO bm0), (16, zrN (IntKind.i64.wrap (p1 + 1)))] [0, 1, 4] zrB fun j => ?_)
 obtain ⟨c26, h27, hF⟩ := zrT hF
 have hO := hO.sel [1, 2, 0]
 refine zn (hs := [_, _]) (vs := [_]) hO (ih_ref12_parser_exp (rm0_0.le hL) h27) rfl fun _ σ _ _ hO h28 h29 => ?_
 have hL := hL.trans h28
 obtain ⟨v30, v34, rfl, rfl, r31, r37⟩ := h29
 obtain ⟨A32, c33, rfl, -⟩ := r31.form
 obtain ⟨A35, c36, rfl, -⟩ := r37.form
 have hO := zrS3 hO
 refine zbm hO fun b38 σ hO => ?_
 have hO := zrS4 hO
 refine zk hO (i := 3) rfl (off := 0) rfl rfl rfl rfl (Nat.le_of_ble_eq_true rfl) rfl fun σ hO => ?_
 have hO := zrS4 hO
 refine zc (zbV (zJ ?_))
 have hO := hO.sel [2, 0, 3]
 refine zby (fun (n : Nat) e' σ' => ∃ (A76 : Option Addr) (c77 : Nat) (x78 : List zp) (x80 : Int) (x81 : Bool) (x82 : UInt8) (x83 : Int) (x84 x85 x86 : ByteArray) (A87 : Option Addr) (c88 : Nat) (x89 : List zb) (τ' : Hp), agr [(0, zrO bm0), (1, zrN p1), (4, zrO b3), (5, zrO b38)] e' ∧ Obs τ' σ' [zba bm0 (zrU A76 x78 c77) x80 x81, zgj b3 0 0 (⟨#[]⟩ : ByteArray) (⟨#[]⟩ : ByteArray) (⟨#[]⟩ : ByteArray) (.slice none 0 0), zgj b38 (x82.toNat : Int) x83 x84 x85 x86 (zrU A87 x89 c88)] ∧ Hp.le τ τ' ∧ RdT zl τ' (zrU A76 x78 c77) x78 ∧ RdT zr τ' (zrU A87 x89 c88) x89 ∧ zeo (zbP gn).1 p1 n x78 x80 x81 x82 x83 x84 x85 x86 x89 = some rr) big ⟨A35, c36, c26.2.L, c26.2.At, c26.2.Failed, c26.1.Kind, c26.1.Num, c26.1.Name, c26.1.Field, c26.1.Op, A32, c33, c26.1.Kids, _, zrM zrz, hO, hL, r37, r31, hF⟩ ?_
 clear hF hO hL
 rintro n113 e σ ⟨A76, c77, x78, x80, x81, x82, x83, x84, x85, x86, A87, c88, x89, _, hA, hO, hL, r79, r90, hF⟩
 rw [← zW _ _ hA]
 cases n113 with
 | zero => exact nomatch (show none = some rr from hF)
 | succ n113 =>
 replace hF : zfi (zeo (zbP gn).1 p1 n113) (zbP gn).1 p1 x78 x80 x81 x82 x83 x84 x85 x86 x89 = some rr := hF
 unfold zfi at hF
 refine zbV (zJ (za hO 2 [] [(18, zrO bm0), (19, zrN p1)] [0, 1, 4, 5] zrC fun j => ?_))
 obtain ⟨c114, h115, hF⟩ := zrT hF
 have hO := hO.sel [1, 2, 0]
 refine zn (hs := [_, _]) (vs := [_]) hO (zop (q0 := (⟨x78, x80, x81⟩ : zj)) r79 h115) rfl fun _ σ _ _ hO h116 h117 => ?_
 have hL := hL.trans h116
 have r90 := r90.le h116
 have r79 := r79.le h116
 obtain ⟨rfl, rfl⟩ := h117
 have hO := zrS3 hO
 have hO := hO.sel [2, 0, 1]
 have hO := zrS3 hO
 refine zf hO [] [(6, .string c114)] [0, 1, 4, 5] zrB fun j => ?_
 refine zg (zf hO [] [(22, .bool (zbl c114 (⟨#[]⟩ : ByteArray)))] [0, 1, 4, 5, 6] zrC fun j => ?_)
 refine zq hF rfl (fun hF => ?_) fun hF => ?_
 ·refine zg (za hO 1 [2] [(23, .agg #[(.int .u8 (x82.toNat : Int)), (.int .i64 x83), (.string x84), (.string x85), (.string x86), (zrU A87 x89 c88)])] [0, 4] (And.intro (And.intro rfl rfl) zrz) fun j => ?_)
  refine zk hO (i := 1) rfl (off := 0) rfl rfl rfl rfl (Nat.le_of_ble_eq_true rfl) rfl fun σ hO => ?_
  have hO := zrS3 hO
  refine zc (z1 (zY (zE (zE (zY (zE ?_))))))
  cases hF
  have hV0 := hO.val (i := 1) rfl (off := 0) (agg := true) (n := 6) rfl
  have hO := hO.sel [0]
  exact hQ _ _ _ _ _ (z8 rfl (hV0) rfl) hO hL ⟨_, _, rfl, rfl, r90, r79⟩
 refine zz (za hO 7 [0] [(28, zrN (IntKind.i64.wrap (x80 + 1))), (30, .pointer (some ⟨bm0, 1, none⟩))] [0, 1, 4, 5, 6] (And.intro (And.intro rfl rfl) zrD) fun j => ?_)
 refine zk hO (i := 0) rfl (off := 1) rfl rfl rfl rfl (Nat.le_of_ble_eq_true rfl) rfl fun σ hO => ?_
 have hO := zrS3 hO
 refine zc (za hO 3 [] [(31, zrO bm0), (33, zrN (IntKind.i64.wrap (p1 + 1)))] [0, 1, 4, 5, 6] zrD fun j => ?_)
 obtain ⟨c119, h120, hF⟩ := zrT hF
 have hO := hO.sel [1, 2, 0]
 refine zn (hs := [_, _]) (vs := [_]) hO (ih_ref12_parser_exp (q0 := (⟨x78, (IntKind.i64.wrap (x80 + 1)), x81⟩ : zj)) r79 h120) rfl fun _ σ _ _ hO h121 h122 => ?_
 have hL := hL.trans h121
 have r90 := r90.le h121
 obtain ⟨v123, v127, rfl, rfl, r124, r130⟩ := h122
 obtain ⟨A125, c126, rfl, -⟩ := r124.form
 obtain ⟨A128, c129, rfl, -⟩ := r130.form
 have hO := zrS3 hO
 refine zbm hO fun b131 σ hO => ?_
 have hO := zrS4 hO
 refine zk hO (i := 3) rfl (off := 0) rfl rfl rfl rfl (Nat.le_of_ble_eq_true rfl) rfl fun σ hO => ?_
 have hO := zrS4 hO
 refine zc (zbv (za hO 3 [1, 3] [(35, .string c114), (36, .agg #[(.int .u8 (x82.toNat : Int)), (.int .i64 x83), (.string x84), (.string x85), (.string x86), (zrU A87 x89 c88)]), (37, .agg #[(.int .u8 (c119.1.Kind.toNat : Int)), (.int .i64 c119.1.Num), (.string c119.1.Name), (.string c119.1.Field), (.string c119.1.Op), (zrU A125 c119.1.Kids c126)])] [0, 1, 4, 5] (And.intro (And.intro rfl rfl) (And.intro (And.intro rfl rfl) zrD)) fun j => ?_))
 refine zB (T := zr) (l := ([(⟨x82, x83, x84, x85, x86, x89⟩ : zb), (⟨c119.1.Kind, c119.1.Num, c119.1.Name, c119.1.Field, c119.1.Op, c119.1.Kids⟩ : zb)] : List zb)) (cs := [.int .u8 (x82.toNat : Int), .int .i64 x83, .string x84, .string x85, .string x86, zrU A87 x89 c88, .int .u8 (c119.1.Kind.toNat : Int), .int .i64 c119.1.Num, .string c119.1.Name, .string c119.1.Field, .string c119.1.Op, zrU A125 c119.1.Kids c126]) hO rfl ⟨[.int .u8 (x82.toNat : Int), .int .i64 x83, .string x84, .string x85, .string x86, zrU A87 x89 c88], _, rfl, (zbI ⟨_, rfl, r90⟩), ⟨[.int .u8 (c119.1.Kind.toNat : Int), .int .i64 c119.1.Num, .string c119.1.Name, .string c119.1.Field, .string c119.1.Op, zrU A125 c119.1.Kids c126], _, rfl, (zbI ⟨_, rfl, r124⟩), rfl⟩⟩ rfl (by decide) fun _ σ o134 w135 hO => ?_
 obtain ⟨A132, c133, rfl, -⟩ := w135.form
 have hO := zrS5 hO
 refine za hO 1 [] [(39, .agg #[(.int .u8 7), (.int .i64 0), (.string (⟨#[]⟩ : ByteArray)), (.string (⟨#[]⟩ : ByteArray)), (.string c114), (zrU A132 ([(⟨x82, x83, x84, x85, x86, x89⟩ : zb), (⟨c119.1.Kind, c119.1.Num, c119.1.Name, c119.1.Field, c119.1.Op, c119.1.Kids⟩ : zb)] : List zb) c133)])] [0, 1, 4, 5] zrB fun j => ?_
 refine zk hO (i := 1) rfl (off := 0) rfl rfl rfl rfl (Nat.le_of_ble_eq_true rfl) rfl fun σ hO => ?_
 have hO := zrS5 hO
 refine zc (zi (zM (zm (zi (zm ?_)))))
 obtain ⟨_, h137, r136, hO⟩ := w135.share hO (i := 4) rfl
 have hL := hL.trans h137
 have r130 := r130.le h137
 have r124 := r124.le h137
 have hO := zrS5 hO
 have hO := hO.sel [2, 0, 1]
 exact ⟨n113, Nat.lt_succ_self _, A128, c129, c119.2.L, c119.2.At, c119.2.Failed, (7 : UInt8), 0, (⟨#[]⟩ : ByteArray), (⟨#[]⟩ : ByteArray), c114, A132, c133, ([(⟨x82, x83, x84, x85, x86, x89⟩ : zb), (⟨c119.1.Kind, c119.1.Num, c119.1.Name, c119.1.Field, c119.1.Op, c119.1.Kids⟩ : zb)] : List zb), _, zrM zrz, hO, hL, r130, r136, hF⟩
theorem zre {gn : Nat} (ih_ref12_parser_exp : zjX gn) (ih_ref12_parser_primary : zjh gn) {τ : Hp} {q0 : zj} {bm0 : Nat} {vm0_0 : Value} (rm0_0 : RdT zl τ vm0_0 q0.L) {rr : zb × zj} (hF : zgm ((zbP gn).1) ((zbP gn).2) q0 = some rr) :
  Ctr Try.prog 86 #[.pointer (some ⟨bm0, 0, none⟩)] τ [zba bm0 vm0_0 q0.At q0.Failed] (fun v τ' vs' => ∃ (v0_5 u0_0 : Value), v = .agg #[.int .u8 rr.1.Kind.toNat, .int .i64 rr.1.Num, .string rr.1.Name, .string rr.1.Field, .string rr.1.Op, v0_5] ∧ vs' = [zba bm0 u0_0 rr.2.At rr.2.Failed] ∧ RdT zr τ' v0_5 rr.1.Kids ∧ RdT zl τ' u0_0 rr.2.L) := by
 obtain ⟨Am0_0, cm0_0, rfl, -⟩ := rm0_0.form
 refine zbf (args := [.pointer (some ⟨bm0, 0, none⟩)]) hm Try.func86 s86 rfl fun w0 σ hO Q hQ => ?_
 unfold zgm at hF
 have hL := Hp.le.refl τ
 show wpn _ _ a86.body _ _ _
 unfold a86
 dsimp only
 refine zbm hO fun b2 σ hO => ?_
 have hO := zrS2 hO
 refine zc (zJ (zg (za hO 1 [] [(8, zrO bm0)] [0, 2] zrz fun j => ?_)))
 obtain ⟨c3, h4, hF⟩ := zrT hF
 have hO := hO.sel [1, 0]
 refine zn (hs := [_]) (vs := [_]) hO (zbK (p2 := (⟨#[45]⟩ : ByteArray)) (rm0_0.le hL) h4) rfl fun _ σ _ _ hO h5 h6 => ?_
 have hL := hL.trans h5
 obtain ⟨rfl, rfl⟩ := h6
 have hO := zrS2 hO
 have hO := hO.sel [1, 0]
 have hO := zrS2 hO
 refine zf hO [] [(7, .bool c3)] [0, 2] zrz fun j => ?_
 refine zgI (fun e' σ' => ∃ (x12 : Bool) (τ' : Hp), agr [(0, zrO bm0), (2, zrO b2), (7, .bool x12)] e' ∧ Obs τ' σ' [zba bm0 (zrU Am0_0 q0.L cm0_0) q0.At q0.Failed, zgj b2 0 0 (⟨#[]⟩ : ByteArray) (⟨#[]⟩ : ByteArray) (⟨#[]⟩ : ByteArray) (.slice none 0 0)] ∧ Hp.le τ τ' ∧ zgl (zbP gn).1 (zbP gn).2 q0 x12 = some rr) ?_ ?_
 ·refine zbF (zq hF rfl (fun hF => ?_) fun hF => ?_)
  ·refine zz (zi (zm ?_))
   exact ⟨c3, _, zrM zry, hO, hL, hF⟩
  refine za hO 1 [] [(10, zrO bm0)] [0, 2] zrz fun j => ?_
  obtain ⟨c143, h144, hF⟩ := zrT hF
  have hO := hO.sel [1, 0]
  refine zn (hs := [_]) (vs := [_]) hO (zbK (p2 := (⟨#[33]⟩ : ByteArray)) (rm0_0.le hL) h144) rfl fun _ σ _ _ hO h145 h146 => ?_
  have hL := hL.trans h145
  obtain ⟨rfl, rfl⟩ := h146
  have hO := zrS2 hO
  have hO := hO.sel [1, 0]
  have hO := zrS2 hO
  refine zf hO [] [(7, .bool c143)] [0, 2] zrz fun j => ?_
  refine zi (zm ?_)
  exact ⟨c143, _, zrM zry, hO, hL, hF⟩
 rintro e σ ⟨x12, _, hA, hO, hL, hF⟩
 rw [← zW _ _ hA]
 unfold zgl at hF
 refine zbF (zq hF rfl (fun hF => ?_) fun hF => ?_)
 ·refine zg (za hO 1 [] [(12, zrO bm0)] [0, 2] zrz fun j => ?_)
  obtain ⟨c14, h15, hF⟩ := zrT hF
  have hO := hO.sel [1, 0]
  refine zn (hs := [_]) (vs := [_]) hO (zfJ (p2 := (⟨#[]⟩ : ByteArray)) (rm0_0.le hL) h15) rfl fun _ σ _ _ hO h16 h17 => ?_
  have hL := hL.trans h16
  obtain ⟨v18, rfl, rfl, r21⟩ := h17
  obtain ⟨A19, c20, rfl, -⟩ := r21.form
  have hO := zrS2 hO
  refine zf hO [] [(3, .string c14.1.Text)] [0, 2] zrz fun j => ?_
  refine zg (za hO 2 [] [(15, .string c14.1.Text), (16, zrO bm0)] [0, 2] zrA fun j => ?_)
  obtain ⟨c22, h23, hF⟩ := zrT hF
  refine zn (hs := [_]) (vs := [_]) hO (ih_ref12_parser_primary r21 h23) rfl fun _ σ _ _ hO h24 h25 => ?_
  have hL := hL.trans h24
  obtain ⟨v26, v30, rfl, rfl, r27, r33⟩ := h25
  obtain ⟨A28, c29, rfl, -⟩ := r27.form
  obtain ⟨A31, c32, rfl, -⟩ := r33.form
  have hO := zrS2 hO
  refine zB (T := zr) (l := ([(⟨c22.1.Kind, c22.1.Num, c22.1.Name, c22.1.Field, c22.1.Op, c22.1.Kids⟩ : zb)] : List zb)) (cs := [.int .u8 (c22.1.Kind.toNat : Int), .int .i64 c22.1.Num, .string c22.1.Name, .string c22.1.Field, .string c22.1.Op, zrU A28 c22.1.Kids c29]) hO rfl ⟨[.int .u8 (c22.1.Kind.toNat : Int), .int .i64 c22.1.Num, .string c22.1.Name, .string c22.1.Field, .string c22.1.Op, zrU A28 c22.1.Kids c29], _, rfl, (zbI ⟨_, rfl, r27⟩), rfl⟩ rfl (by decide) fun _ σ o36 w37 hO => ?_
  obtain ⟨A34, c35, rfl, -⟩ := w37.form
  have hO := zrS3 hO
  refine za hO 1 [] [(19, .agg #[(.int .u8 6), (.int .i64 0), (.string (⟨#[]⟩ : ByteArray)), (.string (⟨#[]⟩ : ByteArray)), (.string c14.1.Text), (zrU A34 ([(⟨c22.1.Kind, c22.1.Num, c22.1.Name, c22.1.Field, c22.1.Op, c22.1.Kids⟩ : zb)] : List zb) c35)])] [0, 2] zrz fun j => ?_
  refine zk hO (i := 0) rfl (off := 0) rfl rfl rfl rfl (Nat.le_of_ble_eq_true rfl) rfl fun σ hO => ?_
  have hO := zrS3 hO
  refine zc (z1 (zY (zE ?_)))
  obtain ⟨_, h39, r38, hO⟩ := w37.share hO (i := 2) rfl
  have hL := hL.trans h39
  have r33 := r33.le h39
  have hO := zrS3 hO
  cases hF
  have hV0 := hO.val (i := 0) rfl (off := 0) (agg := true) (n := 6) rfl
  have hO := hO.sel [1]
  exact hQ _ _ _ _ _ (z8 rfl (hV0) rfl) hO hL ⟨_, _, rfl, rfl, r38, r33⟩
 refine zg (za hO 1 [] [(21, zrO bm0)] [0, 2] zrz fun j => ?_)
 obtain ⟨c40, h41, hF⟩ := zrT hF
 have hO := hO.sel [1, 0]
 refine zn (hs := [_]) (vs := [_]) hO (zbK (p2 := (⟨#[40]⟩ : ByteArray)) (rm0_0.le hL) h41) rfl fun _ σ _ _ hO h42 h43 => ?_
 have hL := hL.trans h42
 obtain ⟨rfl, rfl⟩ := h43
 have hO := zrS2 hO
 have hO := hO.sel [1, 0]
 have hO := zrS2 hO
 refine zf hO [] [(20, .bool c40)] [0, 2] zrz fun j => ?_
 refine zq hF rfl (fun hF => ?_) fun hF => ?_
 ·refine zg (za hO 7 [0] [(27, zrN (IntKind.i64.wrap (q0.At + 1))), (29, .pointer (some ⟨bm0, 1, none⟩))] [0, 2] (And.intro (And.intro rfl rfl) zrA) fun j => ?_)
  refine zk hO (i := 0) rfl (off := 1) rfl rfl rfl rfl (Nat.le_of_ble_eq_true rfl) rfl fun σ hO => ?_
  have hO := zrS2 hO
  refine zc (zg (za hO 1 [] [(30, zrO bm0)] [0, 2] zrz fun j => ?_))
  obtain ⟨c45, h46, hF⟩ := zrT hF
  have hO := hO.sel [1, 0]
  refine zn (hs := [_]) (vs := [_]) hO (ih_ref12_parser_exp (q0 := (⟨q0.L, (IntKind.i64.wrap (q0.At + 1)), q0.Failed⟩ : zj)) (rm0_0.le hL) h46) rfl fun _ σ _ _ hO h47 h48 => ?_
  have hL := hL.trans h47
  obtain ⟨v49, v53, rfl, rfl, r50, r56⟩ := h48
  obtain ⟨A51, c52, rfl, -⟩ := r50.form
  obtain ⟨A54, c55, rfl, -⟩ := r56.form
  have hO := zrS2 hO
  refine zbm hO fun b57 σ hO => ?_
  have hO := zrS3 hO
  refine zk hO (i := 2) rfl (off := 0) rfl rfl rfl rfl (Nat.le_of_ble_eq_true rfl) rfl fun σ hO => ?_
  have hO := zrS3 hO
  refine zc (zg (za hO 1 [] [(32, zrO bm0)] [0, 2, 4] zrA fun j => ?_))
  obtain ⟨c58, h59, hF⟩ := zrT hF
  have hO := hO.sel [0, 2, 1]
  refine zn (hs := [_, _]) (vs := [_]) hO (zbT (p1 := (⟨#[41]⟩ : ByteArray)) r56 h59) rfl fun _ σ _ _ hO h60 h61 => ?_
  have hL := hL.trans h60
  have r50 := r50.le h60
  obtain ⟨v62, rfl, rfl, r65⟩ := h61
  obtain ⟨A63, c64, rfl, -⟩ := r65.form
  have hO := zrS3 hO
  refine zc (zg (za hO 1 [1] [(34, .agg #[(.int .u8 (c45.1.Kind.toNat : Int)), (.int .i64 c45.1.Num), (.string c45.1.Name), (.string c45.1.Field), (.string c45.1.Op), (zrU A51 c45.1.Kids c52)])] [0, 2] (And.intro (And.intro rfl rfl) zrz) fun j => ?_))
  refine zk hO (i := 0) rfl (off := 0) rfl rfl rfl rfl (Nat.le_of_ble_eq_true rfl) rfl fun σ hO => ?_
  have hO := zrS3 hO
  refine zc (z1 (zY (zE ?_)))
  cases hF
  have hV0 := hO.val (i := 0) rfl (off := 0) (agg := true) (n := 6) rfl
  have hO := hO.sel [2]
  exact hQ _ _ _ _ _ (z8 rfl (hV0) rfl) hO hL ⟨_, _, rfl, rfl, r50, r65⟩
 refine zg (za hO 1 [] [(36, zrO bm0)] [0, 2] zrz fun j => ?_)
 obtain ⟨c66, h67, hF⟩ := zrT hF
 have hO := hO.sel [1, 0]
 refine zn (hs := [_]) (vs := [_]) hO (zbK (p2 := (⟨#[]⟩ : ByteArray)) (rm0_0.le hL) h67) rfl fun _ σ _ _ hO h68 h69 => ?_
 have hL := hL.trans h68
 obtain ⟨rfl, rfl⟩ := h69
 have hO := zrS2 hO
 have hO := hO.sel [1, 0]
 have hO := zrS2 hO
 refine zf hO [] [(35, .bool c66)] [0, 2] zrz fun j => ?_
 refine zq hF rfl (fun hF => ?_) fun hF => ?_
 ·refine zg (za hO 1 [] [(38, zrO bm0)] [0, 2] zrz fun j => ?_)
  obtain ⟨c71, h72, hF⟩ := zrT hF
  have hO := hO.sel [1, 0]
  refine zn (hs := [_]) (vs := [_]) hO (zfJ (p2 := (⟨#[]⟩ : ByteArray)) (rm0_0.le hL) h72) rfl fun _ σ _ _ hO h73 h74 => ?_
  have hL := hL.trans h73
  obtain ⟨v75, rfl, rfl, r78⟩ := h74
  obtain ⟨A76, c77, rfl, -⟩ := r78.form
  have hO := zrS2 hO
  refine za hO 2 [] [(41, .agg #[(.int .u8 1), (.int .i64 c71.1.Num), (.string (⟨#[]⟩ : ByteArray)), (.string (⟨#[]⟩ : ByteArray)), (.string (⟨#[]⟩ : ByteArray)), (.slice none 0 0)])] [0, 2] zrz fun j => ?_
  refine zk hO (i := 0) rfl (off := 0) rfl rfl rfl rfl (Nat.le_of_ble_eq_true rfl) rfl fun σ hO => ?_
  have hO := zrS2 hO
  refine zc (z1 (zY (zE ?_)))
  cases hF
  have hV0 := hO.val (i := 0) rfl (off := 0) (agg := true) (n := 6) rfl
  have hO := hO.sel [1]
  exact hQ _ _ _ _ _ (z8 rfl (hV0) rfl) hO hL ⟨_, _, rfl, rfl, (RdT.nil _ _), r78⟩
 refine zg (za hO 1 [] [(43, zrO bm0)] [0, 2] zrz fun j => ?_)
 obtain ⟨c79, h80, hF⟩ := zrT hF
 have hO := hO.sel [1, 0]
 refine zn (hs := [_]) (vs := [_]) hO (zbK (p2 := (⟨#[116, 114, 117, 101]⟩ : ByteArray)) (rm0_0.le hL) h80) rfl fun _ σ _ _ hO h81 h82 => ?_
 have hL := hL.trans h81
 obtain ⟨rfl, rfl⟩ := h82
 have hO := zrS2 hO
 have hO := hO.sel [1, 0]
 have hO := zrS2 hO
 refine zf hO [] [(42, .bool c79)] [0, 2] zrz fun j => ?_
 refine zq hF rfl (fun hF => ?_) fun hF => ?_
 ·refine zg (za hO 7 [0] [(49, zrN (IntKind.i64.wrap (q0.At + 1))), (51, .pointer (some ⟨bm0, 1, none⟩))] [0, 2] (And.intro (And.intro rfl rfl) zrA) fun j => ?_)
  refine zk hO (i := 0) rfl (off := 1) rfl rfl rfl rfl (Nat.le_of_ble_eq_true rfl) rfl fun σ hO => ?_
  have hO := zrS2 hO
  refine zc (zg (za hO 1 [] [(52, .agg #[(.int .u8 2), (.int .i64 1), (.string (⟨#[]⟩ : ByteArray)), (.string (⟨#[]⟩ : ByteArray)), (.string (⟨#[]⟩ : ByteArray)), (.slice none 0 0)])] [0, 2] zrz fun j => ?_))
  refine zk hO (i := 1) rfl (off := 0) rfl rfl rfl rfl (Nat.le_of_ble_eq_true rfl) rfl fun σ hO => ?_
  have hO := zrS2 hO
  refine zc (z1 (zY (zE ?_)))
  cases hF
  have hV0 := hO.val (i := 1) rfl (off := 0) (agg := true) (n := 6) rfl
  have hO := hO.sel [0]
  exact hQ _ _ _ _ _ (z8 rfl (hV0) rfl) hO hL ⟨_, _, rfl, rfl, (RdT.nil _ _), (rm0_0.le hL)⟩
 refine zg (za hO 1 [] [(54, zrO bm0)] [0, 2] zrz fun j => ?_)
 obtain ⟨c84, h85, hF⟩ := zrT hF
 have hO := hO.sel [1, 0]
 refine zn (hs := [_]) (vs := [_]) hO (zbK (p2 := (⟨#[102, 97, 108, 115, 101]⟩ : ByteArray)) (rm0_0.le hL) h85) rfl fun _ σ _ _ hO h86 h87 => ?_
 have hL := hL.trans h86
 obtain ⟨rfl, rfl⟩ := h87
 have hO := zrS2 hO
 have hO := hO.sel [1, 0]
 have hO := zrS2 hO
 refine zf hO [] [(53, .bool c84)] [0, 2] zrz fun j => ?_
 refine zq hF rfl (fun hF => ?_) fun hF => ?_
 ·refine zg (zbn hO 7 [0] [(0, zrO bm0), (2, zrO b2), (60, zrN (IntKind.i64.wrap (q0.At + 1))), (62, .pointer (some ⟨bm0, 1, none⟩))] (And.intro (And.intro rfl rfl) zrA) fun j => ?_)
  refine zk hO (i := 0) rfl (off := 1) rfl rfl rfl rfl (Nat.le_of_ble_eq_true rfl) rfl fun σ hO => ?_
  have hO := zrS2 hO
  refine zc (zg (za hO 1 [] [(63, .agg #[(.int .u8 2), (.int .i64 0), (.string (⟨#[]⟩ : ByteArray)), (.string (⟨#[]⟩ : ByteArray)), (.string (⟨#[]⟩ : ByteArray)), (.slice none 0 0)])] [0, 2] zrz fun j => ?_))
  refine zk hO (i := 1) rfl (off := 0) rfl rfl rfl rfl (Nat.le_of_ble_eq_true rfl) rfl fun σ hO => ?_
  have hO := zrS2 hO
  refine zc (z1 (zY (zE ?_)))
  cases hF
  have hV0 := hO.val (i := 1) rfl (off := 0) (agg := true) (n := 6) rfl
  have hO := hO.sel [0]
  exact hQ _ _ _ _ _ (z8 rfl (hV0) rfl) hO hL ⟨_, _, rfl, rfl, (RdT.nil _ _), (rm0_0.le hL)⟩
 refine zz (zi (zM (zm (zbn hO 1 [] [(0, zrO bm0), (2, zrO b2), (64, zrO bm0)] zrz fun j => ?_))))
 obtain ⟨c89, h90, hF⟩ := zrT hF
 have hO := hO.sel [1, 0]
 refine zn (hs := [_]) (vs := [_]) hO (zdu (rm0_0.le hL) h90) rfl fun _ σ _ _ hO h91 h92 => ?_
 have hL := hL.trans h91
 obtain ⟨v93, rfl, rfl, r96⟩ := h92
 obtain ⟨A94, c95, rfl, -⟩ := r96.form
 have hO := zrS2 hO
 refine zf hO [] [(5, .string c89.1)] [0, 2] zrz fun j => ?_
 refine zJ (za hO 1 [] [(67, zrO bm0)] [0, 2, 5] zrA fun j => ?_)
 obtain ⟨c97, h98, hF⟩ := zrT hF
 refine zn (hs := [_]) (vs := [_]) hO (zbK (p2 := (⟨#[91]⟩ : ByteArray)) r96 h98) rfl fun _ σ _ _ hO h99 h100 => ?_
 have hL := hL.trans h99
 have r96 := r96.le h99
 obtain ⟨rfl, rfl⟩ := h100
 have hO := zrS2 hO
 refine zf hO [] [(66, .bool c97)] [0, 2, 5] zrA fun j => ?_
 refine zbF (zq hF rfl (fun hF => ?_) fun hF => ?_)
 ·refine zg (za hO 7 [1] [(73, zrN (IntKind.i64.wrap (c89.2.At + 1))), (75, .pointer (some ⟨bm0, 1, none⟩))] [0, 2, 5] (And.intro (And.intro rfl rfl) zrB) fun j => ?_)
  refine zk hO (i := 1) rfl (off := 1) rfl rfl rfl rfl (Nat.le_of_ble_eq_true rfl) rfl fun σ hO => ?_
  have hO := zrS2 hO
  refine zc (zg (za hO 1 [] [(76, zrO bm0)] [0, 2, 5] zrA fun j => ?_))
  obtain ⟨c102, h103, hF⟩ := zrT hF
  refine zn (hs := [_]) (vs := [_]) hO (ih_ref12_parser_exp (q0 := (⟨c89.2.L, (IntKind.i64.wrap (c89.2.At + 1)), c89.2.Failed⟩ : zj)) r96 h103) rfl fun _ σ _ _ hO h104 h105 => ?_
  have hL := hL.trans h104
  obtain ⟨v106, v110, rfl, rfl, r107, r113⟩ := h105
  obtain ⟨A108, c109, rfl, -⟩ := r107.form
  obtain ⟨A111, c112, rfl, -⟩ := r113.form
  have hO := zrS2 hO
  refine zbm hO fun b114 σ hO => ?_
  have hO := zrS3 hO
  refine zk hO (i := 2) rfl (off := 0) rfl rfl rfl rfl (Nat.le_of_ble_eq_true rfl) rfl fun σ hO => ?_
  have hO := zrS3 hO
  refine zc (zg (za hO 1 [] [(78, zrO bm0)] [0, 2, 5, 6] zrB fun j => ?_))
  obtain ⟨c115, h116, hF⟩ := zrT hF
  have hO := hO.sel [0, 2, 1]
  refine zn (hs := [_, _]) (vs := [_]) hO (zbT (p1 := (⟨#[93]⟩ : ByteArray)) r113 h116) rfl fun _ σ _ _ hO h117 h118 => ?_
  have hL := hL.trans h117
  have r107 := r107.le h117
  obtain ⟨v119, rfl, rfl, r122⟩ := h118
  obtain ⟨A120, c121, rfl, -⟩ := r122.form
  have hO := zrS3 hO
  refine zc (zg (za hO 2 [1] [(80, .string c89.1), (81, .agg #[(.int .u8 (c102.1.Kind.toNat : Int)), (.int .i64 c102.1.Num), (.string c102.1.Name), (.string c102.1.Field), (.string c102.1.Op), (zrU A108 c102.1.Kids c109)])] [0, 2] (And.intro (And.intro rfl rfl) zrA) fun j => ?_))
  refine zB (T := zr) (l := ([(⟨c102.1.Kind, c102.1.Num, c102.1.Name, c102.1.Field, c102.1.Op, c102.1.Kids⟩ : zb)] : List zb)) (cs := [.int .u8 (c102.1.Kind.toNat : Int), .int .i64 c102.1.Num, .string c102.1.Name, .string c102.1.Field, .string c102.1.Op, zrU A108 c102.1.Kids c109]) hO rfl ⟨[.int .u8 (c102.1.Kind.toNat : Int), .int .i64 c102.1.Num, .string c102.1.Name, .string c102.1.Field, .string c102.1.Op, zrU A108 c102.1.Kids c109], _, rfl, (zbI ⟨_, rfl, r107⟩), rfl⟩ rfl (by decide) fun _ σ o125 w126 hO => ?_
  obtain ⟨A123, c124, rfl, -⟩ := w126.form
  have hO := zrS4 hO
  refine za hO 1 [] [(83, .agg #[(.int .u8 4), (.int .i64 0), (.string c89.1), (.string (⟨#[]⟩ : ByteArray)), (.string (⟨#[]⟩ : ByteArray)), (zrU A123 ([(⟨c102.1.Kind, c102.1.Num, c102.1.Name, c102.1.Field, c102.1.Op, c102.1.Kids⟩ : zb)] : List zb) c124)])] [0, 2] zrz fun j => ?_
  refine zk hO (i := 0) rfl (off := 0) rfl rfl rfl rfl (Nat.le_of_ble_eq_true rfl) rfl fun σ hO => ?_
  have hO := zrS4 hO
  refine zc (z1 (zY (zE ?_)))
  obtain ⟨_, h128, r127, hO⟩ := w126.share hO (i := 3) rfl
  have hL := hL.trans h128
  have r107 := r107.le h128
  have r122 := r122.le h128
  have hO := zrS4 hO
  cases hF
  have hV0 := hO.val (i := 0) rfl (off := 0) (agg := true) (n := 6) rfl
  have hO := hO.sel [2]
  exact hQ _ _ _ _ _ (z8 rfl (hV0) rfl) hO hL ⟨_, _, rfl, rfl, r127, r122⟩
 refine zg (za hO 1 [] [(85, zrO bm0)] [0, 2, 5] zrA fun j => ?_)
 obtain ⟨c129, h130, hF⟩ := zrT hF
 refine zn (hs := [_]) (vs := [_]) hO (zbK (p2 := (⟨#[46]⟩ : ByteArray)) r96 h130) rfl fun _ σ _ _ hO h131 h132 => ?_
 have hL := hL.trans h131
 have r96 := r96.le h131
 obtain ⟨rfl, rfl⟩ := h132
 have hO := zrS2 hO
 refine zf hO [] [(84, .bool c129)] [0, 2, 5] zrA fun j => ?_
 refine zq hF rfl (fun hF => ?_) fun hF => ?_
 ·refine zg (za hO 7 [1] [(91, zrN (IntKind.i64.wrap (c89.2.At + 1))), (93, .pointer (some ⟨bm0, 1, none⟩))] [0, 2, 5] (And.intro (And.intro rfl rfl) zrB) fun j => ?_)
  refine zk hO (i := 1) rfl (off := 1) rfl rfl rfl rfl (Nat.le_of_ble_eq_true rfl) rfl fun σ hO => ?_
  have hO := zrS2 hO
  refine zc (zg (za hO 2 [] [(94, .string c89.1), (95, zrO bm0)] [0, 2] zrA fun j => ?_))
  obtain ⟨c134, h135, hF⟩ := zrT hF
  refine zn (hs := [_]) (vs := [_]) hO (zdu (q0 := (⟨c89.2.L, (IntKind.i64.wrap (c89.2.At + 1)), c89.2.Failed⟩ : zj)) r96 h135) rfl fun _ σ _ _ hO h136 h137 => ?_
  have hL := hL.trans h136
  obtain ⟨v138, rfl, rfl, r141⟩ := h137
  obtain ⟨A139, c140, rfl, -⟩ := r141.form
  have hO := zrS2 hO
  refine za hO 1 [] [(97, .agg #[(.int .u8 5), (.int .i64 0), (.string c89.1), (.string c134.1), (.string (⟨#[]⟩ : ByteArray)), (.slice none 0 0)])] [0, 2] zrz fun j => ?_
  refine zk hO (i := 0) rfl (off := 0) rfl rfl rfl rfl (Nat.le_of_ble_eq_true rfl) rfl fun σ hO => ?_
  have hO := zrS2 hO
  refine zc (z1 (zY (zE ?_)))
  cases hF
  have hV0 := hO.val (i := 0) rfl (off := 0) (agg := true) (n := 6) rfl
  have hO := hO.sel [1]
  exact hQ _ _ _ _ _ (z8 rfl (hV0) rfl) hO hL ⟨_, _, rfl, rfl, (RdT.nil _ _), r141⟩
 refine zz (zi (zM (zm (za hO 2 [] [(99, .agg #[(.int .u8 3), (.int .i64 0), (.string c89.1), (.string (⟨#[]⟩ : ByteArray)), (.string (⟨#[]⟩ : ByteArray)), (.slice none 0 0)])] [0, 2] zrz fun j => ?_))))
 refine zk hO (i := 0) rfl (off := 0) rfl rfl rfl rfl (Nat.le_of_ble_eq_true rfl) rfl fun σ hO => ?_
 have hO := zrS2 hO
 refine zc (z3 ?_)
 cases hF
 have hV0 := hO.val (i := 0) rfl (off := 0) (agg := true) (n := 6) rfl
 have hO := hO.sel [1]
 exact hQ _ _ _ _ _ (z8 rfl (hV0) rfl) hO hL ⟨_, _, rfl, rfl, (RdT.nil _ _), r96⟩
theorem zpj (n : Nat) : zjX n ∧ zjh n := by
 induction n with
 | zero =>
  refine ⟨?_, ?_⟩
  ·intro τ q0 bm0 vm0_0 p1 rm0_0 rr hF; exact nomatch (show none = some rr from hF)
  ·intro τ q0 bm0 vm0_0 rm0_0 rr hF; exact nomatch (show none = some rr from hF)
 | succ n ih =>
  obtain ⟨i0, i1⟩ := ih
  refine ⟨?_, ?_⟩
  ·intro τ q0 bm0 vm0_0 p1 rm0_0 rr hF; exact zpR i0 i1 rm0_0 hF
  ·intro τ q0 bm0 vm0_0 rm0_0 rr hF; exact zre i0 i1 rm0_0 hF
theorem zdA : ∀ {τ : Hp} {q0 : zj} {bm0 : Nat} {vm0_0 : Value} {p1 : Int} (rm0_0 : RdT zl τ vm0_0 q0.L) {rr : zb × zj} (hF : zcj q0 p1 = some rr), Ctr Try.prog 79 #[.pointer (some ⟨bm0, 0, none⟩), .int .i64 p1] τ [zba bm0 vm0_0 q0.At q0.Failed] (fun v τ' vs' => ∃ (v0_5 u0_0 : Value), v = .agg #[.int .u8 rr.1.Kind.toNat, .int .i64 rr.1.Num, .string rr.1.Name, .string rr.1.Field, .string rr.1.Op, v0_5] ∧ vs' = [zba bm0 u0_0 rr.2.At rr.2.Failed] ∧ RdT zr τ' v0_5 rr.1.Kids ∧ RdT zl τ' u0_0 rr.2.L) := (zpj big).1
theorem zmS {τ : Hp} {q0 : zj} {bm0 : Nat} {vm0_0 : Value} (rm0_0 : RdT zl τ vm0_0 q0.L) {rr : (List zb) × zj} (hF : ze0 q0 = some rr) :
  Ctr Try.prog 88 #[.pointer (some ⟨bm0, 0, none⟩)] τ [zba bm0 vm0_0 q0.At q0.Failed] (fun v τ' vs' => ∃ (v0 : Value) (o0 : Ob) (u0_0 : Value), v = v0 ∧ vs' = [o0, zba bm0 u0_0 rr.2.At rr.2.Failed] ∧ ze zr 55 τ' v0 rr.1 o0 ∧ RdT zl τ' u0_0 rr.2.L) := by
 obtain ⟨Am0_0, cm0_0, rfl, -⟩ := rm0_0.form
 refine zbf (args := [.pointer (some ⟨bm0, 0, none⟩)]) hm Try.func88 s88 rfl fun w0 σ hO Q hQ => ?_
 unfold ze0 at hF
 have hL := Hp.le.refl τ
 show wpn _ _ a88.body _ _ _
 unfold a88
 dsimp only
 refine zf hO [] [] [0] zrx fun j => ?_
 refine za hO 1 [] [(4, zrO bm0)] [0] zry fun j => ?_
 obtain ⟨c2, h3, hF⟩ := zrT hF
 refine zn (hs := []) (vs := [_]) hO (zbT (p1 := (⟨#[40]⟩ : ByteArray)) (rm0_0.le hL) h3) rfl fun _ σ _ _ hO h4 h5 => ?_
 have hL := hL.trans h4
 obtain ⟨v6, rfl, rfl, r9⟩ := h5
 obtain ⟨A7, c8, rfl, -⟩ := r9.form
 have hO := zrS1 hO
 refine zc (zg (za hO 1 [] [(6, zrO bm0)] [0] zry fun j => ?_))
 obtain ⟨c10, h11, hF⟩ := zrT hF
 refine zn (hs := []) (vs := [_]) hO (zbK (p2 := (⟨#[41]⟩ : ByteArray)) r9 h11) rfl fun _ σ _ _ hO h12 h13 => ?_
 have hL := hL.trans h12
 have r9 := r9.le h12
 obtain ⟨rfl, rfl⟩ := h13
 have hO := zrS1 hO
 refine zc (zq hF rfl (fun hF => ?_) fun hF => ?_)
 ·refine zg (za hO 7 [0] [(12, zrN (IntKind.i64.wrap (c2.At + 1))), (14, .pointer (some ⟨bm0, 1, none⟩))] [0] (And.intro (And.intro rfl rfl) zrz) fun j => ?_)
  refine zk hO (i := 0) rfl (off := 1) rfl rfl rfl rfl (Nat.le_of_ble_eq_true rfl) rfl fun σ hO => ?_
  have hO := zrS1 hO
  refine zc (zg (zf hO [] [(2, .slice none 0 0)] [0] zry fun j => ?_))
  refine z1 ?_
  have hO := hO.no
  have hO := zrS2 hO
  cases hF
  have hO := hO.sel [1, 0]
  exact hQ _ _ _ _ _ rfl hO hL ⟨_, _, _, rfl, rfl, (ze.nil _ _ _), r9⟩
 refine zz (za hO 1 [] [(15, zrO bm0)] [0] zry fun j => ?_)
 obtain ⟨c15, h16, hF⟩ := zrT hF
 refine zn (hs := []) (vs := [_]) hO (zdA r9 h16) rfl fun _ σ _ _ hO h17 h18 => ?_
 have hL := hL.trans h17
 obtain ⟨v19, v23, rfl, rfl, r20, r26⟩ := h18
 obtain ⟨A21, c22, rfl, -⟩ := r20.form
 obtain ⟨A24, c25, rfl, -⟩ := r26.form
 have hO := zrS1 hO
 refine zB (T := zr) (l := ([(⟨c15.1.Kind, c15.1.Num, c15.1.Name, c15.1.Field, c15.1.Op, c15.1.Kids⟩ : zb)] : List zb)) (cs := [.int .u8 (c15.1.Kind.toNat : Int), .int .i64 c15.1.Num, .string c15.1.Name, .string c15.1.Field, .string c15.1.Op, zrU A21 c15.1.Kids c22]) hO rfl ⟨[.int .u8 (c15.1.Kind.toNat : Int), .int .i64 c15.1.Num, .string c15.1.Name, .string c15.1.Field, .string c15.1.Op, zrU A21 c15.1.Kids c22], _, rfl, (zbI ⟨_, rfl, r20⟩), rfl⟩ rfl (by decide) fun _ σ o29 w30 hO => ?_
 obtain ⟨A27, c28, rfl, -⟩ := w30.form
 have hO := zrS2 hO
 refine zf hO [] [(3, zrU A27 ([(⟨c15.1.Kind, c15.1.Num, c15.1.Name, c15.1.Field, c15.1.Op, c15.1.Kids⟩ : zb)] : List zb) c28)] [0] zry fun j => ?_
 refine zJ (zby (fun (n : Nat) e' σ' => ∃ (A67 : Option Addr) (c68 : Nat) (x69 : List zp) (x71 : Int) (x72 : Bool) (A73 : Option Addr) (c74 : Nat) (o75 : Ob) (x76 : List zb) (τ' : Hp), agr [(0, zrO bm0), (3, zrU A73 x76 c74)] e' ∧ Obs τ' σ' [zba bm0 (zrU A67 x69 c68) x71 x72, o75] ∧ Hp.le τ τ' ∧ RdT zl τ' (zrU A67 x69 c68) x69 ∧ ze zr 55 τ' (zrU A73 x76 c74) x76 o75 ∧ zfF  n x69 x71 x72 x76 = some rr) big ⟨A24, c25, c15.2.L, c15.2.At, c15.2.Failed, A27, c28, o29, ([(⟨c15.1.Kind, c15.1.Num, c15.1.Name, c15.1.Field, c15.1.Op, c15.1.Kids⟩ : zb)] : List zb), _, zrM zrx, hO, hL, r26, w30, hF⟩ ?_)
 clear hF hO hL
 rintro n108 e σ ⟨A67, c68, x69, x71, x72, A73, c74, o75, x76, _, hA, hO, hL, r70, w77, hF⟩
 rw [← zW _ _ hA]
 cases n108 with
 | zero => exact nomatch (show none = some rr from hF)
 | succ n108 =>
 replace hF : zgK (zfF  n108) x69 x71 x72 x76 = some rr := hF
 unfold zgK at hF
 refine zg (za hO 1 [] [(18, zrO bm0)] [0, 3] zrz fun j => ?_)
 obtain ⟨c109, h110, hF⟩ := zrT hF
 have hO := hO.sel [1, 0]
 refine zn (hs := [_]) (vs := [_]) hO (zbK (q0 := (⟨x69, x71, x72⟩ : zj)) (p2 := (⟨#[44]⟩ : ByteArray)) r70 h110) rfl fun _ σ _ _ hO h111 h112 => ?_
 have hL := hL.trans h111
 have w77 := w77.le h111
 have r70 := r70.le h111
 obtain ⟨rfl, rfl⟩ := h112
 have hO := zrS2 hO
 have hO := hO.sel [1, 0]
 have hO := zrS2 hO
 refine zc (zq hF rfl (fun hF => ?_) fun hF => ?_)
 ·refine zz (zbV (zJ (za hO 7 [0] [(24, zrN (IntKind.i64.wrap (x71 + 1))), (26, .pointer (some ⟨bm0, 1, none⟩))] [0, 3] (And.intro (And.intro rfl rfl) zrA) fun j => ?_)))
  refine zk hO (i := 0) rfl (off := 1) rfl rfl rfl rfl (Nat.le_of_ble_eq_true rfl) rfl fun σ hO => ?_
  have hO := zrS2 hO
  refine zc (zbv (za hO 2 [] [(27, zrU A73 x76 c74), (28, zrO bm0)] [0] zrz fun j => ?_))
  obtain ⟨c114, h115, hF⟩ := zrT hF
  have hO := hO.sel [1, 0]
  refine zn (hs := [_]) (vs := [_]) hO (zdA (q0 := (⟨x69, (IntKind.i64.wrap (x71 + 1)), x72⟩ : zj)) r70 h115) rfl fun _ σ _ _ hO h116 h117 => ?_
  have hL := hL.trans h116
  have w77 := w77.le h116
  obtain ⟨v118, v122, rfl, rfl, r119, r125⟩ := h117
  obtain ⟨A120, c121, rfl, -⟩ := r119.form
  obtain ⟨A123, c124, rfl, -⟩ := r125.form
  have hO := zrS2 hO
  obtain ⟨_, hr130, hF⟩ := zrT hF
  refine zhN (T := zr) (y := (⟨c114.1.Kind, c114.1.Num, c114.1.Name, c114.1.Field, c114.1.Op, c114.1.Kids⟩ : zb)) hO w77 (i := 0) rfl rfl (fun _ => rfl) rfl (zbI ⟨_, rfl, r119⟩) rfl hr130 (by decide) fun u _ σ o128 w129 hO => ?_
  obtain ⟨A126, c127, rfl, -⟩ := w129.form
  have hO := zrS2 hO
  refine zf hO [] [(3, zrU A126 (x76 ++ [(⟨c114.1.Kind, c114.1.Num, c114.1.Name, c114.1.Field, c114.1.Op, c114.1.Kids⟩ : zb)]) c127)] [0] zry fun j => ?_
  refine zi (zM (zm (zi (zm ?_))))
  have hO := hO.sel [1, 0]
  exact ⟨n108, Nat.lt_succ_self _, A123, c124, c114.2.L, c114.2.At, c114.2.Failed, A126, c127, o128, (x76 ++ [(⟨c114.1.Kind, c114.1.Num, c114.1.Name, c114.1.Field, c114.1.Op, c114.1.Kids⟩ : zb)]), _, zrM zrx, hO, hL, r125, w129, hF⟩
 refine zbA (zbB (zbz (zm (za hO 1 [] [(32, zrO bm0)] [0, 3] zrz fun j => ?_))))
 obtain ⟨c131, h132, hF⟩ := zrT hF
 have hO := hO.sel [1, 0]
 refine zn (hs := [_]) (vs := [_]) hO (zbT (q0 := (⟨x69, x71, x72⟩ : zj)) (p1 := (⟨#[41]⟩ : ByteArray)) r70 h132) rfl fun _ σ _ _ hO h133 h134 => ?_
 have hL := hL.trans h133
 have w77 := w77.le h133
 obtain ⟨v135, rfl, rfl, r138⟩ := h134
 obtain ⟨A136, c137, rfl, -⟩ := r138.form
 have hO := zrS2 hO
 refine zc (zf hO [] [(2, zrU A73 x76 c74)] [0] zry fun j => ?_)
 refine z3 ?_
 cases hF
 exact hQ _ _ _ _ _ rfl hO hL ⟨_, _, _, rfl, rfl, w77, r138⟩
theorem znF {τ : Hp} {q0 : zj} {bm0 : Nat} {vm0_0 : Value} {p1 : zh} {v1_8 v1_9 v1_10 : Value} (rm0_0 : RdT zl τ vm0_0 q0.L) (r1_8 : RdT zr τ v1_8 p1.Kids) (r1_9 : RdT zv τ v1_9 p1.Body) (r1_10 : RdT zv τ v1_10 p1.Else) {rr : zh × zj} (hF : zeD q0 p1 = some rr) :
  Ctr Try.prog 89 #[.pointer (some ⟨bm0, 0, none⟩), .agg #[.int .u8 p1.Kind.toNat, .int .i64 p1.Line, .string p1.Name, .string p1.Field, .string p1.Call, .int .u8 p1.Type_.Kind.toNat, .int .i64 p1.Type_.N, .string p1.Type_.Name, v1_8, v1_9, v1_10]] τ [zba bm0 vm0_0 q0.At q0.Failed] (fun v τ' vs' => ∃ (v0_8 v0_9 v0_10 u0_0 : Value), v = .agg #[.int .u8 rr.1.Kind.toNat, .int .i64 rr.1.Line, .string rr.1.Name, .string rr.1.Field, .string rr.1.Call, .int .u8 rr.1.Type_.Kind.toNat, .int .i64 rr.1.Type_.N, .string rr.1.Type_.Name, v0_8, v0_9, v0_10] ∧ vs' = [zba bm0 u0_0 rr.2.At rr.2.Failed] ∧ RdT zr τ' v0_8 rr.1.Kids ∧ RdT zv τ' v0_9 rr.1.Body ∧ RdT zv τ' v0_10 rr.1.Else ∧ RdT zl τ' u0_0 rr.2.L) := by
 obtain ⟨Am0_0, cm0_0, rfl, -⟩ := rm0_0.form
 obtain ⟨A1_8, c1_8, rfl, -⟩ := r1_8.form
 obtain ⟨A1_9, c1_9, rfl, -⟩ := r1_9.form
 obtain ⟨A1_10, c1_10, rfl, -⟩ := r1_10.form
 refine zbf (args := [.pointer (some ⟨bm0, 0, none⟩), .agg #[.int .u8 p1.Kind.toNat, .int .i64 p1.Line, .string p1.Name, .string p1.Field, .string p1.Call, .int .u8 p1.Type_.Kind.toNat, .int .i64 p1.Type_.N, .string p1.Type_.Name, (.slice A1_8 p1.Kids.length c1_8), (.slice A1_9 p1.Body.length c1_9), (.slice A1_10 p1.Else.length c1_10)]]) hm Try.func89 s89 rfl fun w0 σ hO Q hQ => ?_
 unfold zeD at hF
 have hL := Hp.le.refl τ
 show wpn _ _ a89.body _ _ _
 unfold a89
 dsimp only
 refine zc8 (n := 11) hO rfl rfl fun b3 σ hO => ?_
 have hO := zrS2 hO
 refine zbm hO fun b4 σ hO => ?_
 have hO := zrS3 hO
 refine zc (zg (za hO 1 [] [(5, zrO bm0)] [0, 3, 4] zrA fun j => ?_))
 obtain ⟨c5, h6, hF⟩ := zrT hF
 have hO := hO.sel [1, 2, 0]
 refine zn (hs := [_, _]) (vs := [_]) hO (zbK (p2 := (⟨#[105, 110, 112, 117, 116]⟩ : ByteArray)) (rm0_0.le hL) h6) rfl fun _ σ _ _ hO h7 h8 => ?_
 have hL := hL.trans h7
 obtain ⟨rfl, rfl⟩ := h8
 have hO := zrS3 hO
 have hO := hO.sel [2, 0, 1]
 have hO := zrS3 hO
 refine zc (zq hF rfl (fun hF => ?_) fun hF => ?_)
 ·refine zg (za hO 7 [0] [(11, zrN (IntKind.i64.wrap (q0.At + 1))), (13, .pointer (some ⟨bm0, 1, none⟩))] [0, 3, 4] (And.intro (And.intro rfl rfl) zrB) fun j => ?_)
  refine zk hO (i := 0) rfl (off := 1) rfl rfl rfl rfl (Nat.le_of_ble_eq_true rfl) rfl fun σ hO => ?_
  have hO := zrS3 hO
  refine zc (zg (za hO 1 [] [(14, zrO bm0)] [0, 3, 4] zrA fun j => ?_))
  obtain ⟨c10, h11, hF⟩ := zrT hF
  have hO := hO.sel [1, 2, 0]
  refine zn (hs := [_, _]) (vs := [_]) hO (zbT (q0 := (⟨q0.L, (IntKind.i64.wrap (q0.At + 1)), q0.Failed⟩ : zj)) (p1 := (⟨#[40]⟩ : ByteArray)) (rm0_0.le hL) h11) rfl fun _ σ _ _ hO h12 h13 => ?_
  have hL := hL.trans h12
  obtain ⟨v14, rfl, rfl, r17⟩ := h13
  obtain ⟨A15, c16, rfl, -⟩ := r17.form
  have hO := zrS3 hO
  refine zc (zg (za hO 1 [] [(16, zrO bm0)] [0, 3, 4] zrA fun j => ?_))
  obtain ⟨c18, h19, hF⟩ := zrT hF
  refine zn (hs := [_, _]) (vs := [_]) hO (zbT (p1 := (⟨#[41]⟩ : ByteArray)) r17 h19) rfl fun _ σ _ _ hO h20 h21 => ?_
  have hL := hL.trans h20
  obtain ⟨v22, rfl, rfl, r25⟩ := h21
  obtain ⟨A23, c24, rfl, -⟩ := r25.form
  have hO := zrS3 hO
  refine zc (zg (za hO 1 [] [(18, zrO b3)] [0, 3, 4] zrA fun j => ?_))
  refine zk hO (i := 0) rfl (off := 0) rfl rfl rfl rfl (Nat.le_of_ble_eq_true rfl) rfl fun σ hO => ?_
  have hO := zrS3 hO
  refine zc (zg (za hO 1 [0] [(19, .agg #[(.int .u8 9), (.int .i64 p1.Line), (.string p1.Name), (.string p1.Field), (.string p1.Call), (.int .u8 (p1.Type_.Kind.toNat : Int)), (.int .i64 p1.Type_.N), (.string p1.Type_.Name), (zrU A1_8 p1.Kids c1_8), (zrU A1_9 p1.Body c1_9), (zrU A1_10 p1.Else c1_10)])] [0, 4] (And.intro (And.intro rfl rfl) zrz) fun j => ?_))
  refine zk hO (i := 1) rfl (off := 0) rfl rfl rfl rfl (Nat.le_of_ble_eq_true rfl) rfl fun σ hO => ?_
  have hO := zrS3 hO
  refine zc (z1 ?_)
  cases hF
  have hV0 := hO.val (i := 1) rfl (off := 0) (agg := true) (n := 11) rfl
  have hO := hO.sel [2]
  exact hQ _ _ _ _ _ (z8 rfl (hV0) rfl) hO hL ⟨_, _, _, _, rfl, rfl, (r1_8.le hL), (r1_9.le hL), (r1_10.le hL), r25⟩
 refine zz (zg (zbS (za hO 1 [] [(20, zrO bm0)] [0, 3, 4] zrA fun j => ?_)))
 obtain ⟨c26, h27, hF⟩ := zrT hF
 have hO := hO.sel [1, 2, 0]
 refine zn (hs := [_, _]) (vs := [_]) hO (zbK (p2 := (⟨#[]⟩ : ByteArray)) (rm0_0.le hL) h27) rfl fun _ σ _ _ hO h28 h29 => ?_
 have hL := hL.trans h28
 obtain ⟨rfl, rfl⟩ := h29
 have hO := zrS3 hO
 have hO := hO.sel [2, 0, 1]
 have hO := zrS3 hO
 refine za hO 4 [0, 0] [(35, .bool (c26 && (decide ((IntKind.i64.wrap (q0.At + 1)) < (q0.L.length : Int)))))] [0, 3, 4] (And.intro (And.intro rfl rfl) (And.intro (And.intro rfl rfl) (And.intro (And.intro rfl rfl) (fun _ => zrM zrz)))) fun j => ?_
 obtain ⟨c30, h31, hF⟩ := zrT hF
 refine zcw 2 [(49, .bool c30), (0, zrO bm0), (3, zrO b3), (4, zrO b4)] (fun Q hQ => ?_) fun j => ?_
 ·have hF := h31
  rcases zbr hF with ⟨hb32, hF⟩ | ⟨hb32, hF⟩
  ·refine zbi (zrR hb32) ?_
   refine za hO 9 [0, 0] [(39, zrU Am0_0 q0.L cm0_0), (44, zrN (IntKind.i64.wrap (q0.At + 1)))] [0, 3, 4, 35] (And.intro (And.intro rfl rfl) (And.intro (And.intro rfl rfl) zrC)) fun j => ?_
   obtain ⟨y33, g34, hF⟩ := zrT hF
   refine zV (T := zl) (rm0_0.le hL) hO.base rfl rfl g34 (by decide) fun a35 _ k36 m37 => ?_
   obtain rfl : _ = ([.int .u8 y33.Kind.toNat, .string y33.Text, .int .i64 y33.Num, .int .i64 y33.Line] : List Value) := k36
   refine za hO 1 [] [(46, .pointer (some a35))] [0, 3, 4, 35] zrB fun j => ?_
   refine zN rfl (m37.le hO.base).fst ?_
   refine za hO 1 [] [(48, .bool ((y33.Kind.toNat : Int) == 4))] [0, 3, 4, 35] zrB fun j => ?_
   refine zF (zrP hb32) ?_
   refine zc ?_
   cases hF
   refine zi ?_
   exact hQ _ zrA
  refine zbk (zrR hb32) ?_
  refine zF (zrP hb32) ?_
  refine zc ?_
  cases hF
  refine zi ?_
  exact hQ _ zrA
 refine za hO 1 [] [(50, .bool c30)] [0, 3, 4] zrA fun j => ?_
 obtain ⟨c38, h39, hF⟩ := zrT hF
 refine zcw 2 [(64, .bool c38), (0, zrO bm0), (3, zrO b3), (4, zrO b4)] (fun Q hQ => ?_) fun j => ?_
 ·have hF := h39
  rcases zbr hF with ⟨hb40, hF⟩ | ⟨hb40, hF⟩
  ·refine zbi (zrR hb40) ?_
   refine za hO 9 [0, 0] [(54, zrU Am0_0 q0.L cm0_0), (59, zrN (IntKind.i64.wrap (q0.At + 1)))] [0, 3, 4, 50] (And.intro (And.intro rfl rfl) (And.intro (And.intro rfl rfl) zrC)) fun j => ?_
   obtain ⟨y41, g42, hF⟩ := zrT hF
   refine zV (T := zl) (rm0_0.le hL) hO.base rfl rfl g42 (by decide) fun a43 _ k44 m45 => ?_
   obtain rfl : _ = ([.int .u8 y41.Kind.toNat, .string y41.Text, .int .i64 y41.Num, .int .i64 y41.Line] : List Value) := k44
   refine za hO 1 [] [(61, .pointer (some (a43.add 1)))] [0, 3, 4, 50] zrB fun j => ?_
   refine zN rfl ((m45.le hO.base).one 1 rfl) ?_
   refine za hO 1 [] [(63, .bool (zbl y41.Text (⟨#[40]⟩ : ByteArray)))] [0, 3, 4, 50] zrB fun j => ?_
   refine zF (zrP hb40) ?_
   refine zc ?_
   cases hF
   refine zi ?_
   exact hQ _ zrA
  refine zbk (zrR hb40) ?_
  refine zF (zrP hb40) ?_
  refine zc ?_
  cases hF
  refine zi ?_
  exact hQ _ zrA
 refine zc (zq hF rfl (fun hF => ?_) fun hF => ?_)
 ·refine zg (za hO 1 [] [(65, zrO b3)] [0, 3, 4] zrA fun j => ?_)
  refine zk hO (i := 1) rfl (off := 0) rfl rfl rfl rfl (Nat.le_of_ble_eq_true rfl) rfl fun σ hO => ?_
  have hO := zrS3 hO
  refine zc (zg (za hO 1 [] [(66, zrO bm0)] [0, 3, 4] zrA fun j => ?_))
  obtain ⟨c47, h48, hF⟩ := zrT hF
  have hO := hO.sel [1, 2, 0]
  refine zn (hs := [_, _]) (vs := [_]) hO (zdu (rm0_0.le hL) h48) rfl fun _ σ _ _ hO h49 h50 => ?_
  have hL := hL.trans h49
  obtain ⟨v51, rfl, rfl, r54⟩ := h50
  obtain ⟨A52, c53, rfl, -⟩ := r54.form
  have hO := zrS3 hO
  refine za hO 1 [] [(68, .pointer (some ⟨b3, 4, none⟩))] [0, 3, 4, 67] zrB fun j => ?_
  refine zk hO (i := 0) rfl (off := 4) rfl rfl rfl rfl (Nat.le_of_ble_eq_true rfl) rfl fun σ hO => ?_
  have hO := zrS3 hO
  refine zc (zg (za hO 1 [] [(69, zrO bm0)] [0, 3, 4] zrA fun j => ?_))
  obtain ⟨c55, h56, hF⟩ := zrT hF
  refine zn (hs := [_, _]) (vs := [_]) hO (zmS r54 h56) rfl fun _ σ _ _ hO h57 h58 => ?_
  have hL := hL.trans h57
  obtain ⟨v59, o62, v64, rfl, rfl, w63, r67⟩ := h58
  obtain ⟨A60, c61, rfl, -⟩ := w63.form
  obtain ⟨A65, c66, rfl, -⟩ := r67.form
  have hO := zrS4 hO
  refine zbn hO 1 [] [(0, zrO bm0), (3, zrO b3), (4, zrO b4), (70, zrU A60 c55.1 c61), (71, .pointer (some ⟨b3, 8, none⟩))] zrB fun j => ?_
  refine zk hO (i := 0) rfl (off := 8) rfl rfl rfl rfl (Nat.le_of_ble_eq_true rfl) rfl fun σ hO => ?_
  have hO := zrS4 hO
  refine zc (zg (za hO 1 [0] [(72, .agg #[(.int .u8 5), (.int .i64 p1.Line), (.string p1.Name), (.string p1.Field), (.string c47.1), (.int .u8 (p1.Type_.Kind.toNat : Int)), (.int .i64 p1.Type_.N), (.string p1.Type_.Name), (zrU A60 c55.1 c61), (zrU A1_9 p1.Body c1_9), (zrU A1_10 p1.Else c1_10)])] [0, 4] (And.intro (And.intro rfl rfl) zrz) fun j => ?_))
  refine zk hO (i := 1) rfl (off := 0) rfl rfl rfl rfl (Nat.le_of_ble_eq_true rfl) rfl fun σ hO => ?_
  have hO := zrS4 hO
  refine zc (z1 ?_)
  obtain ⟨_, h69, r68, hO⟩ := w63.share hO (i := 2) rfl
  have hL := hL.trans h69
  have r67 := r67.le h69
  have hO := zrS4 hO
  cases hF
  have hV0 := hO.val (i := 1) rfl (off := 0) (agg := true) (n := 11) rfl
  have hO := hO.sel [3]
  exact hQ _ _ _ _ _ (z8 rfl (hV0) rfl) hO hL ⟨_, _, _, _, rfl, rfl, r68, (r1_9.le hL), (r1_10.le hL), r67⟩
 refine zz (za hO 1 [] [(73, zrO b3)] [0, 3, 4] zrA fun j => ?_)
 refine zk hO (i := 1) rfl (off := 0) rfl rfl rfl rfl (Nat.le_of_ble_eq_true rfl) rfl fun σ hO => ?_
 have hO := zrS3 hO
 refine zc (za hO 1 [] [(74, zrO bm0)] [0, 3, 4] zrA fun j => ?_)
 obtain ⟨c70, h71, hF⟩ := zrT hF
 have hO := hO.sel [1, 2, 0]
 refine zn (hs := [_, _]) (vs := [_]) hO (zdA (rm0_0.le hL) h71) rfl fun _ σ _ _ hO h72 h73 => ?_
 have hL := hL.trans h72
 obtain ⟨v74, v78, rfl, rfl, r75, r81⟩ := h73
 obtain ⟨A76, c77, rfl, -⟩ := r75.form
 obtain ⟨A79, c80, rfl, -⟩ := r81.form
 have hO := zrS3 hO
 refine zB (T := zr) (l := ([(⟨c70.1.Kind, c70.1.Num, c70.1.Name, c70.1.Field, c70.1.Op, c70.1.Kids⟩ : zb)] : List zb)) (cs := [.int .u8 (c70.1.Kind.toNat : Int), .int .i64 c70.1.Num, .string c70.1.Name, .string c70.1.Field, .string c70.1.Op, zrU A76 c70.1.Kids c77]) hO rfl ⟨[.int .u8 (c70.1.Kind.toNat : Int), .int .i64 c70.1.Num, .string c70.1.Name, .string c70.1.Field, .string c70.1.Op, zrU A76 c70.1.Kids c77], _, rfl, (zbI ⟨_, rfl, r75⟩), rfl⟩ rfl (by decide) fun _ σ o84 w85 hO => ?_
 obtain ⟨A82, c83, rfl, -⟩ := w85.form
 have hO := zrS4 hO
 refine za hO 1 [] [(77, .pointer (some ⟨b3, 8, none⟩))] [0, 3, 4, 76] zrB fun j => ?_
 refine zk hO (i := 0) rfl (off := 8) rfl rfl rfl rfl (Nat.le_of_ble_eq_true rfl) rfl fun σ hO => ?_
 have hO := zrS4 hO
 refine zc (za hO 1 [0] [(78, .agg #[(.int .u8 2), (.int .i64 p1.Line), (.string p1.Name), (.string p1.Field), (.string p1.Call), (.int .u8 (p1.Type_.Kind.toNat : Int)), (.int .i64 p1.Type_.N), (.string p1.Type_.Name), (zrU A82 ([(⟨c70.1.Kind, c70.1.Num, c70.1.Name, c70.1.Field, c70.1.Op, c70.1.Kids⟩ : zb)] : List zb) c83), (zrU A1_9 p1.Body c1_9), (zrU A1_10 p1.Else c1_10)])] [0, 4] (And.intro (And.intro rfl rfl) zrz) fun j => ?_)
 refine zk hO (i := 1) rfl (off := 0) rfl rfl rfl rfl (Nat.le_of_ble_eq_true rfl) rfl fun σ hO => ?_
 have hO := zrS4 hO
 refine zc (z3 ?_)
 obtain ⟨_, h87, r86, hO⟩ := w85.share hO (i := 3) rfl
 have hL := hL.trans h87
 have r81 := r81.le h87
 have hO := zrS4 hO
 cases hF
 have hV0 := hO.val (i := 1) rfl (off := 0) (agg := true) (n := 11) rfl
 have hO := hO.sel [2]
 exact hQ _ _ _ _ _ (z8 rfl (hV0) rfl) hO hL ⟨_, _, _, _, rfl, rfl, r86, (r1_9.le hL), (r1_10.le hL), r81⟩
theorem znI {τ : Hp} {q0 : zj} {bm0 : Nat} {vm0_0 : Value} {p1 : zh} {v1_8 v1_9 v1_10 : Value} (rm0_0 : RdT zl τ vm0_0 q0.L) (r1_8 : RdT zr τ v1_8 p1.Kids) (r1_9 : RdT zv τ v1_9 p1.Body) (r1_10 : RdT zv τ v1_10 p1.Else) {rr : zh × zj} (hF : zh8 q0 p1 = some rr) :
  Ctr Try.prog 80 #[.pointer (some ⟨bm0, 0, none⟩), .agg #[.int .u8 p1.Kind.toNat, .int .i64 p1.Line, .string p1.Name, .string p1.Field, .string p1.Call, .int .u8 p1.Type_.Kind.toNat, .int .i64 p1.Type_.N, .string p1.Type_.Name, v1_8, v1_9, v1_10]] τ [zba bm0 vm0_0 q0.At q0.Failed] (fun v τ' vs' => ∃ (v0_8 v0_9 v0_10 u0_0 : Value), v = .agg #[.int .u8 rr.1.Kind.toNat, .int .i64 rr.1.Line, .string rr.1.Name, .string rr.1.Field, .string rr.1.Call, .int .u8 rr.1.Type_.Kind.toNat, .int .i64 rr.1.Type_.N, .string rr.1.Type_.Name, v0_8, v0_9, v0_10] ∧ vs' = [zba bm0 u0_0 rr.2.At rr.2.Failed] ∧ RdT zr τ' v0_8 rr.1.Kids ∧ RdT zv τ' v0_9 rr.1.Body ∧ RdT zv τ' v0_10 rr.1.Else ∧ RdT zl τ' u0_0 rr.2.L) := by
 obtain ⟨Am0_0, cm0_0, rfl, -⟩ := rm0_0.form
 obtain ⟨A1_8, c1_8, rfl, -⟩ := r1_8.form
 obtain ⟨A1_9, c1_9, rfl, -⟩ := r1_9.form
 obtain ⟨A1_10, c1_10, rfl, -⟩ := r1_10.form
 refine zbf (args := [.pointer (some ⟨bm0, 0, none⟩), .agg #[.int .u8 p1.Kind.toNat, .int .i64 p1.Line, .string p1.Name, .string p1.Field, .string p1.Call, .int .u8 p1.Type_.Kind.toNat, .int .i64 p1.Type_.N, .string p1.Type_.Name, (.slice A1_8 p1.Kids.length c1_8), (.slice A1_9 p1.Body.length c1_9), (.slice A1_10 p1.Else.length c1_10)]]) hm Try.func80 s80 rfl fun w0 σ hO Q hQ => ?_
 unfold zh8 at hF
 have hL := Hp.le.refl τ
 show wpn _ _ a80.body _ _ _
 unfold a80
 dsimp only
 refine zc8 (n := 11) hO rfl rfl fun b3 σ hO => ?_
 have hO := zrS2 hO
 refine zbm hO fun b4 σ hO => ?_
 have hO := zrS3 hO
 refine zc (za hO 1 [] [(6, zrO bm0)] [0, 3, 4] zrA fun j => ?_)
 obtain ⟨c5, h6, hF⟩ := zrT hF
 have hO := hO.sel [1, 2, 0]
 refine zn (hs := [_, _]) (vs := [_]) hO (zdu (rm0_0.le hL) h6) rfl fun _ σ _ _ hO h7 h8 => ?_
 have hL := hL.trans h7
 obtain ⟨v9, rfl, rfl, r12⟩ := h8
 obtain ⟨A10, c11, rfl, -⟩ := r12.form
 have hO := zrS3 hO
 refine za hO 1 [] [(8, .pointer (some ⟨b3, 2, none⟩))] [0, 3, 4, 7] zrB fun j => ?_
 refine zk hO (i := 0) rfl (off := 2) rfl rfl rfl rfl (Nat.le_of_ble_eq_true rfl) rfl fun σ hO => ?_
 have hO := zrS3 hO
 refine zc (zi0 (fun e' σ' => ∃ (A166 : Option Addr) (c167 : Nat) (x168 : List zp) (x170 : Int) (x171 : Bool) (x172 : UInt8) (x173 : Int) (x174 x175 x176 : ByteArray) (x177 : UInt8) (x178 : Int) (x179 : ByteArray) (A180 : Option Addr) (c181 : Nat) (x182 : List zb) (A184 : Option Addr) (c185 : Nat) (x186 : List zh) (A188 : Option Addr) (c189 : Nat) (x190 : List zh) (τ' : Hp), agr [(0, zrO bm0), (3, zrO b3), (4, zrO b4)] e' ∧ Obs τ' σ' [zba bm0 (zrU A166 x168 c167) x170 x171, zbQ b3 (x172.toNat : Int) x173 x174 x175 x176 (x177.toNat : Int) x178 x179 (zrU A180 x182 c181) (zrU A184 x186 c185) (zrU A188 x190 c189), zbQ b4 0 0 (⟨#[]⟩ : ByteArray) (⟨#[]⟩ : ByteArray) (⟨#[]⟩ : ByteArray) 0 0 (⟨#[]⟩ : ByteArray) (.slice none 0 0) (.slice none 0 0) (.slice none 0 0)] ∧ Hp.le τ τ' ∧ RdT zl τ' (zrU A166 x168 c167) x168 ∧ RdT zr τ' (zrU A180 x182 c181) x182 ∧ RdT zv τ' (zrU A184 x186 c185) x186 ∧ RdT zv τ' (zrU A188 x190 c189) x190 ∧ zeJ x168 x170 x171 x172 x173 x174 x175 x176 x177 x178 x179 x182 x186 x190 = some rr) ?_ ?_)
 ·refine za hO 1 [] [(15, zrO bm0)] [0, 3, 4] zrA fun j => ?_
  obtain ⟨c200, h201, hF⟩ := zrT hF
  refine zn (hs := [_, _]) (vs := [_]) hO (zbK (p2 := (⟨#[40]⟩ : ByteArray)) r12 h201) rfl fun _ σ _ _ hO h202 h203 => ?_
  have hL := hL.trans h202
  have r12 := r12.le h202
  obtain ⟨rfl, rfl⟩ := h203
  have hO := zrS3 hO
  refine zf hO [] [(14, .bool c200)] [0, 3, 4] zrA fun j => ?_
  refine zbF (zq hF rfl (fun hF => ?_) fun hF => ?_)
  ·refine zg (za hO 1 [] [(17, zrO b3)] [0, 3, 4] zrA fun j => ?_)
   refine zk hO (i := 0) rfl (off := 0) rfl rfl rfl rfl (Nat.le_of_ble_eq_true rfl) rfl fun σ hO => ?_
   have hO := zrS3 hO
   refine zc (zg (za hO 3 [0] [(19, .string c5.1), (20, .pointer (some ⟨b3, 4, none⟩))] [0, 3, 4] (And.intro (And.intro rfl rfl) zrB) fun j => ?_))
   refine zk hO (i := 0) rfl (off := 4) rfl rfl rfl rfl (Nat.le_of_ble_eq_true rfl) rfl fun σ hO => ?_
   have hO := zrS3 hO
   refine zc (zg (za hO 1 [] [(21, .pointer (some ⟨b3, 2, none⟩))] [0, 3, 4] zrA fun j => ?_))
   refine zk hO (i := 0) rfl (off := 2) rfl rfl rfl rfl (Nat.le_of_ble_eq_true rfl) rfl fun σ hO => ?_
   have hO := zrS3 hO
   refine zc (za hO 1 [] [(22, zrO bm0)] [0, 3, 4] zrA fun j => ?_)
   obtain ⟨c205, h206, hF⟩ := zrT hF
   refine zn (hs := [_, _]) (vs := [_]) hO (zmS r12 h206) rfl fun _ σ _ _ hO h207 h208 => ?_
   have hL := hL.trans h207
   obtain ⟨v209, o212, v214, rfl, rfl, w213, r217⟩ := h208
   obtain ⟨A210, c211, rfl, -⟩ := w213.form
   obtain ⟨A215, c216, rfl, -⟩ := r217.form
   have hO := zrS4 hO
   refine zbn hO 1 [] [(0, zrO bm0), (3, zrO b3), (4, zrO b4), (23, zrU A210 c205.1 c211), (24, .pointer (some ⟨b3, 8, none⟩))] zrB fun j => ?_
   refine zk hO (i := 0) rfl (off := 8) rfl rfl rfl rfl (Nat.le_of_ble_eq_true rfl) rfl fun σ hO => ?_
   have hO := zrS4 hO
   refine zc (zi (zM (zm ?_)))
   obtain ⟨_, h219, r218, hO⟩ := w213.share hO (i := 2) rfl
   have hL := hL.trans h219
   have r217 := r217.le h219
   have hO := zrS4 hO
   have hO := hO.sel [3, 0, 1]
   exact ⟨A215, c216, c205.2.L, c205.2.At, c205.2.Failed, (5 : UInt8), p1.Line, (⟨#[]⟩ : ByteArray), p1.Field, c5.1, p1.Type_.Kind, p1.Type_.N, p1.Type_.Name, A210, c211, c205.1, A1_9, c1_9, p1.Body, A1_10, c1_10, p1.Else, _, zrM zry, hO, hL, r217, r218, (r1_9.le hL), (r1_10.le hL), hF⟩
  refine zg (za hO 1 [] [(26, zrO bm0)] [0, 3, 4] zrA fun j => ?_)
  obtain ⟨c220, h221, hF⟩ := zrT hF
  refine zn (hs := [_, _]) (vs := [_]) hO (zbK (p2 := (⟨#[91]⟩ : ByteArray)) r12 h221) rfl fun _ σ _ _ hO h222 h223 => ?_
  have hL := hL.trans h222
  have r12 := r12.le h222
  obtain ⟨rfl, rfl⟩ := h223
  have hO := zrS3 hO
  refine zf hO [] [(25, .bool c220)] [0, 3, 4] zrA fun j => ?_
  refine zq hF rfl (fun hF => ?_) fun hF => ?_
  ·refine zg (za hO 7 [2] [(32, zrN (IntKind.i64.wrap (c5.2.At + 1))), (34, .pointer (some ⟨bm0, 1, none⟩))] [0, 3, 4] (And.intro (And.intro rfl rfl) zrB) fun j => ?_)
   refine zk hO (i := 2) rfl (off := 1) rfl rfl rfl rfl (Nat.le_of_ble_eq_true rfl) rfl fun σ hO => ?_
   have hO := zrS3 hO
   refine zc (zg (za hO 1 [] [(35, zrO bm0)] [0, 3, 4] zrA fun j => ?_))
   obtain ⟨c225, h226, hF⟩ := zrT hF
   refine zn (hs := [_, _]) (vs := [_]) hO (zdA (q0 := (⟨c5.2.L, (IntKind.i64.wrap (c5.2.At + 1)), c5.2.Failed⟩ : zj)) r12 h226) rfl fun _ σ _ _ hO h227 h228 => ?_
   have hL := hL.trans h227
   obtain ⟨v229, v233, rfl, rfl, r230, r236⟩ := h228
   obtain ⟨A231, c232, rfl, -⟩ := r230.form
   obtain ⟨A234, c235, rfl, -⟩ := r236.form
   have hO := zrS3 hO
   refine zbm hO fun b237 σ hO => ?_
   have hO := zrS4 hO
   refine zk hO (i := 3) rfl (off := 0) rfl rfl rfl rfl (Nat.le_of_ble_eq_true rfl) rfl fun σ hO => ?_
   have hO := zrS4 hO
   refine zc (zg (zbn hO 1 [] [(0, zrO bm0), (3, zrO b3), (4, zrO b4), (5, zrO b237), (37, zrO bm0)] zrB fun j => ?_))
   obtain ⟨c238, h239, hF⟩ := zrT hF
   have hO := hO.sel [0, 1, 3, 2]
   refine zn (hs := [_, _, _]) (vs := [_]) hO (zbT (p1 := (⟨#[93]⟩ : ByteArray)) r236 h239) rfl fun _ σ _ _ hO h240 h241 => ?_
   have hL := hL.trans h240
   have r230 := r230.le h240
   obtain ⟨v242, rfl, rfl, r245⟩ := h241
   obtain ⟨A243, c244, rfl, -⟩ := r245.form
   have hO := zrS4 hO
   refine zc (zg (za hO 1 [] [(39, zrO bm0)] [0, 3, 4, 5] zrB fun j => ?_))
   obtain ⟨c246, h247, hF⟩ := zrT hF
   refine zn (hs := [_, _, _]) (vs := [_]) hO (zbT (p1 := (⟨#[61]⟩ : ByteArray)) r245 h247) rfl fun _ σ _ _ hO h248 h249 => ?_
   have hL := hL.trans h248
   have r230 := r230.le h248
   obtain ⟨v250, rfl, rfl, r253⟩ := h249
   obtain ⟨A251, c252, rfl, -⟩ := r253.form
   have hO := zrS4 hO
   refine zc (zg (za hO 1 [] [(41, zrO b3)] [0, 3, 4, 5] zrB fun j => ?_))
   refine zk hO (i := 0) rfl (off := 0) rfl rfl rfl rfl (Nat.le_of_ble_eq_true rfl) rfl fun σ hO => ?_
   have hO := zrS4 hO
   refine zc (zbS (za hO 2 [2] [(42, .agg #[(.int .u8 (c225.1.Kind.toNat : Int)), (.int .i64 c225.1.Num), (.string c225.1.Name), (.string c225.1.Field), (.string c225.1.Op), (zrU A231 c225.1.Kids c232)]), (43, zrO bm0)] [0, 3, 4, 5] (And.intro (And.intro rfl rfl) zrC) fun j => ?_))
   refine zcc ?_
   obtain ⟨c254, h255, hF⟩ := zrT hF
   refine zn (hs := [_, _, _]) (vs := [_]) hO (zdA r253 h255) rfl fun _ σ _ _ hO h256 h257 => ?_
   have hL := hL.trans h256
   have r230 := r230.le h256
   obtain ⟨v258, v262, rfl, rfl, r259, r265⟩ := h257
   obtain ⟨A260, c261, rfl, -⟩ := r259.form
   obtain ⟨A263, c264, rfl, -⟩ := r265.form
   have hO := zrS4 hO
   refine zc (zb9 ⟨(zb4 rfl (hO.val (i := 2) (off := 0) (agg := true) (n := 6) rfl rfl) rfl), trivial⟩ ?_)
   refine zB (T := zr) (l := ([(⟨c225.1.Kind, c225.1.Num, c225.1.Name, c225.1.Field, c225.1.Op, c225.1.Kids⟩ : zb), (⟨c254.1.Kind, c254.1.Num, c254.1.Name, c254.1.Field, c254.1.Op, c254.1.Kids⟩ : zb)] : List zb)) (cs := [.int .u8 (c225.1.Kind.toNat : Int), .int .i64 c225.1.Num, .string c225.1.Name, .string c225.1.Field, .string c225.1.Op, zrU A231 c225.1.Kids c232, .int .u8 (c254.1.Kind.toNat : Int), .int .i64 c254.1.Num, .string c254.1.Name, .string c254.1.Field, .string c254.1.Op, zrU A260 c254.1.Kids c261]) hO rfl ⟨[.int .u8 (c225.1.Kind.toNat : Int), .int .i64 c225.1.Num, .string c225.1.Name, .string c225.1.Field, .string c225.1.Op, zrU A231 c225.1.Kids c232], _, rfl, (zbI ⟨_, rfl, r230⟩), ⟨[.int .u8 (c254.1.Kind.toNat : Int), .int .i64 c254.1.Num, .string c254.1.Name, .string c254.1.Field, .string c254.1.Op, zrU A260 c254.1.Kids c261], _, rfl, (zbI ⟨_, rfl, r259⟩), rfl⟩⟩ rfl (by decide) fun _ σ o268 w269 hO => ?_
   obtain ⟨A266, c267, rfl, -⟩ := w269.form
   have hO := zrS5 hO
   refine za hO 1 [] [(46, .pointer (some ⟨b3, 8, none⟩))] [0, 3, 4, 45] zrB fun j => ?_
   refine zk hO (i := 0) rfl (off := 8) rfl rfl rfl rfl (Nat.le_of_ble_eq_true rfl) rfl fun σ hO => ?_
   have hO := zrS5 hO
   refine zc (zi (zM (zm ?_)))
   obtain ⟨_, h271, r270, hO⟩ := w269.share hO (i := 4) rfl
   have hL := hL.trans h271
   have r230 := r230.le h271
   have r265 := r265.le h271
   have hO := zrS5 hO
   have hO := hO.sel [3, 0, 1]
   exact ⟨A263, c264, c254.2.L, c254.2.At, c254.2.Failed, (3 : UInt8), p1.Line, c5.1, p1.Field, p1.Call, p1.Type_.Kind, p1.Type_.N, p1.Type_.Name, A266, c267, ([(⟨c225.1.Kind, c225.1.Num, c225.1.Name, c225.1.Field, c225.1.Op, c225.1.Kids⟩ : zb), (⟨c254.1.Kind, c254.1.Num, c254.1.Name, c254.1.Field, c254.1.Op, c254.1.Kids⟩ : zb)] : List zb), A1_9, c1_9, p1.Body, A1_10, c1_10, p1.Else, _, zrM zry, hO, hL, r265, r270, (r1_9.le hL), (r1_10.le hL), hF⟩
  refine zg (za hO 1 [] [(48, zrO bm0)] [0, 3, 4] zrA fun j => ?_)
  obtain ⟨c272, h273, hF⟩ := zrT hF
  refine zn (hs := [_, _]) (vs := [_]) hO (zbK (p2 := (⟨#[46]⟩ : ByteArray)) r12 h273) rfl fun _ σ _ _ hO h274 h275 => ?_
  have hL := hL.trans h274
  have r12 := r12.le h274
  obtain ⟨rfl, rfl⟩ := h275
  have hO := zrS3 hO
  refine zf hO [] [(47, .bool c272)] [0, 3, 4] zrA fun j => ?_
  refine zq hF rfl (fun hF => ?_) fun hF => ?_
  ·refine zg (zbn hO 7 [2] [(0, zrO bm0), (3, zrO b3), (4, zrO b4), (54, zrN (IntKind.i64.wrap (c5.2.At + 1))), (56, .pointer (some ⟨bm0, 1, none⟩))] (And.intro (And.intro rfl rfl) zrB) fun j => ?_)
   refine zk hO (i := 2) rfl (off := 1) rfl rfl rfl rfl (Nat.le_of_ble_eq_true rfl) rfl fun σ hO => ?_
   have hO := zrS3 hO
   refine zc (zg (za hO 1 [] [(57, zrO bm0)] [0, 3, 4] zrA fun j => ?_))
   obtain ⟨c277, h278, hF⟩ := zrT hF
   refine zn (hs := [_, _]) (vs := [_]) hO (zdu (q0 := (⟨c5.2.L, (IntKind.i64.wrap (c5.2.At + 1)), c5.2.Failed⟩ : zj)) r12 h278) rfl fun _ σ _ _ hO h279 h280 => ?_
   have hL := hL.trans h279
   obtain ⟨v281, rfl, rfl, r284⟩ := h280
   obtain ⟨A282, c283, rfl, -⟩ := r284.form
   have hO := zrS3 hO
   refine za hO 1 [] [(59, .pointer (some ⟨b3, 3, none⟩))] [0, 3, 4, 58] zrB fun j => ?_
   refine zk hO (i := 0) rfl (off := 3) rfl rfl rfl rfl (Nat.le_of_ble_eq_true rfl) rfl fun σ hO => ?_
   have hO := zrS3 hO
   refine zc (zg (za hO 1 [] [(60, zrO bm0)] [0, 3, 4] zrA fun j => ?_))
   obtain ⟨c285, h286, hF⟩ := zrT hF
   refine zn (hs := [_, _]) (vs := [_]) hO (zbT (p1 := (⟨#[61]⟩ : ByteArray)) r284 h286) rfl fun _ σ _ _ hO h287 h288 => ?_
   have hL := hL.trans h287
   obtain ⟨v289, rfl, rfl, r292⟩ := h288
   obtain ⟨A290, c291, rfl, -⟩ := r292.form
   have hO := zrS3 hO
   refine zc (zg (za hO 1 [] [(62, zrO b3)] [0, 3, 4] zrA fun j => ?_))
   refine zk hO (i := 0) rfl (off := 0) rfl rfl rfl rfl (Nat.le_of_ble_eq_true rfl) rfl fun σ hO => ?_
   have hO := zrS3 hO
   refine zc (za hO 1 [] [(63, zrO bm0)] [0, 3, 4] zrA fun j => ?_)
   obtain ⟨c293, h294, hF⟩ := zrT hF
   refine zn (hs := [_, _]) (vs := [_]) hO (zdA r292 h294) rfl fun _ σ _ _ hO h295 h296 => ?_
   have hL := hL.trans h295
   obtain ⟨v297, v301, rfl, rfl, r298, r304⟩ := h296
   obtain ⟨A299, c300, rfl, -⟩ := r298.form
   obtain ⟨A302, c303, rfl, -⟩ := r304.form
   have hO := zrS3 hO
   refine zB (T := zr) (l := ([(⟨c293.1.Kind, c293.1.Num, c293.1.Name, c293.1.Field, c293.1.Op, c293.1.Kids⟩ : zb)] : List zb)) (cs := [.int .u8 (c293.1.Kind.toNat : Int), .int .i64 c293.1.Num, .string c293.1.Name, .string c293.1.Field, .string c293.1.Op, zrU A299 c293.1.Kids c300]) hO rfl ⟨[.int .u8 (c293.1.Kind.toNat : Int), .int .i64 c293.1.Num, .string c293.1.Name, .string c293.1.Field, .string c293.1.Op, zrU A299 c293.1.Kids c300], _, rfl, (zbI ⟨_, rfl, r298⟩), rfl⟩ rfl (by decide) fun _ σ o307 w308 hO => ?_
   obtain ⟨A305, c306, rfl, -⟩ := w308.form
   have hO := zrS4 hO
   refine za hO 1 [] [(66, .pointer (some ⟨b3, 8, none⟩))] [0, 3, 4, 65] zrB fun j => ?_
   refine zk hO (i := 0) rfl (off := 8) rfl rfl rfl rfl (Nat.le_of_ble_eq_true rfl) rfl fun σ hO => ?_
   have hO := zrS4 hO
   refine zc (zi (zM (zm ?_)))
   obtain ⟨_, h310, r309, hO⟩ := w308.share hO (i := 3) rfl
   have hL := hL.trans h310
   have r304 := r304.le h310
   have hO := zrS4 hO
   have hO := hO.sel [2, 0, 1]
   exact ⟨A302, c303, c293.2.L, c293.2.At, c293.2.Failed, (4 : UInt8), p1.Line, c5.1, c277.1, p1.Call, p1.Type_.Kind, p1.Type_.N, p1.Type_.Name, A305, c306, ([(⟨c293.1.Kind, c293.1.Num, c293.1.Name, c293.1.Field, c293.1.Op, c293.1.Kids⟩ : zb)] : List zb), A1_9, c1_9, p1.Body, A1_10, c1_10, p1.Else, _, zrM zry, hO, hL, r304, r309, (r1_9.le hL), (r1_10.le hL), hF⟩
  refine zg (zbn hO 1 [] [(0, zrO bm0), (3, zrO b3), (4, zrO b4), (9, zrO bm0)] zrA fun j => ?_)
  obtain ⟨c311, h312, hF⟩ := zrT hF
  refine zn (hs := [_, _]) (vs := [_]) hO (zbT (p1 := (⟨#[61]⟩ : ByteArray)) r12 h312) rfl fun _ σ _ _ hO h313 h314 => ?_
  have hL := hL.trans h313
  obtain ⟨v315, rfl, rfl, r318⟩ := h314
  obtain ⟨A316, c317, rfl, -⟩ := r318.form
  have hO := zrS3 hO
  refine zc (za hO 2 [0] [(11, zrO bm0), (12, .agg #[(.int .u8 (p1.Kind.toNat : Int)), (.int .i64 p1.Line), (.string c5.1), (.string p1.Field), (.string p1.Call), (.int .u8 (p1.Type_.Kind.toNat : Int)), (.int .i64 p1.Type_.N), (.string p1.Type_.Name), (zrU A1_8 p1.Kids c1_8), (zrU A1_9 p1.Body c1_9), (zrU A1_10 p1.Else c1_10)])] [0, 3, 4] (And.intro (And.intro rfl rfl) zrB) fun j => ?_)
  obtain ⟨c319, h320, hF⟩ := zrT hF
  refine zn (hs := [_, _]) (vs := [_]) hO (znF (p1 := (⟨p1.Kind, p1.Line, c5.1, p1.Field, p1.Call, (⟨p1.Type_.Kind, p1.Type_.N, p1.Type_.Name⟩ : zD), p1.Kids, p1.Body, p1.Else⟩ : zh)) r318 (r1_8.le hL) (r1_9.le hL) (r1_10.le hL) h320) rfl fun _ σ _ _ hO h321 h322 => ?_
  have hL := hL.trans h321
  obtain ⟨v323, v327, v331, v335, rfl, rfl, r324, r328, r332, r338⟩ := h322
  obtain ⟨A325, c326, rfl, -⟩ := r324.form
  obtain ⟨A329, c330, rfl, -⟩ := r328.form
  obtain ⟨A333, c334, rfl, -⟩ := r332.form
  obtain ⟨A336, c337, rfl, -⟩ := r338.form
  have hO := zrS3 hO
  refine zk hO (i := 0) rfl (off := 0) rfl rfl rfl rfl (Nat.le_of_ble_eq_true rfl) rfl fun σ hO => ?_
  have hO := zrS3 hO
  refine zc (zi (zM (zm ?_)))
  have hO := hO.sel [2, 0, 1]
  exact ⟨A336, c337, c319.2.L, c319.2.At, c319.2.Failed, c319.1.Kind, c319.1.Line, c319.1.Name, c319.1.Field, c319.1.Call, c319.1.Type_.Kind, c319.1.Type_.N, c319.1.Type_.Name, A325, c326, c319.1.Kids, A329, c330, c319.1.Body, A333, c334, c319.1.Else, _, zrM zry, hO, hL, r338, r324, r328, r332, hF⟩
 rintro e σ ⟨A166, c167, x168, x170, x171, x172, x173, x174, x175, x176, x177, x178, x179, A180, c181, x182, A184, c185, x186, A188, c189, x190, _, hA, hO, hL, r169, r183, r187, r191, hF⟩
 rw [← zW _ _ hA]
 unfold zeJ at hF
 refine za hO 1 [] [(67, zrO bm0)] [0, 3, 4] zrA fun j => ?_
 obtain ⟨c192, h193, hF⟩ := zrT hF
 have hO := hO.sel [1, 2, 0]
 refine zn (hs := [_, _]) (vs := [_]) hO (zbT (q0 := (⟨x168, x170, x171⟩ : zj)) (p1 := (⟨#[59]⟩ : ByteArray)) r169 h193) rfl fun _ σ _ _ hO h194 h195 => ?_
 have hL := hL.trans h194
 have r183 := r183.le h194
 have r187 := r187.le h194
 have r191 := r191.le h194
 obtain ⟨v196, rfl, rfl, r199⟩ := h195
 obtain ⟨A197, c198, rfl, -⟩ := r199.form
 have hO := zrS3 hO
 refine zc (za hO 1 [0] [(69, .agg #[(.int .u8 (x172.toNat : Int)), (.int .i64 x173), (.string x174), (.string x175), (.string x176), (.int .u8 (x177.toNat : Int)), (.int .i64 x178), (.string x179), (zrU A180 x182 c181), (zrU A184 x186 c185), (zrU A188 x190 c189)])] [0, 4] (And.intro (And.intro rfl rfl) zrz) fun j => ?_)
 refine zk hO (i := 1) rfl (off := 0) rfl rfl rfl rfl (Nat.le_of_ble_eq_true rfl) rfl fun σ hO => ?_
 have hO := zrS3 hO
 refine zc (z3 ?_)
 cases hF
 have hV0 := hO.val (i := 1) rfl (off := 0) (agg := true) (n := 11) rfl
 have hO := hO.sel [2]
 exact hQ _ _ _ _ _ (z8 rfl (hV0) rfl) hO hL ⟨_, _, _, _, rfl, rfl, r183, r187, r191, r199⟩
def zj6 (gn : Nat) : Prop := ∀ {τ : Hp} {q0 : zj} {bm0 : Nat} {vm0_0 : Value} (rm0_0 : RdT zl τ vm0_0 q0.L) {rr : (List zh) × zj} (hF : ((zcr gn).1) q0 = some rr), Ctr Try.prog 49 #[.pointer (some ⟨bm0, 0, none⟩)] τ [zba bm0 vm0_0 q0.At q0.Failed] (fun v τ' vs' => ∃ (v0 : Value) (o0 : Ob) (u0_0 : Value), v = v0 ∧ vs' = [o0, zba bm0 u0_0 rr.2.At rr.2.Failed] ∧ ze zv 53 τ' v0 rr.1 o0 ∧ RdT zl τ' u0_0 rr.2.L)
def zkH (gn : Nat) : Prop := ∀ {τ : Hp} {q0 : zj} {bm0 : Nat} {vm0_0 : Value} (rm0_0 : RdT zl τ vm0_0 q0.L) {rr : zh × zj} (hF : ((zcr gn).2) q0 = some rr), Ctr Try.prog 72 #[.pointer (some ⟨bm0, 0, none⟩)] τ [zba bm0 vm0_0 q0.At q0.Failed] (fun v τ' vs' => ∃ (v0_8 v0_9 v0_10 u0_0 : Value), v = .agg #[.int .u8 rr.1.Kind.toNat, .int .i64 rr.1.Line, .string rr.1.Name, .string rr.1.Field, .string rr.1.Call, .int .u8 rr.1.Type_.Kind.toNat, .int .i64 rr.1.Type_.N, .string rr.1.Type_.Name, v0_8, v0_9, v0_10] ∧ vs' = [zba bm0 u0_0 rr.2.At rr.2.Failed] ∧ RdT zr τ' v0_8 rr.1.Kids ∧ RdT zv τ' v0_9 rr.1.Body ∧ RdT zv τ' v0_10 rr.1.Else ∧ RdT zl τ' u0_0 rr.2.L)
theorem zob {gn : Nat} (ih_ref12_parser_block : zj6 gn) (ih_ref12_parser_stmt : zkH gn) {τ : Hp} {q0 : zj} {bm0 : Nat} {vm0_0 : Value} (rm0_0 : RdT zl τ vm0_0 q0.L) {rr : (List zh) × zj} (hF : zhT ((zcr gn).1) ((zcr gn).2) q0 = some rr) :
  Ctr Try.prog 49 #[.pointer (some ⟨bm0, 0, none⟩)] τ [zba bm0 vm0_0 q0.At q0.Failed] (fun v τ' vs' => ∃ (v0 : Value) (o0 : Ob) (u0_0 : Value), v = v0 ∧ vs' = [o0, zba bm0 u0_0 rr.2.At rr.2.Failed] ∧ ze zv 53 τ' v0 rr.1 o0 ∧ RdT zl τ' u0_0 rr.2.L) := by
 obtain ⟨Am0_0, cm0_0, rfl, -⟩ := rm0_0.form
 refine zbf (args := [.pointer (some ⟨bm0, 0, none⟩)]) hm Try.func49 s49 rfl fun w0 σ hO Q hQ => ?_
 unfold zhT at hF
 have hL := Hp.le.refl τ
 show wpn _ _ a49.body _ _ _
 unfold a49
 dsimp only
 refine zf hO [] [] [0] zrx fun j => ?_
 refine za hO 1 [] [(4, zrO bm0)] [0] zry fun j => ?_
 obtain ⟨c2, h3, hF⟩ := zrT hF
 refine zn (hs := []) (vs := [_]) hO (zbT (p1 := (⟨#[123]⟩ : ByteArray)) (rm0_0.le hL) h3) rfl fun _ σ _ _ hO h4 h5 => ?_
 have hL := hL.trans h4
 obtain ⟨v6, rfl, rfl, r9⟩ := h5
 obtain ⟨A7, c8, rfl, -⟩ := r9.form
 have hO := zrS1 hO
 refine zc (zf hO [] [(3, .slice none 0 0)] [0] zry fun j => ?_)
 refine zJ ?_
 have hO := hO.no
 have hO := zrS2 hO
 refine zby (fun (n : Nat) e' σ' => ∃ (A53 : Option Addr) (c54 : Nat) (x55 : List zp) (x57 : Int) (x58 : Bool) (A59 : Option Addr) (c60 : Nat) (o61 : Ob) (x62 : List zh) (τ' : Hp), agr [(0, zrO bm0), (3, zrU A59 x62 c60)] e' ∧ Obs τ' σ' [zba bm0 (zrU A53 x55 c54) x57 x58, o61] ∧ Hp.le τ τ' ∧ RdT zl τ' (zrU A53 x55 c54) x55 ∧ ze zv 53 τ' (zrU A59 x62 c60) x62 o61 ∧ zfB (zcr gn).2 n x55 x57 x58 x62 = some rr) big ⟨A7, c8, c2.L, c2.At, c2.Failed, none, 0, none, [], _, zrM zrx, hO, hL, r9, ze.nil _ _ _, hF⟩ ?_
 clear hF hO hL
 rintro n105 e σ ⟨A53, c54, x55, x57, x58, A59, c60, o61, x62, _, hA, hO, hL, r56, w63, hF⟩
 rw [← zW _ _ hA]
 cases n105 with
 | zero => exact nomatch (show none = some rr from hF)
 | succ n105 =>
 replace hF : zg5 (zfB (zcr gn).2 n105) (zcr gn).2 x55 x57 x58 x62 = some rr := hF
 unfold zg5 at hF
 refine zg (za hO 6 [0] [(11, .bool (!x58))] [0, 3] (And.intro (And.intro rfl rfl) zrz) fun j => ?_)
 obtain ⟨c106, h107, hF⟩ := zrT hF
 refine zcg 2 (fun e' σ' => ∃ (τ' : Hp), agr [(15, .bool c106), (0, zrO bm0), (3, zrU A59 x62 c60)] e' ∧ Obs τ' σ' [zba bm0 (zrU A53 x55 c54) x57 x58, o61] ∧ Hp.le τ τ' ∧ ze zv 53 τ' (zrU A59 x62 c60) x62 o61 ∧ RdT zl τ' (zrU A53 x55 c54) x55) ?_ ?_
 ·have hF := h107
  rcases zbr hF with ⟨hb108, hF⟩ | ⟨hb108, hF⟩
  ·refine zbi (zrR hb108) ?_
   refine za hO 1 [] [(12, zrO bm0)] [0, 3, 11] zrA fun j => ?_
   obtain ⟨c109, h110, hF⟩ := zrT hF
   have hO := hO.sel [1, 0]
   refine zn (hs := [_]) (vs := [_]) hO (zbK (q0 := (⟨x55, x57, x58⟩ : zj)) (p2 := (⟨#[125]⟩ : ByteArray)) r56 h110) rfl fun _ σ _ _ hO h111 h112 => ?_
   have hL := hL.trans h111
   have w63 := w63.le h111
   have r56 := r56.le h111
   obtain ⟨rfl, rfl⟩ := h112
   have hO := zrS2 hO
   have hO := hO.sel [1, 0]
   have hO := zrS2 hO
   refine za hO 1 [] [(14, .bool (!c109))] [0, 3, 11] zrA fun j => ?_
   refine zF (zrP hb108) ?_
   refine zc ?_
   cases hF
   refine zi ?_
   exact ⟨rfl, _, zrM zry, hO, hL, w63, r56⟩
  refine zbk (zrR hb108) ?_
  refine zF (zrP hb108) ?_
  refine zc ?_
  cases hF
  refine zi ?_
  exact ⟨rfl, _, zrM zry, hO, hL, w63, r56⟩
 rintro e σ ⟨_, hA, hO, hL, w63, r56⟩
 rw [← zW _ _ hA]
 refine zc (zq hF rfl (fun hF => ?_) fun hF => ?_)
 ·refine zz (zbV (zJ (zbv (za hO 2 [] [(16, zrU A59 x62 c60), (17, zrO bm0)] [0] zrz fun j => ?_))))
  obtain ⟨c114, h115, hF⟩ := zrT hF
  have hO := hO.sel [1, 0]
  refine zn (hs := [_]) (vs := [_]) hO (ih_ref12_parser_stmt (q0 := (⟨x55, x57, x58⟩ : zj)) r56 h115) rfl fun _ σ _ _ hO h116 h117 => ?_
  have hL := hL.trans h116
  have w63 := w63.le h116
  obtain ⟨v118, v122, v126, v130, rfl, rfl, r119, r123, r127, r133⟩ := h117
  obtain ⟨A120, c121, rfl, -⟩ := r119.form
  obtain ⟨A124, c125, rfl, -⟩ := r123.form
  obtain ⟨A128, c129, rfl, -⟩ := r127.form
  obtain ⟨A131, c132, rfl, -⟩ := r133.form
  have hO := zrS2 hO
  obtain ⟨_, hr138, hF⟩ := zrT hF
  refine zlr (T := zv) (y := (⟨c114.1.Kind, c114.1.Line, c114.1.Name, c114.1.Field, c114.1.Call, (⟨c114.1.Type_.Kind, c114.1.Type_.N, c114.1.Type_.Name⟩ : zD), c114.1.Kids, c114.1.Body, c114.1.Else⟩ : zh)) hO w63 (i := 0) rfl rfl (fun _ => rfl) rfl (zk9 ⟨_, _, _, rfl, r119, r123, r127⟩) rfl hr138 (by decide) fun u _ σ o136 w137 hO => ?_
  obtain ⟨A134, c135, rfl, -⟩ := w137.form
  have hO := zrS2 hO
  refine zf hO [] [(3, zrU A134 (x62 ++ [(⟨c114.1.Kind, c114.1.Line, c114.1.Name, c114.1.Field, c114.1.Call, (⟨c114.1.Type_.Kind, c114.1.Type_.N, c114.1.Type_.Name⟩ : zD), c114.1.Kids, c114.1.Body, c114.1.Else⟩ : zh)]) c135)] [0] zry fun j => ?_
  refine zi (zM (zm (zi (zm ?_))))
  have hO := hO.sel [1, 0]
  exact ⟨n105, Nat.lt_succ_self _, A131, c132, c114.2.L, c114.2.At, c114.2.Failed, A134, c135, o136, (x62 ++ [(⟨c114.1.Kind, c114.1.Line, c114.1.Name, c114.1.Field, c114.1.Call, (⟨c114.1.Type_.Kind, c114.1.Type_.N, c114.1.Type_.Name⟩ : zD), c114.1.Kids, c114.1.Body, c114.1.Else⟩ : zh)]), _, zrM zrx, hO, hL, r133, w137, hF⟩
 refine zbA (zbB (zbz (zm (za hO 1 [] [(21, zrO bm0)] [0, 3] zrz fun j => ?_))))
 obtain ⟨c139, h140, hF⟩ := zrT hF
 have hO := hO.sel [1, 0]
 refine zn (hs := [_]) (vs := [_]) hO (zbT (q0 := (⟨x55, x57, x58⟩ : zj)) (p1 := (⟨#[125]⟩ : ByteArray)) r56 h140) rfl fun _ σ _ _ hO h141 h142 => ?_
 have hL := hL.trans h141
 have w63 := w63.le h141
 obtain ⟨v143, rfl, rfl, r146⟩ := h142
 obtain ⟨A144, c145, rfl, -⟩ := r146.form
 have hO := zrS2 hO
 refine zc (zf hO [] [(2, zrU A59 x62 c60)] [0] zry fun j => ?_)
 refine z3 ?_
 cases hF
 exact hQ _ _ _ _ _ rfl hO hL ⟨_, _, _, rfl, rfl, w63, r146⟩
theorem znq {gn : Nat} (ih_ref12_parser_block : zj6 gn) (ih_ref12_parser_stmt : zkH gn) {τ : Hp} {q0 : zj} {bm0 : Nat} {vm0_0 : Value} (rm0_0 : RdT zl τ vm0_0 q0.L) {rr : zh × zj} (hF : zhQ ((zcr gn).1) ((zcr gn).2) q0 = some rr) :
  Ctr Try.prog 72 #[.pointer (some ⟨bm0, 0, none⟩)] τ [zba bm0 vm0_0 q0.At q0.Failed] (fun v τ' vs' => ∃ (v0_8 v0_9 v0_10 u0_0 : Value), v = .agg #[.int .u8 rr.1.Kind.toNat, .int .i64 rr.1.Line, .string rr.1.Name, .string rr.1.Field, .string rr.1.Call, .int .u8 rr.1.Type_.Kind.toNat, .int .i64 rr.1.Type_.N, .string rr.1.Type_.Name, v0_8, v0_9, v0_10] ∧ vs' = [zba bm0 u0_0 rr.2.At rr.2.Failed] ∧ RdT zr τ' v0_8 rr.1.Kids ∧ RdT zv τ' v0_9 rr.1.Body ∧ RdT zv τ' v0_10 rr.1.Else ∧ RdT zl τ' u0_0 rr.2.L) := by
 obtain ⟨Am0_0, cm0_0, rfl, -⟩ := rm0_0.form
 refine zbf (args := [.pointer (some ⟨bm0, 0, none⟩)]) hm Try.func72 s72 rfl fun w0 σ hO Q hQ => ?_
 unfold zhQ at hF
 have hL := Hp.le.refl τ
 show wpn _ _ a72.body _ _ _
 unfold a72
 dsimp only
 refine zbm hO fun b2 σ hO => ?_
 have hO := zrS2 hO
 refine zc (za hO 1 [] [(4, zrO bm0)] [0, 2] zrz fun j => ?_)
 obtain ⟨c3, h4, hF⟩ := zrT hF
 have hO := hO.sel [1, 0]
 refine zn (hs := [_]) (vs := [_]) hO (zk6 (rm0_0.le hL) h4) rfl fun _ σ _ _ hO h5 h6 => ?_
 have hL := hL.trans h5
 obtain ⟨rfl, rfl⟩ := h6
 have hO := zrS2 hO
 have hO := hO.sel [1, 0]
 have hO := zrS2 hO
 refine za hO 1 [] [(6, .agg #[(.int .u8 0), (.int .i64 c3), (.string (⟨#[]⟩ : ByteArray)), (.string (⟨#[]⟩ : ByteArray)), (.string (⟨#[]⟩ : ByteArray)), (.int .u8 0), (.int .i64 0), (.string (⟨#[]⟩ : ByteArray)), (.slice none 0 0), (.slice none 0 0), (.slice none 0 0)])] [0, 2] zrz fun j => ?_
 refine zbm hO fun b7 σ hO => ?_
 have hO := zrS3 hO
 refine zk hO (i := 2) rfl (off := 0) rfl rfl rfl rfl (Nat.le_of_ble_eq_true rfl) rfl fun σ hO => ?_
 have hO := zrS3 hO
 refine zc (zi0 (fun e' σ' => ∃ (A259 : Option Addr) (c260 : Nat) (x261 : List zp) (x263 : Int) (x264 : Bool) (x265 : Int) (x266 : ByteArray) (x267 : UInt8) (x268 : Int) (x269 : ByteArray) (A270 : Option Addr) (c271 : Nat) (o272 : Ob) (x273 : List zb) (A275 : Option Addr) (c276 : Nat) (o277 : Ob) (x278 : List zh) (A280 : Option Addr) (c281 : Nat) (o282 : Ob) (x283 : List zh) (τ' : Hp), agr [(0, zrO bm0), (2, zrO b2), (3, zrO b7)] e' ∧ Obs τ' σ' [zba bm0 (zrU A259 x261 c260) x263 x264, zbQ b2 0 0 (⟨#[]⟩ : ByteArray) (⟨#[]⟩ : ByteArray) (⟨#[]⟩ : ByteArray) 0 0 (⟨#[]⟩ : ByteArray) (.slice none 0 0) (.slice none 0 0) (.slice none 0 0), zbQ b7 x265 c3 x266 (⟨#[]⟩ : ByteArray) (⟨#[]⟩ : ByteArray) (x267.toNat : Int) x268 x269 (zrU A270 x273 c271) (zrU A275 x278 c276) (zrU A280 x283 c281), o272, o277, o282] ∧ Hp.le τ τ' ∧ RdT zl τ' (zrU A259 x261 c260) x261 ∧ ze zr 55 τ' (zrU A270 x273 c271) x273 o272 ∧ ze zv 53 τ' (zrU A275 x278 c276) x278 o277 ∧ ze zv 53 τ' (zrU A280 x283 c281) x283 o282 ∧ zdm c3 x261 x263 x264 x265 x266 x267 x268 x269 x273 x278 x283 = some rr) ?_ ?_)
 ·refine za hO 1 [] [(11, zrO bm0)] [0, 2, 3] zrA fun j => ?_
  obtain ⟨c292, h293, hF⟩ := zrT hF
  have hO := hO.sel [1, 2, 0]
  refine zn (hs := [_, _]) (vs := [_]) hO (zbK (p2 := (⟨#[118, 97, 114]⟩ : ByteArray)) (rm0_0.le hL) h293) rfl fun _ σ _ _ hO h294 h295 => ?_
  have hL := hL.trans h294
  obtain ⟨rfl, rfl⟩ := h295
  have hO := zrS3 hO
  have hO := hO.sel [2, 0, 1]
  have hO := zrS3 hO
  refine zf hO [] [(10, .bool c292)] [0, 2, 3] zrA fun j => ?_
  refine zbF (zq hF rfl (fun hF => ?_) fun hF => ?_)
  ·refine zg (za hO 7 [0] [(17, zrN (IntKind.i64.wrap (q0.At + 1))), (19, .pointer (some ⟨bm0, 1, none⟩))] [0, 2, 3] (And.intro (And.intro rfl rfl) zrB) fun j => ?_)
   refine zk hO (i := 0) rfl (off := 1) rfl rfl rfl rfl (Nat.le_of_ble_eq_true rfl) rfl fun σ hO => ?_
   have hO := zrS3 hO
   refine zc (zg (za hO 1 [] [(20, zrO b7)] [0, 2, 3] zrA fun j => ?_))
   refine zk hO (i := 2) rfl (off := 0) rfl rfl rfl rfl (Nat.le_of_ble_eq_true rfl) rfl fun σ hO => ?_
   have hO := zrS3 hO
   refine zc (zg (za hO 1 [] [(21, zrO bm0)] [0, 2, 3] zrA fun j => ?_))
   obtain ⟨c297, h298, hF⟩ := zrT hF
   have hO := hO.sel [1, 2, 0]
   refine zn (hs := [_, _]) (vs := [_]) hO (zdu (q0 := (⟨q0.L, (IntKind.i64.wrap (q0.At + 1)), q0.Failed⟩ : zj)) (rm0_0.le hL) h298) rfl fun _ σ _ _ hO h299 h300 => ?_
   have hL := hL.trans h299
   obtain ⟨v301, rfl, rfl, r304⟩ := h300
   obtain ⟨A302, c303, rfl, -⟩ := r304.form
   have hO := zrS3 hO
   refine za hO 1 [] [(23, .pointer (some ⟨b7, 2, none⟩))] [0, 2, 3, 22] zrB fun j => ?_
   refine zk hO (i := 1) rfl (off := 2) rfl rfl rfl rfl (Nat.le_of_ble_eq_true rfl) rfl fun σ hO => ?_
   have hO := zrS3 hO
   refine zc (zg (zbn hO 1 [] [(0, zrO bm0), (2, zrO b2), (3, zrO b7), (24, zrO bm0)] zrA fun j => ?_))
   obtain ⟨c305, h306, hF⟩ := zrT hF
   refine zn (hs := [_, _]) (vs := [_]) hO (zkp r304 h306) rfl fun _ σ _ _ hO h307 h308 => ?_
   have hL := hL.trans h307
   obtain ⟨v309, rfl, rfl, r312⟩ := h308
   obtain ⟨A310, c311, rfl, -⟩ := r312.form
   have hO := zrS3 hO
   refine za hO 1 [] [(26, .pointer (some ⟨b7, 5, none⟩))] [0, 2, 3, 25] zrB fun j => ?_
   refine zk hO (i := 1) rfl (off := 5) rfl rfl rfl rfl (Nat.le_of_ble_eq_true rfl) rfl fun σ hO => ?_
   have hO := zrS3 hO
   refine zc (zg (zg (za hO 1 [] [(27, zrO bm0)] [0, 2, 3] zrA fun j => ?_)))
   obtain ⟨c313, h314, hF⟩ := zrT hF
   refine zn (hs := [_, _]) (vs := [_]) hO (zbK (p2 := (⟨#[61]⟩ : ByteArray)) r312 h314) rfl fun _ σ _ _ hO h315 h316 => ?_
   have hL := hL.trans h315
   have r312 := r312.le h315
   obtain ⟨rfl, rfl⟩ := h316
   have hO := zrS3 hO
   refine zc (zq hF rfl (fun hF => ?_) fun hF => ?_)
   ·refine zg (za hO 7 [2] [(33, zrN (IntKind.i64.wrap (c305.2.At + 1))), (35, .pointer (some ⟨bm0, 1, none⟩))] [0, 2, 3] (And.intro (And.intro rfl rfl) zrB) fun j => ?_)
    refine zk hO (i := 2) rfl (off := 1) rfl rfl rfl rfl (Nat.le_of_ble_eq_true rfl) rfl fun σ hO => ?_
    have hO := zrS3 hO
    refine zc (za hO 1 [] [(36, zrO bm0)] [0, 2, 3] zrA fun j => ?_)
    obtain ⟨c318, h319, hF⟩ := zrT hF
    refine zn (hs := [_, _]) (vs := [_]) hO (zdA (q0 := (⟨c305.2.L, (IntKind.i64.wrap (c305.2.At + 1)), c305.2.Failed⟩ : zj)) r312 h319) rfl fun _ σ _ _ hO h320 h321 => ?_
    have hL := hL.trans h320
    obtain ⟨v322, v326, rfl, rfl, r323, r329⟩ := h321
    obtain ⟨A324, c325, rfl, -⟩ := r323.form
    obtain ⟨A327, c328, rfl, -⟩ := r329.form
    have hO := zrS3 hO
    refine zB (T := zr) (l := ([(⟨c318.1.Kind, c318.1.Num, c318.1.Name, c318.1.Field, c318.1.Op, c318.1.Kids⟩ : zb)] : List zb)) (cs := [.int .u8 (c318.1.Kind.toNat : Int), .int .i64 c318.1.Num, .string c318.1.Name, .string c318.1.Field, .string c318.1.Op, zrU A324 c318.1.Kids c325]) hO rfl ⟨[.int .u8 (c318.1.Kind.toNat : Int), .int .i64 c318.1.Num, .string c318.1.Name, .string c318.1.Field, .string c318.1.Op, zrU A324 c318.1.Kids c325], _, rfl, (zbI ⟨_, rfl, r323⟩), rfl⟩ rfl (by decide) fun _ σ o332 w333 hO => ?_
    obtain ⟨A330, c331, rfl, -⟩ := w333.form
    have hO := zrS4 hO
    refine za hO 1 [] [(39, .pointer (some ⟨b7, 8, none⟩))] [0, 2, 3, 38] zrB fun j => ?_
    refine zk hO (i := 1) rfl (off := 8) rfl rfl rfl rfl (Nat.le_of_ble_eq_true rfl) rfl fun σ hO => ?_
    have hO := zrS4 hO
    refine zc (za hO 1 [] [(40, zrO bm0)] [0, 2, 3] zrA fun j => ?_)
    obtain ⟨c334, h335, hF⟩ := zrT hF
    have hO := hO.sel [0, 1, 3, 2]
    refine zn (hs := [_, _, _]) (vs := [_]) hO (zbT (p1 := (⟨#[59]⟩ : ByteArray)) r329 h335) rfl fun _ σ _ _ hO h336 h337 => ?_
    have hL := hL.trans h336
    have w333 := w333.le h336
    obtain ⟨v338, rfl, rfl, r341⟩ := h337
    obtain ⟨A339, c340, rfl, -⟩ := r341.form
    have hO := zrS4 hO
    refine zc (zi (zM (zm ?_)))
    have hO := hO.no
    have hO := zrS5 hO
    have hO := hO.no
    have hO := zrS6 hO
    have hO := hO.sel [3, 0, 1, 2, 4, 5]
    exact ⟨A339, c340, c334.L, c334.At, c334.Failed, 1, c297.1, c305.1.Kind, c305.1.N, c305.1.Name, A330, c331, o332, ([(⟨c318.1.Kind, c318.1.Num, c318.1.Name, c318.1.Field, c318.1.Op, c318.1.Kids⟩ : zb)] : List zb), none, 0, none, [], none, 0, none, [], _, zrM zry, hO, hL, r341, w333, ze.nil _ _ _, ze.nil _ _ _, hF⟩
   refine zz (za hO 1 [] [(40, zrO bm0)] [0, 2, 3] zrA fun j => ?_)
   obtain ⟨c342, h343, hF⟩ := zrT hF
   refine zn (hs := [_, _]) (vs := [_]) hO (zbT (p1 := (⟨#[59]⟩ : ByteArray)) r312 h343) rfl fun _ σ _ _ hO h344 h345 => ?_
   have hL := hL.trans h344
   obtain ⟨v346, rfl, rfl, r349⟩ := h345
   obtain ⟨A347, c348, rfl, -⟩ := r349.form
   have hO := zrS3 hO
   refine zc (zi (zM (zm ?_)))
   have hO := hO.no
   have hO := zrS4 hO
   have hO := hO.no
   have hO := zrS5 hO
   have hO := hO.no
   have hO := zrS6 hO
   have hO := hO.sel [2, 0, 1, 3, 4, 5]
   exact ⟨A347, c348, c342.L, c342.At, c342.Failed, 1, c297.1, c305.1.Kind, c305.1.N, c305.1.Name, none, 0, none, [], none, 0, none, [], none, 0, none, [], _, zrM zry, hO, hL, r349, ze.nil _ _ _, ze.nil _ _ _, ze.nil _ _ _, hF⟩
  refine zg (za hO 1 [] [(43, zrO bm0)] [0, 2, 3] zrA fun j => ?_)
  obtain ⟨c350, h351, hF⟩ := zrT hF
  have hO := hO.sel [1, 2, 0]
  refine zn (hs := [_, _]) (vs := [_]) hO (zbK (p2 := (⟨#[105, 102]⟩ : ByteArray)) (rm0_0.le hL) h351) rfl fun _ σ _ _ hO h352 h353 => ?_
  have hL := hL.trans h352
  obtain ⟨rfl, rfl⟩ := h353
  have hO := zrS3 hO
  have hO := hO.sel [2, 0, 1]
  have hO := zrS3 hO
  refine zf hO [] [(42, .bool c350)] [0, 2, 3] zrA fun j => ?_
  refine zq hF rfl (fun hF => ?_) fun hF => ?_
  ·refine zg (za hO 7 [0] [(49, zrN (IntKind.i64.wrap (q0.At + 1))), (51, .pointer (some ⟨bm0, 1, none⟩))] [0, 2, 3] (And.intro (And.intro rfl rfl) zrB) fun j => ?_)
   refine zk hO (i := 0) rfl (off := 1) rfl rfl rfl rfl (Nat.le_of_ble_eq_true rfl) rfl fun σ hO => ?_
   have hO := zrS3 hO
   refine zc (zg (za hO 1 [] [(52, zrO b7)] [0, 2, 3] zrA fun j => ?_))
   refine zk hO (i := 2) rfl (off := 0) rfl rfl rfl rfl (Nat.le_of_ble_eq_true rfl) rfl fun σ hO => ?_
   have hO := zrS3 hO
   refine zc (zg (zbn hO 1 [] [(0, zrO bm0), (2, zrO b2), (3, zrO b7), (53, zrO bm0)] zrA fun j => ?_))
   obtain ⟨c355, h356, hF⟩ := zrT hF
   have hO := hO.sel [1, 2, 0]
   refine zn (hs := [_, _]) (vs := [_]) hO (zdA (q0 := (⟨q0.L, (IntKind.i64.wrap (q0.At + 1)), q0.Failed⟩ : zj)) (rm0_0.le hL) h356) rfl fun _ σ _ _ hO h357 h358 => ?_
   have hL := hL.trans h357
   obtain ⟨v359, v363, rfl, rfl, r360, r366⟩ := h358
   obtain ⟨A361, c362, rfl, -⟩ := r360.form
   obtain ⟨A364, c365, rfl, -⟩ := r366.form
   have hO := zrS3 hO
   refine zB (T := zr) (l := ([(⟨c355.1.Kind, c355.1.Num, c355.1.Name, c355.1.Field, c355.1.Op, c355.1.Kids⟩ : zb)] : List zb)) (cs := [.int .u8 (c355.1.Kind.toNat : Int), .int .i64 c355.1.Num, .string c355.1.Name, .string c355.1.Field, .string c355.1.Op, zrU A361 c355.1.Kids c362]) hO rfl ⟨[.int .u8 (c355.1.Kind.toNat : Int), .int .i64 c355.1.Num, .string c355.1.Name, .string c355.1.Field, .string c355.1.Op, zrU A361 c355.1.Kids c362], _, rfl, (zbI ⟨_, rfl, r360⟩), rfl⟩ rfl (by decide) fun _ σ o369 w370 hO => ?_
   obtain ⟨A367, c368, rfl, -⟩ := w370.form
   have hO := zrS4 hO
   refine za hO 1 [] [(56, .pointer (some ⟨b7, 8, none⟩))] [0, 2, 3, 55] zrB fun j => ?_
   refine zk hO (i := 1) rfl (off := 8) rfl rfl rfl rfl (Nat.le_of_ble_eq_true rfl) rfl fun σ hO => ?_
   have hO := zrS4 hO
   refine zc (zg (za hO 1 [] [(57, zrO bm0)] [0, 2, 3] zrA fun j => ?_))
   obtain ⟨c371, h372, hF⟩ := zrT hF
   have hO := hO.sel [0, 1, 3, 2]
   refine zn (hs := [_, _, _]) (vs := [_]) hO (ih_ref12_parser_block r366 h372) rfl fun _ σ _ _ hO h373 h374 => ?_
   have hL := hL.trans h373
   have w370 := w370.le h373
   obtain ⟨v375, o378, v380, rfl, rfl, w379, r383⟩ := h374
   obtain ⟨A376, c377, rfl, -⟩ := w379.form
   obtain ⟨A381, c382, rfl, -⟩ := r383.form
   have hO := zrS5 hO
   refine za hO 1 [] [(59, .pointer (some ⟨b7, 9, none⟩))] [0, 2, 3, 58] zrB fun j => ?_
   refine zk hO (i := 1) rfl (off := 9) rfl rfl rfl rfl (Nat.le_of_ble_eq_true rfl) rfl fun σ hO => ?_
   have hO := zrS5 hO
   refine zc (zg (za hO 1 [] [(60, zrO bm0)] [0, 2, 3] zrA fun j => ?_))
   obtain ⟨c384, h385, hF⟩ := zrT hF
   refine zn (hs := [_, _, _, _]) (vs := [_]) hO (zbK (p2 := (⟨#[101, 108, 115, 101]⟩ : ByteArray)) r383 h385) rfl fun _ σ _ _ hO h386 h387 => ?_
   have hL := hL.trans h386
   have w370 := w370.le h386
   have w379 := w379.le h386
   have r383 := r383.le h386
   obtain ⟨rfl, rfl⟩ := h387
   have hO := zrS5 hO
   refine zc (zq hF rfl (fun hF => ?_) fun hF => ?_)
   ·refine zg (za hO 7 [4] [(66, zrN (IntKind.i64.wrap (c371.2.At + 1))), (68, .pointer (some ⟨bm0, 1, none⟩))] [0, 2, 3] (And.intro (And.intro rfl rfl) zrB) fun j => ?_)
    refine zk hO (i := 4) rfl (off := 1) rfl rfl rfl rfl (Nat.le_of_ble_eq_true rfl) rfl fun σ hO => ?_
    have hO := zrS5 hO
    refine zc (za hO 1 [] [(69, zrO bm0)] [0, 2, 3] zrA fun j => ?_)
    obtain ⟨c389, h390, hF⟩ := zrT hF
    refine zn (hs := [_, _, _, _]) (vs := [_]) hO (ih_ref12_parser_block (q0 := (⟨c371.2.L, (IntKind.i64.wrap (c371.2.At + 1)), c371.2.Failed⟩ : zj)) r383 h390) rfl fun _ σ _ _ hO h391 h392 => ?_
    have hL := hL.trans h391
    have w370 := w370.le h391
    have w379 := w379.le h391
    obtain ⟨v393, o396, v398, rfl, rfl, w397, r401⟩ := h392
    obtain ⟨A394, c395, rfl, -⟩ := w397.form
    obtain ⟨A399, c400, rfl, -⟩ := r401.form
    have hO := zrS6 hO
    refine za hO 1 [] [(71, .pointer (some ⟨b7, 10, none⟩))] [0, 2, 3, 70] zrB fun j => ?_
    refine zk hO (i := 1) rfl (off := 10) rfl rfl rfl rfl (Nat.le_of_ble_eq_true rfl) rfl fun σ hO => ?_
    have hO := zrS6 hO
    refine zc (zi (zM (zm ?_)))
    have hO := hO.sel [5, 0, 1, 2, 3, 4]
    exact ⟨A399, c400, c389.2.L, c389.2.At, c389.2.Failed, 6, (⟨#[]⟩ : ByteArray), (0 : UInt8), 0, (⟨#[]⟩ : ByteArray), A367, c368, o369, ([(⟨c355.1.Kind, c355.1.Num, c355.1.Name, c355.1.Field, c355.1.Op, c355.1.Kids⟩ : zb)] : List zb), A376, c377, o378, c371.1, A394, c395, o396, c389.1, _, zrM zry, hO, hL, r401, w370, w379, w397, hF⟩
   refine zz (zi (zM (zm ?_)))
   have hO := hO.no
   have hO := zrS6 hO
   have hO := hO.sel [4, 0, 1, 2, 3, 5]
   exact ⟨A381, c382, c371.2.L, c371.2.At, c371.2.Failed, 6, (⟨#[]⟩ : ByteArray), (0 : UInt8), 0, (⟨#[]⟩ : ByteArray), A367, c368, o369, ([(⟨c355.1.Kind, c355.1.Num, c355.1.Name, c355.1.Field, c355.1.Op, c355.1.Kids⟩ : zb)] : List zb), A376, c377, o378, c371.1, none, 0, none, [], _, zrM zry, hO, hL, r383, w370, w379, ze.nil _ _ _, hF⟩
  refine zg (za hO 1 [] [(73, zrO bm0)] [0, 2, 3] zrA fun j => ?_)
  obtain ⟨c402, h403, hF⟩ := zrT hF
  have hO := hO.sel [1, 2, 0]
  refine zn (hs := [_, _]) (vs := [_]) hO (zbK (p2 := (⟨#[102, 111, 114]⟩ : ByteArray)) (rm0_0.le hL) h403) rfl fun _ σ _ _ hO h404 h405 => ?_
  have hL := hL.trans h404
  obtain ⟨rfl, rfl⟩ := h405
  have hO := zrS3 hO
  have hO := hO.sel [2, 0, 1]
  have hO := zrS3 hO
  refine zf hO [] [(72, .bool c402)] [0, 2, 3] zrA fun j => ?_
  refine zq hF rfl (fun hF => ?_) fun hF => ?_
  ·refine zg (zbn hO 7 [0] [(0, zrO bm0), (2, zrO b2), (3, zrO b7), (79, zrN (IntKind.i64.wrap (q0.At + 1))), (81, .pointer (some ⟨bm0, 1, none⟩))] (And.intro (And.intro rfl rfl) zrB) fun j => ?_)
   refine zk hO (i := 0) rfl (off := 1) rfl rfl rfl rfl (Nat.le_of_ble_eq_true rfl) rfl fun σ hO => ?_
   have hO := zrS3 hO
   refine zc (zg (za hO 1 [] [(82, zrO b7)] [0, 2, 3] zrA fun j => ?_))
   refine zk hO (i := 2) rfl (off := 0) rfl rfl rfl rfl (Nat.le_of_ble_eq_true rfl) rfl fun σ hO => ?_
   have hO := zrS3 hO
   refine zc (zg (za hO 1 [] [(83, zrO bm0)] [0, 2, 3] zrA fun j => ?_))
   obtain ⟨c407, h408, hF⟩ := zrT hF
   have hO := hO.sel [1, 2, 0]
   refine zn (hs := [_, _]) (vs := [_]) hO (zdA (q0 := (⟨q0.L, (IntKind.i64.wrap (q0.At + 1)), q0.Failed⟩ : zj)) (rm0_0.le hL) h408) rfl fun _ σ _ _ hO h409 h410 => ?_
   have hL := hL.trans h409
   obtain ⟨v411, v415, rfl, rfl, r412, r418⟩ := h410
   obtain ⟨A413, c414, rfl, -⟩ := r412.form
   obtain ⟨A416, c417, rfl, -⟩ := r418.form
   have hO := zrS3 hO
   refine zB (T := zr) (l := ([(⟨c407.1.Kind, c407.1.Num, c407.1.Name, c407.1.Field, c407.1.Op, c407.1.Kids⟩ : zb)] : List zb)) (cs := [.int .u8 (c407.1.Kind.toNat : Int), .int .i64 c407.1.Num, .string c407.1.Name, .string c407.1.Field, .string c407.1.Op, zrU A413 c407.1.Kids c414]) hO rfl ⟨[.int .u8 (c407.1.Kind.toNat : Int), .int .i64 c407.1.Num, .string c407.1.Name, .string c407.1.Field, .string c407.1.Op, zrU A413 c407.1.Kids c414], _, rfl, (zbI ⟨_, rfl, r412⟩), rfl⟩ rfl (by decide) fun _ σ o421 w422 hO => ?_
   obtain ⟨A419, c420, rfl, -⟩ := w422.form
   have hO := zrS4 hO
   refine za hO 1 [] [(86, .pointer (some ⟨b7, 8, none⟩))] [0, 2, 3, 85] zrB fun j => ?_
   refine zk hO (i := 1) rfl (off := 8) rfl rfl rfl rfl (Nat.le_of_ble_eq_true rfl) rfl fun σ hO => ?_
   have hO := zrS4 hO
   refine zc (za hO 1 [] [(87, zrO bm0)] [0, 2, 3] zrA fun j => ?_)
   obtain ⟨c423, h424, hF⟩ := zrT hF
   have hO := hO.sel [0, 1, 3, 2]
   refine zn (hs := [_, _, _]) (vs := [_]) hO (ih_ref12_parser_block r418 h424) rfl fun _ σ _ _ hO h425 h426 => ?_
   have hL := hL.trans h425
   have w422 := w422.le h425
   obtain ⟨v427, o430, v432, rfl, rfl, w431, r435⟩ := h426
   obtain ⟨A428, c429, rfl, -⟩ := w431.form
   obtain ⟨A433, c434, rfl, -⟩ := r435.form
   have hO := zrS5 hO
   refine za hO 1 [] [(89, .pointer (some ⟨b7, 9, none⟩))] [0, 2, 3, 88] zrB fun j => ?_
   refine zk hO (i := 1) rfl (off := 9) rfl rfl rfl rfl (Nat.le_of_ble_eq_true rfl) rfl fun σ hO => ?_
   have hO := zrS5 hO
   refine zc (zi (zM (zm ?_)))
   have hO := hO.no
   have hO := zrS6 hO
   have hO := hO.sel [4, 0, 1, 2, 3, 5]
   exact ⟨A433, c434, c423.2.L, c423.2.At, c423.2.Failed, 7, (⟨#[]⟩ : ByteArray), (0 : UInt8), 0, (⟨#[]⟩ : ByteArray), A419, c420, o421, ([(⟨c407.1.Kind, c407.1.Num, c407.1.Name, c407.1.Field, c407.1.Op, c407.1.Kids⟩ : zb)] : List zb), A428, c429, o430, c423.1, none, 0, none, [], _, zrM zry, hO, hL, r435, w422, w431, ze.nil _ _ _, hF⟩
  refine zg (zbn hO 1 [] [(0, zrO bm0), (2, zrO b2), (3, zrO b7), (91, zrO bm0)] zrA fun j => ?_)
  obtain ⟨c436, h437, hF⟩ := zrT hF
  have hO := hO.sel [1, 2, 0]
  refine zn (hs := [_, _]) (vs := [_]) hO (zbK (p2 := (⟨#[112, 114, 105, 110, 116]⟩ : ByteArray)) (rm0_0.le hL) h437) rfl fun _ σ _ _ hO h438 h439 => ?_
  have hL := hL.trans h438
  obtain ⟨rfl, rfl⟩ := h439
  have hO := zrS3 hO
  have hO := hO.sel [2, 0, 1]
  have hO := zrS3 hO
  refine zf hO [] [(90, .bool c436)] [0, 2, 3] zrA fun j => ?_
  refine zq hF rfl (fun hF => ?_) fun hF => ?_
  ·refine zg (za hO 7 [0] [(97, zrN (IntKind.i64.wrap (q0.At + 1))), (99, .pointer (some ⟨bm0, 1, none⟩))] [0, 2, 3] (And.intro (And.intro rfl rfl) zrB) fun j => ?_)
   refine zk hO (i := 0) rfl (off := 1) rfl rfl rfl rfl (Nat.le_of_ble_eq_true rfl) rfl fun σ hO => ?_
   have hO := zrS3 hO
   refine zc (zg (za hO 1 [] [(100, zrO b7)] [0, 2, 3] zrA fun j => ?_))
   refine zk hO (i := 2) rfl (off := 0) rfl rfl rfl rfl (Nat.le_of_ble_eq_true rfl) rfl fun σ hO => ?_
   have hO := zrS3 hO
   refine zc (zg (za hO 1 [] [(101, zrO bm0)] [0, 2, 3] zrA fun j => ?_))
   obtain ⟨c441, h442, hF⟩ := zrT hF
   have hO := hO.sel [1, 2, 0]
   refine zn (hs := [_, _]) (vs := [_]) hO (zbT (q0 := (⟨q0.L, (IntKind.i64.wrap (q0.At + 1)), q0.Failed⟩ : zj)) (p1 := (⟨#[40]⟩ : ByteArray)) (rm0_0.le hL) h442) rfl fun _ σ _ _ hO h443 h444 => ?_
   have hL := hL.trans h443
   obtain ⟨v445, rfl, rfl, r448⟩ := h444
   obtain ⟨A446, c447, rfl, -⟩ := r448.form
   have hO := zrS3 hO
   refine zc (zg (za hO 1 [] [(103, zrO bm0)] [0, 2, 3] zrA fun j => ?_))
   obtain ⟨c449, h450, hF⟩ := zrT hF
   refine zn (hs := [_, _]) (vs := [_]) hO (zdA r448 h450) rfl fun _ σ _ _ hO h451 h452 => ?_
   have hL := hL.trans h451
   obtain ⟨v453, v457, rfl, rfl, r454, r460⟩ := h452
   obtain ⟨A455, c456, rfl, -⟩ := r454.form
   obtain ⟨A458, c459, rfl, -⟩ := r460.form
   have hO := zrS3 hO
   refine zB (T := zr) (l := ([(⟨c449.1.Kind, c449.1.Num, c449.1.Name, c449.1.Field, c449.1.Op, c449.1.Kids⟩ : zb)] : List zb)) (cs := [.int .u8 (c449.1.Kind.toNat : Int), .int .i64 c449.1.Num, .string c449.1.Name, .string c449.1.Field, .string c449.1.Op, zrU A455 c449.1.Kids c456]) hO rfl ⟨[.int .u8 (c449.1.Kind.toNat : Int), .int .i64 c449.1.Num, .string c449.1.Name, .string c449.1.Field, .string c449.1.Op, zrU A455 c449.1.Kids c456], _, rfl, (zbI ⟨_, rfl, r454⟩), rfl⟩ rfl (by decide) fun _ σ o463 w464 hO => ?_
   obtain ⟨A461, c462, rfl, -⟩ := w464.form
   have hO := zrS4 hO
   refine za hO 1 [] [(106, .pointer (some ⟨b7, 8, none⟩))] [0, 2, 3, 105] zrB fun j => ?_
   refine zk hO (i := 1) rfl (off := 8) rfl rfl rfl rfl (Nat.le_of_ble_eq_true rfl) rfl fun σ hO => ?_
   have hO := zrS4 hO
   refine zc (zg (za hO 1 [] [(107, zrO bm0)] [0, 2, 3] zrA fun j => ?_))
   obtain ⟨c465, h466, hF⟩ := zrT hF
   have hO := hO.sel [0, 1, 3, 2]
   refine zn (hs := [_, _, _]) (vs := [_]) hO (zbT (p1 := (⟨#[41]⟩ : ByteArray)) r460 h466) rfl fun _ σ _ _ hO h467 h468 => ?_
   have hL := hL.trans h467
   have w464 := w464.le h467
   obtain ⟨v469, rfl, rfl, r472⟩ := h468
   obtain ⟨A470, c471, rfl, -⟩ := r472.form
   have hO := zrS4 hO
   refine zc (za hO 1 [] [(109, zrO bm0)] [0, 2, 3] zrA fun j => ?_)
   obtain ⟨c473, h474, hF⟩ := zrT hF
   refine zn (hs := [_, _, _]) (vs := [_]) hO (zbT (p1 := (⟨#[59]⟩ : ByteArray)) r472 h474) rfl fun _ σ _ _ hO h475 h476 => ?_
   have hL := hL.trans h475
   have w464 := w464.le h475
   obtain ⟨v477, rfl, rfl, r480⟩ := h476
   obtain ⟨A478, c479, rfl, -⟩ := r480.form
   have hO := zrS4 hO
   refine zc (zi (zM (zm ?_)))
   have hO := hO.no
   have hO := zrS5 hO
   have hO := hO.no
   have hO := zrS6 hO
   have hO := hO.sel [3, 0, 1, 2, 4, 5]
   exact ⟨A478, c479, c473.L, c473.At, c473.Failed, 8, (⟨#[]⟩ : ByteArray), (0 : UInt8), 0, (⟨#[]⟩ : ByteArray), A461, c462, o463, ([(⟨c449.1.Kind, c449.1.Num, c449.1.Name, c449.1.Field, c449.1.Op, c449.1.Kids⟩ : zb)] : List zb), none, 0, none, [], none, 0, none, [], _, zrM zry, hO, hL, r480, w464, ze.nil _ _ _, ze.nil _ _ _, hF⟩
  refine zg (za hO 1 [] [(112, zrO bm0)] [0, 2, 3] zrA fun j => ?_)
  obtain ⟨c481, h482, hF⟩ := zrT hF
  have hO := hO.sel [1, 2, 0]
  refine zn (hs := [_, _]) (vs := [_]) hO (zbK (p2 := (⟨#[114, 101, 116, 117, 114, 110]⟩ : ByteArray)) (rm0_0.le hL) h482) rfl fun _ σ _ _ hO h483 h484 => ?_
  have hL := hL.trans h483
  obtain ⟨rfl, rfl⟩ := h484
  have hO := zrS3 hO
  have hO := hO.sel [2, 0, 1]
  have hO := zrS3 hO
  refine zf hO [] [(111, .bool c481)] [0, 2, 3] zrA fun j => ?_
  refine zq hF rfl (fun hF => ?_) fun hF => ?_
  ·refine zg (za hO 7 [0] [(118, zrN (IntKind.i64.wrap (q0.At + 1))), (120, .pointer (some ⟨bm0, 1, none⟩))] [0, 2, 3] (And.intro (And.intro rfl rfl) zrB) fun j => ?_)
   refine zk hO (i := 0) rfl (off := 1) rfl rfl rfl rfl (Nat.le_of_ble_eq_true rfl) rfl fun σ hO => ?_
   have hO := zrS3 hO
   refine zc (zg (za hO 1 [] [(121, zrO b7)] [0, 2, 3] zrA fun j => ?_))
   refine zk hO (i := 2) rfl (off := 0) rfl rfl rfl rfl (Nat.le_of_ble_eq_true rfl) rfl fun σ hO => ?_
   have hO := zrS3 hO
   refine zc (zg (zg (za hO 1 [] [(122, zrO bm0)] [0, 2, 3] zrA fun j => ?_)))
   obtain ⟨c486, h487, hF⟩ := zrT hF
   have hO := hO.sel [1, 2, 0]
   refine zn (hs := [_, _]) (vs := [_]) hO (zbK (q0 := (⟨q0.L, (IntKind.i64.wrap (q0.At + 1)), q0.Failed⟩ : zj)) (p2 := (⟨#[59]⟩ : ByteArray)) (rm0_0.le hL) h487) rfl fun _ σ _ _ hO h488 h489 => ?_
   have hL := hL.trans h488
   obtain ⟨rfl, rfl⟩ := h489
   have hO := zrS3 hO
   have hO := hO.sel [2, 0, 1]
   have hO := zrS3 hO
   refine zf hO [] [(124, .bool (!c486))] [0, 2, 3] zrA fun j => ?_
   refine zq hF rfl (fun hF => ?_) fun hF => ?_
   ·refine za hO 1 [] [(125, zrO bm0)] [0, 2, 3] zrA fun j => ?_
    obtain ⟨c491, h492, hF⟩ := zrT hF
    have hO := hO.sel [1, 2, 0]
    refine zn (hs := [_, _]) (vs := [_]) hO (zdA (q0 := (⟨q0.L, (IntKind.i64.wrap (q0.At + 1)), q0.Failed⟩ : zj)) (rm0_0.le hL) h492) rfl fun _ σ _ _ hO h493 h494 => ?_
    have hL := hL.trans h493
    obtain ⟨v495, v499, rfl, rfl, r496, r502⟩ := h494
    obtain ⟨A497, c498, rfl, -⟩ := r496.form
    obtain ⟨A500, c501, rfl, -⟩ := r502.form
    have hO := zrS3 hO
    refine zB (T := zr) (l := ([(⟨c491.1.Kind, c491.1.Num, c491.1.Name, c491.1.Field, c491.1.Op, c491.1.Kids⟩ : zb)] : List zb)) (cs := [.int .u8 (c491.1.Kind.toNat : Int), .int .i64 c491.1.Num, .string c491.1.Name, .string c491.1.Field, .string c491.1.Op, zrU A497 c491.1.Kids c498]) hO rfl ⟨[.int .u8 (c491.1.Kind.toNat : Int), .int .i64 c491.1.Num, .string c491.1.Name, .string c491.1.Field, .string c491.1.Op, zrU A497 c491.1.Kids c498], _, rfl, (zbI ⟨_, rfl, r496⟩), rfl⟩ rfl (by decide) fun _ σ o505 w506 hO => ?_
    obtain ⟨A503, c504, rfl, -⟩ := w506.form
    have hO := zrS4 hO
    refine zbn hO 1 [] [(0, zrO bm0), (2, zrO b2), (3, zrO b7), (127, zrU A503 ([(⟨c491.1.Kind, c491.1.Num, c491.1.Name, c491.1.Field, c491.1.Op, c491.1.Kids⟩ : zb)] : List zb) c504), (128, .pointer (some ⟨b7, 8, none⟩))] zrB fun j => ?_
    refine zk hO (i := 1) rfl (off := 8) rfl rfl rfl rfl (Nat.le_of_ble_eq_true rfl) rfl fun σ hO => ?_
    have hO := zrS4 hO
    refine zc (za hO 1 [] [(129, zrO bm0)] [0, 2, 3] zrA fun j => ?_)
    obtain ⟨c507, h508, hF⟩ := zrT hF
    have hO := hO.sel [0, 1, 3, 2]
    refine zn (hs := [_, _, _]) (vs := [_]) hO (zbT (p1 := (⟨#[59]⟩ : ByteArray)) r502 h508) rfl fun _ σ _ _ hO h509 h510 => ?_
    have hL := hL.trans h509
    have w506 := w506.le h509
    obtain ⟨v511, rfl, rfl, r514⟩ := h510
    obtain ⟨A512, c513, rfl, -⟩ := r514.form
    have hO := zrS4 hO
    refine zc (zi (zM (zm ?_)))
    have hO := hO.no
    have hO := zrS5 hO
    have hO := hO.no
    have hO := zrS6 hO
    have hO := hO.sel [3, 0, 1, 2, 4, 5]
    exact ⟨A512, c513, c507.L, c507.At, c507.Failed, 10, (⟨#[]⟩ : ByteArray), (0 : UInt8), 0, (⟨#[]⟩ : ByteArray), A503, c504, o505, ([(⟨c491.1.Kind, c491.1.Num, c491.1.Name, c491.1.Field, c491.1.Op, c491.1.Kids⟩ : zb)] : List zb), none, 0, none, [], none, 0, none, [], _, zrM zry, hO, hL, r514, w506, ze.nil _ _ _, ze.nil _ _ _, hF⟩
   refine zz (za hO 1 [] [(129, zrO bm0)] [0, 2, 3] zrA fun j => ?_)
   obtain ⟨c515, h516, hF⟩ := zrT hF
   have hO := hO.sel [1, 2, 0]
   refine zn (hs := [_, _]) (vs := [_]) hO (zbT (q0 := (⟨q0.L, (IntKind.i64.wrap (q0.At + 1)), q0.Failed⟩ : zj)) (p1 := (⟨#[59]⟩ : ByteArray)) (rm0_0.le hL) h516) rfl fun _ σ _ _ hO h517 h518 => ?_
   have hL := hL.trans h517
   obtain ⟨v519, rfl, rfl, r522⟩ := h518
   obtain ⟨A520, c521, rfl, -⟩ := r522.form
   have hO := zrS3 hO
   refine zc (zi (zM (zm ?_)))
   have hO := hO.no
   have hO := zrS4 hO
   have hO := hO.no
   have hO := zrS5 hO
   have hO := hO.no
   have hO := zrS6 hO
   have hO := hO.sel [2, 0, 1, 3, 4, 5]
   exact ⟨A520, c521, c515.L, c515.At, c515.Failed, 10, (⟨#[]⟩ : ByteArray), (0 : UInt8), 0, (⟨#[]⟩ : ByteArray), none, 0, none, [], none, 0, none, [], none, 0, none, [], _, zrM zry, hO, hL, r522, ze.nil _ _ _, ze.nil _ _ _, ze.nil _ _ _, hF⟩
  refine zg (za hO 2 [2] [(7, zrO bm0), (8, .agg #[(.int .u8 0), (.int .i64 c3), (.string (⟨#[]⟩ : ByteArray)), (.string (⟨#[]⟩ : ByteArray)), (.string (⟨#[]⟩ : ByteArray)), (.int .u8 0), (.int .i64 0), (.string (⟨#[]⟩ : ByteArray)), (.slice none 0 0), (.slice none 0 0), (.slice none 0 0)])] [0, 2] (And.intro (And.intro rfl rfl) zrA) fun j => ?_)
  obtain ⟨c523, h524, hF⟩ := zrT hF
  have hO := hO.sel [1, 2, 0]
  refine zn (hs := [_, _]) (vs := [_]) hO (znI (p1 := (⟨(0 : UInt8), c3, (⟨#[]⟩ : ByteArray), (⟨#[]⟩ : ByteArray), (⟨#[]⟩ : ByteArray), (⟨(0 : UInt8), 0, (⟨#[]⟩ : ByteArray)⟩ : zD), [], [], []⟩ : zh)) (rm0_0.le hL) (RdT.nil _ _) (RdT.nil _ _) (RdT.nil _ _) h524) rfl fun _ σ _ _ hO h525 h526 => ?_
  have hL := hL.trans h525
  obtain ⟨v527, v531, v535, v539, rfl, rfl, r528, r532, r536, r542⟩ := h526
  obtain ⟨A529, c530, rfl, -⟩ := r528.form
  obtain ⟨A533, c534, rfl, -⟩ := r532.form
  obtain ⟨A537, c538, rfl, -⟩ := r536.form
  obtain ⟨A540, c541, rfl, -⟩ := r542.form
  have hO := zrS3 hO
  refine zk hO (i := 0) rfl (off := 0) rfl rfl rfl rfl (Nat.le_of_ble_eq_true rfl) rfl fun σ hO => ?_
  have hO := zrS3 hO
  refine zc (z1 (zY (zE ?_)))
  cases hF
  have hV0 := hO.val (i := 0) rfl (off := 0) (agg := true) (n := 11) rfl
  have hO := hO.sel [2]
  exact hQ _ _ _ _ _ (z8 rfl (hV0) rfl) hO hL ⟨_, _, _, _, rfl, rfl, r528, r532, r536, r542⟩
 rintro e σ ⟨A259, c260, x261, x263, x264, x265, x266, x267, x268, x269, A270, c271, o272, x273, A275, c276, o277, x278, A280, c281, o282, x283, _, hA, hO, hL, r262, w274, w279, w284, hF⟩
 rw [← zW _ _ hA]
 unfold zdm at hF
 refine za hO 1 [2] [(131, .agg #[(.int .u8 x265), (.int .i64 c3), (.string x266), (.string (⟨#[]⟩ : ByteArray)), (.string (⟨#[]⟩ : ByteArray)), (.int .u8 (x267.toNat : Int)), (.int .i64 x268), (.string x269), (zrU A270 x273 c271), (zrU A275 x278 c276), (zrU A280 x283 c281)])] [0, 2] (And.intro (And.intro rfl rfl) zrz) fun j => ?_
 refine zk hO (i := 1) rfl (off := 0) rfl rfl rfl rfl (Nat.le_of_ble_eq_true rfl) rfl fun σ hO => ?_
 have hO := zrS6 hO
 refine zc (z3 ?_)
 obtain ⟨_, h286, r285, hO⟩ := w274.share hO (i := 3) rfl
 have hL := hL.trans h286
 have w279 := w279.le h286
 have w284 := w284.le h286
 have r262 := r262.le h286
 have hO := zrS6 hO
 obtain ⟨_, h288, r287, hO⟩ := w279.share hO (i := 4) rfl
 have hL := hL.trans h288
 have r285 := r285.le h288
 have w284 := w284.le h288
 have r262 := r262.le h288
 have hO := zrS6 hO
 obtain ⟨_, h290, r289, hO⟩ := w284.share hO (i := 5) rfl
 have hL := hL.trans h290
 have r285 := r285.le h290
 have r287 := r287.le h290
 have r262 := r262.le h290
 have hO := zrS6 hO
 obtain ⟨z291, hz291, hF⟩ := zrT hF
 cases hF
 have hV0 := hO.val (i := 1) rfl (off := 0) (agg := true) (n := 11) rfl
 have hO := hO.sel [0]
 exact hQ _ _ _ _ _ (z8 rfl (hV0) rfl) hO hL ⟨_, _, _, _, (by first | rfl | (simp only [zh9 hz291]; done) | (simp only [← zh9 hz291]; try rfl)), (by first | rfl | (simp only [zh9 hz291]; done) | (simp only [← zh9 hz291]; try rfl)), r285, r287, r289, r262⟩
theorem zog (n : Nat) : zj6 n ∧ zkH n := by
 induction n with
 | zero =>
  refine ⟨?_, ?_⟩
  ·intro τ q0 bm0 vm0_0 rm0_0 rr hF; exact nomatch (show none = some rr from hF)
  ·intro τ q0 bm0 vm0_0 rm0_0 rr hF; exact nomatch (show none = some rr from hF)
 | succ n ih =>
  obtain ⟨i0, i1⟩ := ih
  refine ⟨?_, ?_⟩
  ·intro τ q0 bm0 vm0_0 rm0_0 rr hF; exact zob i0 i1 rm0_0 hF
  ·intro τ q0 bm0 vm0_0 rm0_0 rr hF; exact znq i0 i1 rm0_0 hF
theorem zp8 : ∀ {τ : Hp} {q0 : zj} {bm0 : Nat} {vm0_0 : Value} (rm0_0 : RdT zl τ vm0_0 q0.L) {rr : (List zh) × zj} (hF : zfh q0 = some rr), Ctr Try.prog 49 #[.pointer (some ⟨bm0, 0, none⟩)] τ [zba bm0 vm0_0 q0.At q0.Failed] (fun v τ' vs' => ∃ (v0 : Value) (o0 : Ob) (u0_0 : Value), v = v0 ∧ vs' = [o0, zba bm0 u0_0 rr.2.At rr.2.Failed] ∧ ze zv 53 τ' v0 rr.1 o0 ∧ RdT zl τ' u0_0 rr.2.L) := (zog big).1
end Go.Proofs.Ytnhboaaikehpoaa
