import Derived.Test.YtakcaekikfcbpaaG3
namespace Go.Proofs.Ytakcaekikfcbpaa
open Go.Ab Go.RowKit
set_option linter.unusedVariables false
set_option linter.unusedSimpArgs false
set_option maxRecDepth 10000
set_option maxHeartbeats 1000000
def zip (gn : Nat) : Prop := ∀ {τ : Hp} {v0 : Value} {p0 : (List Bool)} {p1 q2 : Int} {bm2 : Nat} {q3 : Bool} {bm3 : Nat} (r0 : RdT Ty.bool τ v0 p0) {rr : (List zg) × Int × Bool} (hF : (zdW gn) p0 p1 q2 q3 = some rr), Ctr Try.prog 20 #[v0, .int .i64 p1, .pointer (some ⟨bm2, 0, none⟩), .pointer (some ⟨bm3, 0, none⟩)] τ [some (bm2, ⟨[.int .i64 q2], 3, 1, true⟩), some (bm3, ⟨[.bool q3], 4, 1, true⟩)] (fun v τ' vs' => ∃ (v0 : Value) (o0 : Ob), v = v0 ∧ vs' = [o0, some (bm2, ⟨[.int .i64 rr.2.1], 3, 1, true⟩), some (bm3, ⟨[.bool rr.2.2], 4, 1, true⟩)] ∧ za zX 73 τ' v0 rr.1 o0)
theorem zl7 {gn : Nat} (ih_law13_tower : zip gn) {τ : Hp} {U : Value} {p0 : (List Bool)} {p1 S : Int} {k : Nat} {q3 : Bool} {o : Nat} (r0 : RdT Ty.bool τ U p0) {rr : (List zg) × Int × Bool} (hF : zdU (zdW gn) p0 p1 S q3 = some rr) :
  Ctr Try.prog 20 #[U, .int .i64 p1, .pointer (some ⟨k, 0, none⟩), .pointer (some ⟨o, 0, none⟩)] τ [some (k, ⟨[.int .i64 S], 3, 1, true⟩), some (o, ⟨[.bool q3], 4, 1, true⟩)] (fun v τ' vs' => ∃ (U : Value) (o0 : Ob), v = U ∧ vs' = [o0, some (k, ⟨[.int .i64 rr.2.1], 3, 1, true⟩), some (o, ⟨[.bool rr.2.2], 4, 1, true⟩)] ∧ za zX 73 τ' U rr.1 o0) := by
 obtain ⟨A0, c0, rfl, -⟩ := r0.form
 refine zbh (args := [.slice A0 p0.length c0, .int .i64 p1, .pointer (some ⟨k, 0, none⟩), .pointer (some ⟨o, 0, none⟩)]) hm Try.func20 s20 rfl fun w0 σ hO Q hQ => ?_
 unfold zdU at hF
 have hL := Hp.le.refl τ
 show wpn _ _ a20.body _ _ _
 unfold a20
 dsimp only
 refine ze hO [] [] [0, 1, 2, 3] znz fun j => ?_
 refine zl (ze hO [] [(11, .bool (p1 == 0))] [0, 1, 2, 3] znA fun j => ?_)
 refine zB hF rfl (fun hF => ?_) fun hF => ?_
 ·refine zl (ze hO [0] [(9, znM S)] [0, 2, 3] (And.intro (And.intro rfl rfl) znz) fun j => ?_)
  refine zl (zd hO 4 [] [(17, znM (IntKind.i64.wrap (S + 1))), (18, znN k)] [0, 2, 3, 9] znB fun j => ?_)
  refine zy hO (i := 0) rfl (off := 0) rfl rfl rfl rfl (Nat.le_of_ble_eq_true rfl) rfl fun σ hO => ?_
  have hO := znR2 hO
  refine zf (zl (zl (zd hO 5 [] [(23, .bool (decide (S < (p0.length : Int))))] [0, 2, 3, 9] znA fun j => ?_)))
  obtain ⟨c6, h7, hF⟩ := znS hF
  refine zfj 2 [(28, .bool c6), (2, znN k), (3, znN o)] (fun Q hQ => ?_) fun j => ?_
  ·have hF := h7
   rcases zbQ hF with ⟨D, hF⟩ | ⟨D, hF⟩
   ·refine zbr (znQ D) ?_
    refine zd hO 2 [] [(24, znT A0 p0 c0), (25, znM S)] [2, 3, 23] znA fun j => ?_
    obtain ⟨y9, f3, hF⟩ := znS hF
    refine zbw (T := Ty.bool) (r0.le hL) hO.base rfl rfl f3 (by decide) fun a11 _ f4 f5 => ?_
    obtain rfl : _ = ([.bool y9] : List Value) := f4
    refine zbb rfl (f5.le hO.base).fst ?_
    refine zZ (znO D) ?_
    refine zf ?_
    cases hF
    refine zh ?_
    exact hQ _ zny
   refine zbz (znQ D) ?_
   refine zZ (znO D) ?_
   refine zf ?_
   cases hF
   refine zh ?_
   exact hQ _ zny
  refine zf (zB hF rfl (fun hF => ?_) fun hF => ?_)
  ·refine zl ?_
   obtain ⟨g, f6, hF⟩ := znS hF
   refine zT hO (zdc f6) rfl fun _ σ _ _ hO f7 f8 => ?_
   have hL := hL.trans f7
   obtain ⟨i1, rfl, rfl, c4⟩ := f8
   obtain ⟨c5, c7, rfl, -⟩ := c4.form
   have hO := znR2 hO
   refine zbq (T := z5) (l := ([(⟨g.Kind, g.Num, g.Name, g.Field, g.Op, g.Kids⟩ : zc)] : List zc)) (cs := [.int .u8 (g.Kind.toNat : Int), .int .i64 g.Num, .string g.Name, .string g.Field, .string g.Op, znT c5 g.Kids c7]) hO rfl ⟨[.int .u8 (g.Kind.toNat : Int), .int .i64 g.Num, .string g.Name, .string g.Field, .string g.Op, znT c5 g.Kids c7], _, rfl, (zca ⟨_, rfl, c4⟩), rfl⟩ rfl (by decide) fun _ σ i2 c8 hO => ?_
   obtain ⟨V, W, rfl, -⟩ := c8.form
   have hO := znR3 hO
   refine zd hO 1 [] [(31, .agg #[(.int .u8 10), (.int .i64 0), (.string znk), (.string znk), (.string znk), (.int .u8 0), (.int .i64 0), (.string znk), (znT V ([(⟨g.Kind, g.Num, g.Name, g.Field, g.Op, g.Kids⟩ : zc)] : List zc) W), (.slice none 0 0), (.slice none 0 0)])] [2, 3] zny fun j => ?_
   obtain ⟨_, f9, g0, hO⟩ := c8.share hO (i := 2) rfl
   have hL := hL.trans f9
   have hO := znR3 hO
   refine zbq (T := zX) (l := ([(⟨(10 : UInt8), 0, znk, znk, znk, (⟨(0 : UInt8), 0, znk⟩ : zx), ([(⟨g.Kind, g.Num, g.Name, g.Field, g.Op, g.Kids⟩ : zc)] : List zc), [], []⟩ : zg)] : List zg)) (cs := [.int .u8 10, .int .i64 0, .string znk, .string znk, .string znk, .int .u8 0, .int .i64 0, .string znk, znT V ([(⟨g.Kind, g.Num, g.Name, g.Field, g.Op, g.Kids⟩ : zc)] : List zc) W, .slice none 0 0, .slice none 0 0]) hO rfl ⟨[.int .u8 10, .int .i64 0, .string znk, .string znk, .string znk, .int .u8 0, .int .i64 0, .string znk, znT V ([(⟨g.Kind, g.Num, g.Name, g.Field, g.Op, g.Kids⟩ : zc)] : List zc) W, .slice none 0 0, .slice none 0 0], _, rfl, (zcj ⟨_, _, _, rfl, g0, RdT.nil _ _, RdT.nil _ _⟩), rfl⟩ rfl (by decide) fun _ σ i3 c9 hO => ?_
   obtain ⟨g1, g2, rfl, -⟩ := c9.form
   have hO := znR4 hO
   refine ze hO [] [(8, .slice g1 ([(⟨(10 : UInt8), 0, znk, znk, znk, (⟨(0 : UInt8), 0, znk⟩ : zx), ([(⟨g.Kind, g.Num, g.Name, g.Field, g.Op, g.Kids⟩ : zc)] : List zc), [], []⟩ : zg)] : List zg).length g2)] [2, 3] zny fun j => ?_
   refine zbt ?_
   cases hF
   have hO := hO.sel [3, 0, 1]
   exact hQ _ _ _ _ _ rfl hO hL ⟨_, _, rfl, rfl, c9⟩
  refine zI (zl (zd hO 2 [] [(34, znN o)] [2, 3] zny fun j => ?_))
  refine zy hO (i := 1) rfl (off := 0) rfl rfl rfl rfl (Nat.le_of_ble_eq_true rfl) rfl fun σ hO => ?_
  have hO := znR2 hO
  refine zf (zl ?_)
  obtain ⟨h, g3, hF⟩ := znS hF
  refine zT hO (zdc g3) rfl fun _ σ _ _ hO g4 g5 => ?_
  have hL := hL.trans g4
  obtain ⟨i4, rfl, rfl, d0⟩ := g5
  obtain ⟨d5, d6, rfl, -⟩ := d0.form
  have hO := znR2 hO
  refine zbq (T := z5) (l := ([(⟨h.Kind, h.Num, h.Name, h.Field, h.Op, h.Kids⟩ : zc)] : List zc)) (cs := [.int .u8 (h.Kind.toNat : Int), .int .i64 h.Num, .string h.Name, .string h.Field, .string h.Op, znT d5 h.Kids d6]) hO rfl ⟨[.int .u8 (h.Kind.toNat : Int), .int .i64 h.Num, .string h.Name, .string h.Field, .string h.Op, znT d5 h.Kids d6], _, rfl, (zca ⟨_, rfl, d0⟩), rfl⟩ rfl (by decide) fun _ σ i5 d7 hO => ?_
  obtain ⟨X, Y, rfl, -⟩ := d7.form
  have hO := znR3 hO
  refine zd hO 1 [] [(37, .agg #[(.int .u8 8), (.int .i64 0), (.string znk), (.string znk), (.string znk), (.int .u8 0), (.int .i64 0), (.string znk), (znT X ([(⟨h.Kind, h.Num, h.Name, h.Field, h.Op, h.Kids⟩ : zc)] : List zc) Y), (.slice none 0 0), (.slice none 0 0)])] [2, 3] zny fun j => ?_
  obtain ⟨_, g6, g7, hO⟩ := d7.share hO (i := 2) rfl
  have hL := hL.trans g6
  have hO := znR3 hO
  refine zbq (T := zX) (l := ([(⟨(8 : UInt8), 0, znk, znk, znk, (⟨(0 : UInt8), 0, znk⟩ : zx), ([(⟨h.Kind, h.Num, h.Name, h.Field, h.Op, h.Kids⟩ : zc)] : List zc), [], []⟩ : zg)] : List zg)) (cs := [.int .u8 8, .int .i64 0, .string znk, .string znk, .string znk, .int .u8 0, .int .i64 0, .string znk, znT X ([(⟨h.Kind, h.Num, h.Name, h.Field, h.Op, h.Kids⟩ : zc)] : List zc) Y, .slice none 0 0, .slice none 0 0]) hO rfl ⟨[.int .u8 8, .int .i64 0, .string znk, .string znk, .string znk, .int .u8 0, .int .i64 0, .string znk, znT X ([(⟨h.Kind, h.Num, h.Name, h.Field, h.Op, h.Kids⟩ : zc)] : List zc) Y, .slice none 0 0, .slice none 0 0], _, rfl, (zcj ⟨_, _, _, rfl, g7, RdT.nil _ _, RdT.nil _ _⟩), rfl⟩ rfl (by decide) fun _ σ i6 d8 hO => ?_
  obtain ⟨g8, g9, rfl, -⟩ := d8.form
  have hO := znR4 hO
  refine ze hO [] [(8, .slice g8 ([(⟨(8 : UInt8), 0, znk, znk, znk, (⟨(0 : UInt8), 0, znk⟩ : zx), ([(⟨h.Kind, h.Num, h.Name, h.Field, h.Op, h.Kids⟩ : zc)] : List zc), [], []⟩ : zg)] : List zg).length g9)] [2, 3] zny fun j => ?_
  refine zbt ?_
  cases hF
  have hO := hO.sel [3, 0, 1]
  exact hQ _ _ _ _ _ rfl hO hL ⟨_, _, rfl, rfl, d8⟩
 refine zI (zd hO 1 [] [(39, .agg #[(.int .u8 2), (.int .i64 1), (.string znk), (.string znk), (.string znk), (.slice none 0 0)])] [0, 1, 2, 3] znA fun j => ?_)
 refine zbq (T := z5) (l := ([(⟨(2 : UInt8), 1, znk, znk, znk, []⟩ : zc)] : List zc)) (cs := [.int .u8 2, .int .i64 1, .string znk, .string znk, .string znk, .slice none 0 0]) hO rfl ⟨[.int .u8 2, .int .i64 1, .string znk, .string znk, .string znk, .slice none 0 0], _, rfl, (zca ⟨_, rfl, RdT.nil _ _⟩), rfl⟩ rfl (by decide) fun _ σ i7 q hO => ?_
 obtain ⟨Z, b0, rfl, -⟩ := q.form
 have hO := znR3 hO
 refine zd hO 5 [] [(41, znT A0 p0 c0), (43, znM (IntKind.i64.wrap (p1 - 1))), (44, znN k), (45, znN o)] [0, 1, 2, 3, 40] znE fun j => ?_
 obtain ⟨E, h0, hF⟩ := znS hF
 have hO := hO.sel [2, 0, 1]
 refine zbM (hs := [_]) hO (ih_law13_tower (r0.le hL) h0) rfl fun _ σ _ _ hO d9 h1 => ?_
 have hL := hL.trans d9
 have q := q.le d9
 obtain ⟨i8, i9, rfl, rfl, z⟩ := h1
 obtain ⟨b1, b2, rfl, -⟩ := z.form
 have hO := znR4 hO
 refine zd hO 5 [] [(47, znT A0 p0 c0), (49, znM (IntKind.i64.wrap (p1 - 1))), (50, znN k), (51, znN o)] [2, 3, 40, 46] znD fun j => ?_
 obtain ⟨G, h2, hF⟩ := znS hF
 refine zbM (hs := [_, _]) hO (ih_law13_tower (r0.le hL) h2) rfl fun _ σ _ _ hO b3 h3 => ?_
 have hL := hL.trans b3
 have q := q.le b3
 have z := z.le b3
 obtain ⟨j0, j1, rfl, rfl, B⟩ := h3
 obtain ⟨b4, b5, rfl, -⟩ := B.form
 have hO := znR5 hO
 refine zd hO 1 [] [(53, .agg #[(.int .u8 6), (.int .i64 0), (.string znk), (.string znk), (.string znk), (.int .u8 0), (.int .i64 0), (.string znk), (znT Z ([(⟨(2 : UInt8), 1, znk, znk, znk, []⟩ : zc)] : List zc) b0), (znT b1 E.1 b2), (znT b4 G.1 b5)])] [2, 3] zny fun j => ?_
 obtain ⟨_, b6, I, hO⟩ := q.share hO (i := 0) rfl
 have hL := hL.trans b6
 have z := z.le b6
 have B := B.le b6
 have hO := znR5 hO
 obtain ⟨_, b7, b8, hO⟩ := z.share hO (i := 1) rfl
 have hL := hL.trans b7
 have I := I.le b7
 have B := B.le b7
 have hO := znR5 hO
 obtain ⟨_, b9, h4, hO⟩ := B.share hO (i := 2) rfl
 have hL := hL.trans b9
 have I := I.le b9
 have b8 := b8.le b9
 have hO := znR5 hO
 refine zbq (T := zX) (l := ([(⟨(6 : UInt8), 0, znk, znk, znk, (⟨(0 : UInt8), 0, znk⟩ : zx), ([(⟨(2 : UInt8), 1, znk, znk, znk, []⟩ : zc)] : List zc), E.1, G.1⟩ : zg)] : List zg)) (cs := [.int .u8 6, .int .i64 0, .string znk, .string znk, .string znk, .int .u8 0, .int .i64 0, .string znk, znT Z ([(⟨(2 : UInt8), 1, znk, znk, znk, []⟩ : zc)] : List zc) b0, znT b1 E.1 b2, znT b4 G.1 b5]) hO rfl ⟨[.int .u8 6, .int .i64 0, .string znk, .string znk, .string znk, .int .u8 0, .int .i64 0, .string znk, znT Z ([(⟨(2 : UInt8), 1, znk, znk, znk, []⟩ : zc)] : List zc) b0, znT b1 E.1 b2, znT b4 G.1 b5], _, rfl, (zcj ⟨_, _, _, rfl, I, b8, h4⟩), rfl⟩ rfl (by decide) fun _ σ j2 f0 hO => ?_
 obtain ⟨h5, h6, rfl, -⟩ := f0.form
 have hO := znR6 hO
 refine ze hO [] [(8, .slice h5 ([(⟨(6 : UInt8), 0, znk, znk, znk, (⟨(0 : UInt8), 0, znk⟩ : zx), ([(⟨(2 : UInt8), 1, znk, znk, znk, []⟩ : zc)] : List zc), E.1, G.1⟩ : zg)] : List zg).length h6)] [2, 3] zny fun j => ?_
 refine zW ?_
 cases hF
 have hO := hO.sel [5, 3, 4]
 exact hQ _ _ _ _ _ rfl hO hL ⟨_, _, rfl, rfl, f0⟩
theorem zki (n : Nat) : zip n := by
 induction n with
 | zero =>
  intro τ k p0 p1 o g q h j rr hF; exact nomatch (show none = some rr from hF)
 | succ n ih =>
  intro τ k p0 p1 o g q h j rr hF; exact zl7 ih j hF
theorem zmN : ∀ {τ : Hp} {g : Value} {p0 : (List Bool)} {p1 k : Int} {h : Nat} {o : Bool} {j : Nat} (z : RdT Ty.bool τ g p0) {rr : (List zg) × Int × Bool} (hF : zie p0 p1 k o = some rr), Ctr Try.prog 20 #[g, .int .i64 p1, .pointer (some ⟨h, 0, none⟩), .pointer (some ⟨j, 0, none⟩)] τ [some (h, ⟨[.int .i64 k], 3, 1, true⟩), some (j, ⟨[.bool o], 4, 1, true⟩)] (fun v τ' vs' => ∃ (g : Value) (q : Ob), v = g ∧ vs' = [q, some (h, ⟨[.int .i64 rr.2.1], 3, 1, true⟩), some (j, ⟨[.bool rr.2.2], 4, 1, true⟩)] ∧ za zX 73 τ' g rr.1 q) := (zki big)
theorem zkN {τ : Hp} {X : Value} {p0 : (List Bool)} {p1 : Int} (Y : RdT Ty.bool τ X p0) {rr : Bool} (hF : zfE p0 p1 = some rr) :
  Ctr Try.prog 5 #[X, .int .u8 p1] τ [] (fun v τ' vs' => v = .bool rr ∧ vs' = []) := by
 obtain ⟨Z, c0, rfl, -⟩ := Y.form
 refine zbh (args := [.slice Z p0.length c0, .int .u8 p1]) hm Try.func5 s5 rfl fun w0 σ hO Q hQ => ?_
 unfold zfE at hF
 have hL := Hp.le.refl τ
 show wpn _ _ a5.body _ _ _
 unfold a5
 dsimp only
 refine ze hO [] [] [0, 1] ⟨rfl, rfl, trivial⟩ fun j => ?_
 refine zl (ze hO [] [(15, .bool (decide ((p0.length : Int) > 64)))] [0, 1] ⟨rfl, rfl, rfl, trivial⟩ fun j => ?_)
 refine zB hF rfl (fun hF => ?_) fun hF => ?_
 ·refine zl (zT hO (zg8 hF) rfl fun _ σ _ _ hO o q => ?_)
  have hL := hL.trans o
  obtain ⟨rfl, rfl⟩ := q
  have hO : Obs _ _ [] := hO
  refine zz hO [] [(4, .bool rr)] ⟨rfl, trivial⟩ fun j => ?_
  refine zbt ?_
  exact hQ _ _ _ _ _ rfl hO hL ⟨rfl, rfl⟩
 refine zI (ze hO [] [(5, znM (Int.tmod (IntKind.i64.wrap p1) 5))] [0] ⟨rfl, rfl, trivial⟩ fun j => ?_)
 refine zbg hO fun b6 σ hO => ?_
 have hO := znR1 hO
 refine zy hO (i := 0) rfl (off := 0) rfl rfl rfl rfl (Nat.le_of_ble_eq_true rfl) rfl fun σ hO => ?_
 have hO := znR1 hO
 refine zf (zbg hO fun g σ hO => ?_)
 have hO := znR2 hO
 refine zy hO (i := 1) rfl (off := 0) rfl rfl rfl rfl (Nat.le_of_ble_eq_true rfl) rfl fun σ hO => ?_
 have hO : Obs _ _ [some (b6, ⟨[.int .i64 0], 3, 1, true⟩), some (g, ⟨[.bool true], 4, 1, true⟩)] := hO
 refine zf (zF hO 2 [] [(6, znN b6), (7, znN g), (20, znT Z p0 c0), (21, znM (Int.tmod (IntKind.i64.wrap p1) 5))] ⟨rfl, rfl, rfl, rfl, trivial⟩ fun j => ?_)
 obtain ⟨c, hc, hF⟩ := znS hF
 refine zbM (hs := []) hO (zmN (Y.le hL) hc) rfl fun _ σ _ _ hO o q => ?_
 have hL := hL.trans o
 obtain ⟨v8, o8, rfl, rfl, D⟩ := q
 obtain ⟨A8, c8, rfl, -⟩ := D.form
 have hO := znR3 hO
 refine zz hO [] [(7, znN g), (8, znT A8 c.1 c8)] ⟨rfl, rfl, trivial⟩ fun j => ?_
 obtain ⟨pl, hpl, hF⟩ := znS hF
 refine zT hO (zgU hpl) rfl fun _ σ _ _ hO h3 h4 => ?_
 have hL := hL.trans h3
 have D := D.le h3
 obtain ⟨bF, bL, bK, I, S, x, U, inn, V, rfl, rfl, h, z, k, rfl⟩ := h4
 have hO := znR6 hO
 refine zbg hO fun W σ hO => ?_
 have hO := znR7 hO
 refine zy hO (i := 6) rfl (off := 0) rfl rfl rfl rfl (Nat.le_of_ble_eq_true rfl) rfl fun σ hO => ?_
 have hO : Obs _ _ [_, _, _, some (bF, ⟨[.string znm, .int .i64 1, .slice none 0 0, .int .u8 0, .int .i64 0, .string znk, .slice (some ⟨bL, 0, none⟩) 2 2], 53, 7, true⟩), some (bL, ⟨[.int .u8 1, .int .i64 1, .string znl, .string znk, .string znk, .int .u8 1, .int .i64 0, .string znk, S, .slice none 0 0, .slice none 0 0, .int .u8 7, .int .i64 2, .string znk, .string znk, .string znk, .int .u8 0, .int .i64 0, .string znk, .slice (some ⟨bK, 0, none⟩) 1 1, V, .slice none 0 0], 73, 22, true⟩), some (bK, ⟨[.int .u8 (x.Kind.toNat : Int), .int .i64 x.Num, .string x.Name, .string x.Field, .string x.Op, U], 71, 6, true⟩), _] := hO
 refine zf (zF hO 5 [6] [(7, znN g), (9, znN W), (25, .slice (some ⟨bF, 0, none⟩) 1 1), (28, .agg #[.string zno, .int .i64 9, .slice none 0 0, .int .u8 1, .int .i64 0, .string znk, znT A8 c.1 c8])] ⟨⟨rfl, rfl⟩, rfl, rfl, rfl, rfl, trivial⟩ fun j => ?_)
 obtain ⟨_, E, B, hO⟩ := D.share hO (i := 0) rfl
 have hL := hL.trans E
 have h := h.le E
 have k := k.le E
 have z := z.le E
 have hO : Obs _ _ [_, _, _, some (bF, ⟨[.string znm, .int .i64 1, .slice none 0 0, .int .u8 0, .int .i64 0, .string znk, .slice (some ⟨bL, 0, none⟩) 2 2], 53, 7, true⟩), some (bL, ⟨[.int .u8 1, .int .i64 1, .string znl, .string znk, .string znk, .int .u8 1, .int .i64 0, .string znk, S, .slice none 0 0, .slice none 0 0, .int .u8 7, .int .i64 2, .string znk, .string znk, .string znk, .int .u8 0, .int .i64 0, .string znk, .slice (some ⟨bK, 0, none⟩) 1 1, V, .slice none 0 0], 73, 22, true⟩), some (bK, ⟨[.int .u8 (x.Kind.toNat : Int), .int .i64 x.Num, .string x.Name, .string x.Field, .string x.Op, U], 71, 6, true⟩), _] := hO
 obtain ⟨_, G, rK, hO⟩ := (za.ofRow (T := z5) (l := [⟨x.Kind, x.Num, x.Name, x.Field, x.Op, x.Kids⟩]) (n := 1) (ty := 71) (bb := bK) ⟨[.int .u8 (x.Kind.toNat : Int), .int .i64 x.Num, .string x.Name, .string x.Field, .string x.Op, U], _, rfl, zca ⟨_, rfl, z⟩, rfl⟩ rfl rfl (by decide)).share hO (i := 5) rfl
 have hL := hL.trans G
 have h := h.le G
 have k := k.le G
 have B := B.le G
 have hO := znR7 hO
 obtain ⟨_, h7, rL, hO⟩ := (za.ofRow (T := zX) (l := [⟨1, 1, znl, znk, znk, ⟨1, 0, znk⟩, I, [], []⟩, ⟨7, 2, znk, znk, znk, ⟨0, 0, znk⟩, [⟨x.Kind, x.Num, x.Name, x.Field, x.Op, x.Kids⟩], inn, []⟩]) (n := 2) (ty := 73) (bb := bL) ⟨[.int .u8 1, .int .i64 1, .string znl, .string znk, .string znk, .int .u8 1, .int .i64 0, .string znk, S, .slice none 0 0, .slice none 0 0], _, rfl, zcj ⟨_, _, _, rfl, h, RdT.nil _ _, RdT.nil _ _⟩, ⟨[.int .u8 7, .int .i64 2, .string znk, .string znk, .string znk, .int .u8 0, .int .i64 0, .string znk, .slice (some ⟨bK, 0, none⟩) 1 1, V, .slice none 0 0], _, rfl, zcj ⟨_, _, _, rfl, rK, k, RdT.nil _ _⟩, rfl⟩⟩ rfl rfl (by decide)).share hO (i := 4) rfl
 have hL := hL.trans h7
 have B := B.le h7
 have hO := znR7 hO
 obtain ⟨_, hr, hF⟩ := znS hF
 refine zdh (T := zr) (y := (⟨zno, 9, [], ⟨1, 0, znk⟩, c.1⟩ : zP)) hO (za.ofRow (T := zr) (l := [⟨znm, 1, [], ⟨0, 0, znk⟩, [⟨1, 1, znl, znk, znk, ⟨1, 0, znk⟩, I, [], []⟩, ⟨7, 2, znk, znk, znk, ⟨0, 0, znk⟩, [⟨x.Kind, x.Num, x.Name, x.Field, x.Op, x.Kids⟩], inn, []⟩]⟩]) (n := 1) (ty := 53) (bb := bF) ⟨[.string znm, .int .i64 1, .slice none 0 0, .int .u8 0, .int .i64 0, .string znk, .slice (some ⟨bL, 0, none⟩) 2 2], _, rfl, ⟨_, _, rfl, RdT.nil _ _, rL⟩, rfl⟩ rfl rfl (by decide)) (i := 3) rfl rfl (fun _ => rfl) rfl ⟨_, _, rfl, RdT.nil _ _, B⟩ rfl hr (by decide) fun u _ σ oF wF hO => ?_
 obtain ⟨AF, cF, rfl, -⟩ := wF.form
 have hO := znR7 hO
 refine zF hO 1 [] [(7, znN g), (9, znN W), (30, .slice AF 2 cF), (31, .pointer (some ⟨W, 1, none⟩))] ⟨rfl, rfl, rfl, rfl, trivial⟩ fun j => ?_
 refine zy hO (i := 6) rfl (off := 1) rfl rfl rfl rfl (Nat.le_of_ble_eq_true rfl) rfl fun σ hO => ?_
 have hO := znR7 hO
 refine zf (zF hO 1 [6] [(7, znN g), (33, .agg #[.slice none 0 0, .slice AF 2 cF])] ⟨⟨rfl, rfl⟩, rfl, rfl, trivial⟩ fun j => ?_)
 obtain ⟨_, h8, rF, hO⟩ := wF.share hO (i := 3) rfl
 have hL := hL.trans h8
 have hO := znR7 hO
 obtain ⟨r, hr, hF⟩ := znS hF
 refine zT hO (zft (p0 := ⟨[], [⟨znm, 1, [], ⟨0, 0, znk⟩, [⟨1, 1, znl, znk, znk, ⟨1, 0, znk⟩, I, [], []⟩, ⟨7, 2, znk, znk, znk, ⟨0, 0, znk⟩, [⟨x.Kind, x.Num, x.Name, x.Field, x.Op, x.Kids⟩], inn, []⟩]⟩] ++ [(⟨zno, 9, [], ⟨1, 0, znk⟩, c.1⟩ : zP)]⟩) (RdT.nil _ _) rF hr) rfl fun _ σ _ _ hO h9 b8 => ?_
 have hL := hL.trans h9
 obtain ⟨d5, d6, rfl, rfl, g1, g2⟩ := b8
 obtain ⟨c1, c2, rfl, -⟩ := g1.form
 obtain ⟨c3, c4, rfl, -⟩ := g2.form
 have hO := znR7 hO
 refine zF hO 4 [] [(7, znN g), (35, .agg #[znT c1 r.1.Bodies c2, .int .i64 r.1.Main, znT c3 r.1.Points c4]), (36, znM r.2.1), (37, znM r.2.2)] ⟨rfl, rfl, rfl, rfl, trivial⟩ fun j => ?_
 refine zbg hO fun d7 σ hO => ?_
 have hO := znR8 hO
 refine zy hO (i := 7) rfl (off := 0) rfl rfl rfl rfl (Nat.le_of_ble_eq_true rfl) rfl fun σ hO => ?_
 have hO := hO.sel [2]
 have hO : Obs _ _ [some (g, ⟨[.bool c.2.2], 4, 1, true⟩)] := hO
 refine zz hO [] [(7, znN g), (11, znM r.2.1), (12, znM r.2.2)] ⟨rfl, rfl, rfl, trivial⟩ fun j => ?_
 refine zl (zz hO [0] [(11, znM r.2.1), (12, znM r.2.2), (38, .bool c.2.2)] ⟨⟨rfl, rfl⟩, rfl, rfl, rfl, trivial⟩ fun j => ?_)
 refine zB hF rfl (fun hF => ?_) fun hF => ?_
 ·refine zl (zF hO 3 [] [(41, .bool (r.2.2 == 0))] ⟨rfl, trivial⟩ fun j => ?_)
  rcases zbQ hF with ⟨hb, hF⟩ | ⟨hb, hF⟩
  ·refine zbr (znQ hb) ?_
   refine zT hO (zg8 hF) rfl fun _ σ _ _ hO o q => ?_
   have hL := hL.trans o
   obtain ⟨rfl, rfl⟩ := q
   have hO := znR1 hO
   refine zZ (znO hb) ?_
   refine zz hO [] [(4, .bool rr)] ⟨rfl, trivial⟩ fun j => ?_
   refine zbt ?_
   have hO := hO.sel []
   exact hQ _ _ _ _ _ rfl hO hL ⟨rfl, rfl⟩
  ·refine zbz (znQ hb) ?_
   cases hF
   refine zZ (znO hb) ?_
   refine zz hO [] [(4, .bool false)] ⟨rfl, trivial⟩ fun j => ?_
   refine zbt ?_
   have hO := hO.sel []
   exact hQ _ _ _ _ _ rfl hO hL ⟨rfl, rfl⟩
 refine zI (zF hO 6 [] [(50, .bool ((r.2.1 == 1) && (r.2.2 == 10)))] ⟨⟨rfl, rfl⟩, fun _ => ⟨rfl, trivial⟩⟩ fun j => ?_)
 rcases zbQ hF with ⟨hb, hF⟩ | ⟨hb, hF⟩
 ·refine zbr (znQ hb) ?_
  refine zT hO (zg8 hF) rfl fun _ σ _ _ hO o q => ?_
  have hL := hL.trans o
  obtain ⟨rfl, rfl⟩ := q
  have hO := znR1 hO
  refine zZ (znO hb) ?_
  refine zz hO [] [(4, .bool rr)] ⟨rfl, trivial⟩ fun j => ?_
  refine zW ?_
  have hO := hO.sel []
  exact hQ _ _ _ _ _ rfl hO hL ⟨rfl, rfl⟩
 ·refine zbz (znQ hb) ?_
  cases hF
  refine zZ (znO hb) ?_
  refine zz hO [] [(4, .bool false)] ⟨rfl, trivial⟩ fun j => ?_
  refine zW ?_
  have hO := hO.sel []
  exact hQ _ _ _ _ _ rfl hO hL ⟨rfl, rfl⟩
end Go.Proofs.Ytakcaekikfcbpaa
