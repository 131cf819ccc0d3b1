import Derived.Test.YtakcaekikfcbpaaG4
namespace Go.Proofs.Ytakcaekikfcbpaa
open Go.Ab Go.RowKit
set_option linter.unusedVariables false
set_option linter.unusedSimpArgs false
set_option maxRecDepth 10000
set_option maxHeartbeats 1000000
theorem zee {P : Program} {w0 : Base} {e : Env} {σ : Hp} {x : Opd} {v : Value} {l : List UInt8} {d : Nat} (h : RdT Ty.u8 σ v l) (hx : ev e x = v) (hd : Value.string ⟨l.toArray⟩ = e d) : again P w0 ⟨none, some d, .tostr x⟩ e σ := by
 obtain ⟨cs, hR, hC⟩ := h
 have : ∀ (l : List UInt8) (cs : List Value), Chunks Ty.u8 σ l cs → cs = l.map fun b => .int .u8 b.toNat := by
  intro l
  induction l with
  | nil => intro cs h; exact h
  | cons x l ih =>
   intro cs h
   obtain ⟨c, q, rfl, g, j⟩ := h
   have g : c = [.int .u8 x.toNat] := g
   rw [g, ih q j]
   rfl
 rw [this l cs hC] at hR
 exact ⟨l.length, l, by rw [hx]; exact hR, hd, rfl⟩
theorem ziN (l : List zf) (z y : zf) : (l ++ [z]).set (Int.toNat (l.length : Int)) y = l ++ [y] := by
 rw [Int.toNat_natCast, List.set_append_right _ _ (Nat.le_refl _), Nat.sub_self]
 rfl
theorem zj5 (l : List zf) (z : zf) : zL (l ++ [z]) (l.length : Int) = some z := by
 unfold zL
 rw [if_pos (by omega), Int.toNat_natCast, List.getElem?_append_right (Nat.le_refl _), Nat.sub_self]
 rfl
theorem zkL {rec55 : List zf → Int → Option Bool} {x : Int} {l : List zf} {rr : Bool} (h : zeC rec55 x l false = some rr) : zeC rec55 x l true = some rr := by
 unfold zeC at h ⊢
 rw [if_neg (by decide)] at h
 rw [if_pos rfl]
 obtain ⟨z1, j, h⟩ := bind_some h
 obtain ⟨z2, k, h⟩ := bind_some h
 obtain ⟨y, o, h⟩ := bind_some h
 obtain ⟨u, g, h⟩ := bind_some h
 have g : room (2 * (l.length + 1)) = some u := g
 rw [j, Option.bind_some, k, Option.bind_some, o, Option.bind_some]
 show (room (2 * (l.length + 1))).bind _ = _
 rw [g, Option.bind_some]
 unfold zge
 rw [zj5, Option.bind_some, ziN]
 exact h
theorem zln {rec63 : List zf → Int → Option Bool} {x : Int} {l : List zf} {rr : Bool} (h : zeg rec63 x l false = some rr) : zeg rec63 x l true = some rr := by
 unfold zeg at h ⊢
 rw [if_neg (by decide)] at h
 rw [if_pos rfl]
 obtain ⟨u, g, h⟩ := bind_some h
 have g : room (2 * (l.length + 1)) = some u := g
 rw [g, Option.bind_some, zj5, Option.bind_some, ziN]
 exact h
theorem zl0 {τ : Hp} {p0 : Int} {p1 : Bool}  {rr : Bool} (hF : zgV p0 p1 = some rr) :
  Ctr Try.prog 6 #[.int .u8 p0, .bool p1] τ [] (fun v τ' vs' => v = .bool rr ∧ vs' = []) := by
 refine zbp (args := [.int .u8 p0, .bool p1]) hm Try.func6 s6 rfl fun w0 σ hO Q hQ => ?_
 unfold zgV at hF
 have hL := Hp.le.refl τ
 show wpn _ _ a6.body _ _ _
 unfold a6
 dsimp only
 refine zd hO [] [] [0, 1] zn5 fun j => ?_
 obtain ⟨c3, h4, hF⟩ := zoq hF
 refine z3 hO (zh7 h4) rfl fun _ σ _ _ hO w2 h4 => ?_
 have hL := hL.trans w2
 obtain ⟨z, bL, bK, k1, V1, x, V3, inn, V2, rfl, rfl, l5, r5, l6, m8⟩ := h4
 have hO := zop3 hO
 obtain ⟨_, m9, rK, hO⟩ := (za.ofRow (T := zZ) (l := [⟨x.Kind, x.Num, x.Name, x.Field, x.Op, x.Kids⟩]) (n := 1) (ty := 71) (bb := bK) ⟨[.int .u8 (x.Kind.toNat : Int), .int .i64 x.Num, .string x.Name, .string x.Field, .string x.Op, V3], _, rfl, zb6 ⟨_, rfl, r5⟩, rfl⟩ rfl rfl (by decide)).share hO (i := 2) rfl
 have hL := hL.trans m9
 have l5 := l5.le m9
 have l6 := l6.le m9
 have hO := hO.sel [0, 1]
 have hO : Obs _ _ [some (z, ⟨[.string znT, .int .i64 1, .slice none 0 0, .int .u8 0, .int .i64 0, .string znS, .slice (some ⟨bL, 0, none⟩) 2 2], 53, 7, true⟩), some (bL, ⟨[.int .u8 1, .int .i64 1, .string znU, .string znS, .string znS, .int .u8 1, .int .i64 0, .string znS, V1, .slice none 0 0, .slice none 0 0, .int .u8 7, .int .i64 2, .string znS, .string znS, .string znS, .int .u8 0, .int .i64 0, .string znS, .slice (some ⟨bK, 0, none⟩) 1 1, V2, .slice none 0 0], 73, 22, true⟩)] := hO
 have w7 : za zH 73 _ (.slice (some ⟨bL, 0, none⟩) 2 2) [⟨1, 1, znU, znS, znS, ⟨1, 0, znS⟩, k1, [], []⟩, ⟨7, 2, znS, znS, znS, ⟨0, 0, znS⟩, [⟨x.Kind, x.Num, x.Name, x.Field, x.Op, x.Kids⟩], inn, []⟩] (some (bL, ⟨[.int .u8 1, .int .i64 1, .string znU, .string znS, .string znS, .int .u8 1, .int .i64 0, .string znS, V1, .slice none 0 0, .slice none 0 0, .int .u8 7, .int .i64 2, .string znS, .string znS, .string znS, .int .u8 0, .int .i64 0, .string znS, .slice (some ⟨bK, 0, none⟩) 1 1, V2, .slice none 0 0], 73, 22, true⟩)) := za.ofRow (n := 2) ⟨[.int .u8 1, .int .i64 1, .string znU, .string znS, .string znS, .int .u8 1, .int .i64 0, .string znS, V1, .slice none 0 0, .slice none 0 0], _, rfl, zbL ⟨_, _, _, rfl, l5, RdT.nil _ _, RdT.nil _ _⟩, [.int .u8 7, .int .i64 2, .string znS, .string znS, .string znS, .int .u8 0, .int .i64 0, .string znS, .slice (some ⟨bK, 0, none⟩) 1 1, V2, .slice none 0 0], _, rfl, zbL ⟨_, _, _, rfl, rK, l6, RdT.nil _ _⟩, rfl⟩ rfl rfl (by decide)
 rw [show [⟨1, 1, znU, znS, znS, ⟨1, 0, znS⟩, k1, [], []⟩, ⟨7, 2, znS, znS, znS, ⟨0, 0, znS⟩, [⟨x.Kind, x.Num, x.Name, x.Field, x.Op, x.Kids⟩], inn, []⟩] = plB c3 from by rw [m8]; rfl] at w7
 have hpl : c3 = ⟨[], [⟨znT, 1, [], ⟨0, 0, znS⟩, plB c3⟩]⟩ := by rw [m8]; rfl
 clear m8 rK l5 l6 r5
 generalize hgo : (some (bL, ⟨[.int .u8 1, .int .i64 1, .string znU, .string znS, .string znS, .int .u8 1, .int .i64 0, .string znS, V1, .slice none 0 0, .slice none 0 0, .int .u8 7, .int .i64 2, .string znS, .string znS, .string znS, .int .u8 0, .int .i64 0, .string znS, .slice (some ⟨bK, 0, none⟩) 1 1, V2, .slice none 0 0], 73, 22, true⟩) : Ob) = r6 at w7 hO
 generalize hgv : Value.slice (some ⟨bL, 0, none⟩) 2 2 = vL at w7 hO
 obtain ⟨A8, c9, rfl, -⟩ := w7.form
 clear hgv hgo
 have hO := zop2 hO
 refine zbm hO fun D σ hO => ?_
 have hO := zop3 hO
 refine zu hO (i := 2) rfl (off := 0) rfl rfl rfl rfl (Nat.le_of_ble_eq_true rfl) rfl fun σ hO => ?_
 have hO := zop3 hO
 refine ze (zd hO [] [(6, zok 0)] [0, 1, 5] zn7 fun j => ?_)
 refine zn (zd hO [] [(14, .bool p1)] [0, 1, 5, 6] zn8 fun j => ?_)
 refine zcL (fun e' σ' => ∃ (g5 : Option Addr) (g6 : Nat) (k0 : Ob) (b8 : List zf) (x20 : Int) (τ' : Hp), agr [(0, .int .u8 p0), (1, .bool p1), (5, zol D), (6, zok x20)] e' ∧ Obs τ' σ' [some (D, ⟨[.slice none 0 0, .slice (some ⟨z, 0, none⟩) 1 1], 25, 2, true⟩), zcc z znT 1 (.slice none 0 0) 0 0 znS (zor g5 b8 g6), k0] ∧ Hp.le τ τ' ∧ za zH 73 τ' (zor g5 b8 g6) b8 k0 ∧ zeU p0 p1 b8 x20 = some rr) ?_ ?_
 ·refine zbz (zz hF rfl (fun hF => ?_) fun hF => ?_)
  ·refine zd hO [] [(6, zok 1)] [0, 1, 5] zn7 fun j => ?_
   refine zh (zi ?_)
   have hO := hO.sel [2, 0, 1]
   exact ⟨A8, c9, r6, (plB c3), 1, _, zoj zn6, hO, hL, w7, hF⟩
  refine zN (zh (zi ?_))
  have hO := hO.sel [2, 0, 1]
  exact ⟨A8, c9, r6, (plB c3), 0, _, zoj zn6, hO, hL, w7, hF⟩
 rintro e σ ⟨g5, g6, k0, b8, x20, _, hA, hO, hL, k2, hF⟩
 rw [← zW _ _ hA]
 unfold zeU at hF
 refine zn (zd hO [] [(16, .int .u8 (Int.tmod p0 3))] [1, 5, 6] zn7 fun j => ?_)
 refine zfQ (fun e' σ' => ∃ (i1 : Option Addr) (i2 : Nat) (k4 : Ob) (d6 : List zB) (τ' : Hp), agr [(1, .bool p1), (5, zol D)] e' ∧ Obs τ' σ' [some (D, ⟨[.slice none 0 0, zor i1 d6 i2], 25, 2, true⟩), k4] ∧ Hp.le τ τ' ∧ za zt 53 τ' (zor i1 d6 i2) d6 k4 ∧ zdH p1 d6 = some rr) ?_ ?_
 ·refine zd hO [] [(49, .bool ((Int.tmod p0 3) == 0))] [1, 5, 6, 16] zn8 fun j => ?_
  refine zbz (zz hF rfl (fun hF => ?_) fun hF => ?_)
  ·refine zn (zd hO [] [(7, zok 0)] [1, 5, 6] zn7 fun j => ?_)
   refine zbr (zcg (fun (n : Nat) e' σ' => ∃ (i3 : Nat) (c4 : Option Addr) (c5 : Nat) (h1 : Ob) (Z : List zf) (g : Int) (τ' : Hp), agr [(1, .bool p1), (5, zol D), (6, zok x20), (7, zok g)] e' ∧ Obs τ' σ' [some (D, ⟨[.slice none 0 0, .slice (some ⟨z, 0, none⟩) 1 1], 25, 2, true⟩), zcc z znT 1 (.slice none 0 0) 0 0 znS (.slice c4 i3 c5), h1] ∧ Hp.le τ τ' ∧ i3 = Z.length ∧ za zH 73 τ' (.slice c4 i3 c5) Z h1 ∧ zdB p1 x20 n Z g = some rr) big ⟨b8.length, g5, g6, k0, b8, 0, _, zoj zn6, hO, hL, k2.len, k2, hF⟩ ?_)
   clear hF hO hL
   rintro c6 e σ ⟨i3, c4, c5, h1, Z, g, _, hA, hO, hL, o4, k5, hF⟩
   rw [← zW _ _ hA]
   cases c6 with
   | zero => exact nomatch (show none = some rr from hF)
   | succ c6 =>
   replace hF : zht (zdB p1 x20 c6) p1 x20 Z g = some rr := hF
   unfold zht at hF
   subst o4
   refine zn (zd hO [] [(54, .bool (decide (g < (IntKind.i64.wrap (63 + x20)))))] [1, 5, 6, 7] zn8 fun j => ?_)
   refine zz hF rfl (fun hF => ?_) fun hF => ?_
   ·refine zN (zbr (zbc (zbm hO fun y7 σ hO => ?_)))
    have hO := zop4 hO
    refine ze (zcL (fun e' σ' => ∃ (d7 : Option Addr) (d8 : Nat) (k6 : Ob) (o : List zf) (k7 : Bool) (τ' : Hp), agr [(1, .bool p1), (5, zol D), (6, zok x20), (7, zok g), (58, .bool k7)] e' ∧ Obs τ' σ' [some (D, ⟨[.slice none 0 0, .slice (some ⟨z, 0, none⟩) 1 1], 25, 2, true⟩), zcc z znT 1 (.slice none 0 0) 0 0 znS (zor d7 o d8), k6] ∧ Hp.le τ τ' ∧ za zH 73 τ' (zor d7 o d8) o k6 ∧ zeC (zdB p1 x20 c6) g o k7 = some rr) ?_ ?_)
    ·refine zih (zdC ?_ ?_)
     ·refine zbc (zu hO (i := 3) rfl (off := 0) rfl rfl rfl rfl (Nat.le_of_ble_eq_true rfl) rfl fun σ hO => ?_)
      have hO := zop4 hO
      refine ze (zbc (zu hO (i := 3) rfl (off := 0) rfl rfl rfl rfl (Nat.le_of_ble_eq_true rfl) rfl fun σ hO => ?_))
      have hO := zop4 hO
      refine ze (zF (zd hO [3] [(58, .bool false)] [1, 5, 6, 7] (And.intro (And.intro rfl rfl) zn8) fun j => ?_))
      refine zcV (zh (zi ?_))
      have hO := hO.sel [0, 1, 2]
      exact ⟨c4, c5, h1, Z, false, _, zoj zn7, hO, hL, k5, hF⟩
     refine zbc (zu hO (i := 3) rfl (off := 0) rfl rfl rfl rfl (Nat.le_of_ble_eq_true rfl) rfl fun σ hO => ?_)
     have hO := zop4 hO
     refine ze (zbc (zu hO (i := 3) rfl (off := 0) rfl rfl rfl rfl (Nat.le_of_ble_eq_true rfl) rfl fun σ hO => ?_))
     have hO := zop4 hO
     refine ze (zF (zd hO [3] [(58, .bool true)] [1, 5, 6, 7] (And.intro (And.intro rfl rfl) zn8) fun j => ?_))
     refine zcV (zh (zi ?_))
     have hO := hO.sel [0, 1, 2]
     exact ⟨c4, c5, h1, Z, true, _, zoj zn7, hO, hL, k5, zkL hF⟩
    rintro e σ ⟨d7, d8, k6, o, k7, _, hA, hO, hL, h, hF⟩
    rw [← zW _ _ hA]
    unfold zeC at hF
    refine zbz (zz hF rfl (fun hF => ?_) fun hF => ?_)
    ·refine zn (zF (zd hO [] [(59, .pointer (some ⟨D, 1, none⟩))] [1, 5, 6, 7] zn8 fun j => ?_))
     refine zF (zd hO [0] [(60, .slice (some ⟨z, 0, none⟩) 1 1)] [1, 5, 6, 7, 59] (And.intro (And.intro rfl rfl) zn9) fun j => ?_)
     refine zF (zb4 rfl rfl (by decide) (by decide) ?_)
     refine ze (zF (zd hO [] [(62, .pointer (some ⟨z, 6, none⟩))] [1, 5, 6, 7, 59, 60] zoa fun j => ?_))
     refine zF (zd hO [1] [(63, zor d7 o d8)] [1, 5, 6, 7, 59, 60, 62] (And.intro (And.intro rfl rfl) zob) fun j => ?_)
     refine zF (zd hO [] [(64, zok g)] [1, 5, 6, 7, 59, 60, 62, 63] zoc fun j => ?_)
     refine zF (zd hO [] [(65, zok (IntKind.i64.wrap (Int.tdiv g 26)))] [1, 5, 6, 7, 59, 60, 62, 63] zoc fun j => ?_)
     refine zF (zd hO [] [(66, .int .u8 (IntKind.u8.wrap (IntKind.i64.wrap (Int.tdiv g 26))))] [1, 5, 6, 7, 59, 60, 62, 63] zoc fun j => ?_)
     refine zF (zd hO [] [(67, .int .u8 (IntKind.u8.wrap (97 + (IntKind.u8.wrap (IntKind.i64.wrap (Int.tdiv g 26))))))] [1, 5, 6, 7, 59, 60, 62, 63] zoc fun j => ?_)
     refine zF (zD hO [] [(1, .bool p1), (5, zol D), (6, zok x20), (7, zok g), (59, .pointer (some ⟨D, 1, none⟩)), (60, .slice (some ⟨z, 0, none⟩) 1 1), (62, .pointer (some ⟨z, 6, none⟩)), (63, zor d7 o d8), (67, .int .u8 (IntKind.u8.wrap (97 + (IntKind.u8.wrap (IntKind.i64.wrap (Int.tdiv g 26)))))), (68, zok g)] zod fun j => ?_)
     refine zF (zd hO [] [(69, zok (Int.tmod g 26))] [1, 5, 6, 7, 59, 60, 62, 63, 67] zod fun j => ?_)
     refine zF (zd hO [] [(70, .int .u8 (IntKind.u8.wrap (Int.tmod g 26)))] [1, 5, 6, 7, 59, 60, 62, 63, 67] zod fun j => ?_)
     refine zF (zd hO [] [(71, .int .u8 (IntKind.u8.wrap (97 + (IntKind.u8.wrap (Int.tmod g 26)))))] [1, 5, 6, 7, 59, 60, 62, 63, 67] zod fun j => ?_)
     refine zF (zd hO [] [(75, .agg #[(.int .u8 2), (.int .i64 0), (.string znS)])] [1, 5, 6, 7, 59, 60, 62, 63, 67, 71] zoe fun j => ?_)
     refine zF (zd hO [] [(76, .agg #[(.int .u8 2), (.int .i64 0), (.string znS), (.string znS), (.string znS), (.slice none 0 0)])] [1, 5, 6, 7, 59, 60, 62, 63, 67, 71, 75] zof fun j => ?_)
     refine zF (zd hO [] [(79, zok (o.length : Int))] [1, 5, 6, 7, 59, 60, 62, 63, 67, 71, 75, 76] zog fun j => ?_)
     refine zcL (fun e' σ' => ∃ (h2 : Option Addr) (h3 : Nat) (k8 : Ob) (c7 : List zf) (g3 : ByteArray) (i4 : Option Addr) (i5 : Nat) (k9 : Ob) (c8 : List zc) (τ' : Hp), agr [(1, .bool p1), (5, zol D), (6, zok x20), (7, zok g), (78, .agg #[(.int .u8 1), (.int .i64 0), (.string g3), (.string znS), (.string znS), (.int .u8 2), (.int .i64 0), (.string znS), (zor i4 c8 i5), (.slice none 0 0), (.slice none 0 0)]), (79, zok (o.length : Int)), (81, zor h2 c7 h3)] e' ∧ Obs τ' σ' [some (D, ⟨[.slice none 0 0, .slice (some ⟨z, 0, none⟩) 1 1], 25, 2, true⟩), zcc z znT 1 (.slice none 0 0) 0 0 znS (zor h2 c7 h3), k8, k9] ∧ Hp.le τ τ' ∧ za zH 73 τ' (zor h2 c7 h3) c7 k8 ∧ za zZ 71 τ' (zor i4 c8 i5) c8 k9 ∧ zge (zdB p1 x20 c6) g o c7 g3 c8 = some rr) ?_ ?_
     ·refine zih ?_
      obtain ⟨z956, f3, hF⟩ := zoq hF
      obtain ⟨z957, f4, hF⟩ := zoq hF
      obtain ⟨b0, h5, hF⟩ := zoq hF
      obtain ⟨_, d0, hF⟩ := zoq hF
      refine zdC ?_ ?_
      ·refine zbc (zbt (z5 (T := Ty.u8) (l := ([z956, z957] : List UInt8)) (cs := [.int .u8 (IntKind.u8.wrap (97 + (IntKind.u8.wrap (IntKind.i64.wrap (Int.tdiv g 26))))), .int .u8 (IntKind.u8.wrap (97 + (IntKind.u8.wrap (Int.tmod g 26))))]) hO rfl ⟨[.int .u8 (IntKind.u8.wrap (97 + (IntKind.u8.wrap (IntKind.i64.wrap (Int.tdiv g 26)))))], _, rfl, (u8R f3), ⟨[.int .u8 (IntKind.u8.wrap (97 + (IntKind.u8.wrap (Int.tmod g 26))))], _, rfl, (u8R f4), rfl⟩⟩ rfl (by decide) fun _ σ i6 B hO => ?_))
       obtain ⟨i7, i8, rfl, -⟩ := B.form
       have hO := zop4 hO
       refine ze (zbs ⟨(zA rfl (hO.val (i := 1) (off := 6) (agg := false) (n := 1) rfl rfl) rfl), (zA rfl (hO.val (i := 0) (off := 1) (agg := false) (n := 1) rfl rfl) rfl), trivial⟩ ?_)
       refine ze (zF (zdW (l := ([z956, z957] : List UInt8)) ((B.rd hO (i := 3) rfl).le (Hp.le.refl _)) rfl ?_))
       refine ze (zF (zdI (zdQ h5) ?_))
       refine ze (zdC ?_ ?_)
       ·refine zbc (zbt (z5 (T := zZ) (l := ([(⟨(2 : UInt8), 0, znS, znS, znS, []⟩ : zc)] : List zc)) (cs := [.int .u8 2, .int .i64 0, .string znS, .string znS, .string znS, .slice none 0 0]) hO rfl ⟨[.int .u8 2, .int .i64 0, .string znS, .string znS, .string znS, .slice none 0 0], _, rfl, (zb6 ⟨_, rfl, RdT.nil _ _⟩), rfl⟩ rfl (by decide) fun _ σ c1 k hO => ?_))
        obtain ⟨S, U, rfl, -⟩ := k.form
        have hO := zop5 hO
        refine ze (zbs ⟨(zee (l := ([z956, z957] : List UInt8)) ((B.rd hO (i := 3) rfl).le (Hp.le.refl _)) rfl rfl), (zA rfl (hO.val (i := 1) (off := 6) (agg := false) (n := 1) rfl rfl) rfl), (zA rfl (hO.val (i := 0) (off := 1) (agg := false) (n := 1) rfl rfl) rfl), trivial⟩ ?_)
        refine ze (zF (zd hO [] [(78, .agg #[(.int .u8 1), (.int .i64 0), (.string b0), (.string znS), (.string znS), (.int .u8 2), (.int .i64 0), (.string znS), (zor S ([(⟨(2 : UInt8), 0, znS, znS, znS, []⟩ : zc)] : List zc) U), (.slice none 0 0), (.slice none 0 0)])] [1, 5, 6, 7, 59, 60, 62, 63, 72, 73, 79] zof fun j => ?_))
        refine zbc (zbt (z5 (T := zH) (l := ([(⟨(0 : UInt8), 0, znS, znS, znS, (⟨(0 : UInt8), 0, znS⟩ : zk), [], [], []⟩ : zf)] : List zf)) (cs := [.int .u8 0, .int .i64 0, .string znS, .string znS, .string znS, .int .u8 0, .int .i64 0, .string znS, .slice none 0 0, .slice none 0 0, .slice none 0 0]) hO rfl ⟨[.int .u8 0, .int .i64 0, .string znS, .string znS, .string znS, .int .u8 0, .int .i64 0, .string znS, .slice none 0 0, .slice none 0 0, .slice none 0 0], _, rfl, (zbL ⟨_, _, _, rfl, RdT.nil _ _, RdT.nil _ _, RdT.nil _ _⟩), rfl⟩ rfl (by decide) fun _ σ i9 W hO => ?_))
        obtain ⟨j0, j1, rfl, -⟩ := W.form
        have hO := zop6 hO
        refine ze (zbs ⟨(zee (l := ([z956, z957] : List UInt8)) ((B.rd hO (i := 3) rfl).le (Hp.le.refl _)) rfl rfl), (zA rfl (hO.val (i := 1) (off := 6) (agg := false) (n := 1) rfl rfl) rfl), (zA rfl (hO.val (i := 0) (off := 1) (agg := false) (n := 1) rfl rfl) rfl), trivial⟩ ?_)
        refine ze (zbc ?_)
        obtain ⟨_, q, b2, hO⟩ := W.share hO (i := 5) rfl
        have hL := hL.trans q
        have h := h.le q
        have B := B.le q
        have k := k.le q
        have hO := zop6 hO
        refine zdk (T := zH) hO h (i := 2) rfl rfl rfl b2 d0 (by decide) fun _ σ b3 E hO => ?_
        obtain ⟨b4, b6, rfl, -⟩ := E.form
        have hO := zop6 hO
        refine ze (zF (zb4 rfl rfl (by decide) (by decide) ?_))
        refine ze (zF (zd hO [] [(83, .pointer (some ⟨z, 6, none⟩))] [1, 5, 6, 7, 78, 79, 81] zob fun j => ?_))
        refine zbc (zu hO (i := 1) rfl (off := 6) rfl rfl rfl rfl (Nat.le_of_ble_eq_true rfl) rfl fun σ hO => ?_)
        have hO := zop6 hO
        refine ze (zcV (zh (zi ?_)))
        have hO := hO.sel [0, 1, 2, 4]
        exact ⟨b4, b6, b3, (o ++ ([(⟨(0 : UInt8), 0, znS, znS, znS, (⟨(0 : UInt8), 0, znS⟩ : zk), [], [], []⟩ : zf)] : List zf)), b0, S, U, c1, ([(⟨(2 : UInt8), 0, znS, znS, znS, []⟩ : zc)] : List zc), _, zoj zn9, hO, hL, E, k, hF⟩
       refine zbc (zbt (z5 (T := zH) (l := ([(⟨(0 : UInt8), 0, znS, znS, znS, (⟨(0 : UInt8), 0, znS⟩ : zk), [], [], []⟩ : zf)] : List zf)) (cs := [.int .u8 0, .int .i64 0, .string znS, .string znS, .string znS, .int .u8 0, .int .i64 0, .string znS, .slice none 0 0, .slice none 0 0, .slice none 0 0]) hO rfl ⟨[.int .u8 0, .int .i64 0, .string znS, .string znS, .string znS, .int .u8 0, .int .i64 0, .string znS, .slice none 0 0, .slice none 0 0, .slice none 0 0], _, rfl, (zbL ⟨_, _, _, rfl, RdT.nil _ _, RdT.nil _ _, RdT.nil _ _⟩), rfl⟩ rfl (by decide) fun _ σ i9 W hO => ?_))
       obtain ⟨j0, j1, rfl, -⟩ := W.form
       have hO := zop5 hO
       refine ze (zbs ⟨(zee (l := ([z956, z957] : List UInt8)) ((B.rd hO (i := 3) rfl).le (Hp.le.refl _)) rfl rfl), (zA rfl (hO.val (i := 1) (off := 6) (agg := false) (n := 1) rfl rfl) rfl), (zA rfl (hO.val (i := 0) (off := 1) (agg := false) (n := 1) rfl rfl) rfl), trivial⟩ ?_)
       refine ze (zbc (zbt (z5 (T := zZ) (l := ([(⟨(2 : UInt8), 0, znS, znS, znS, []⟩ : zc)] : List zc)) (cs := [.int .u8 2, .int .i64 0, .string znS, .string znS, .string znS, .slice none 0 0]) hO rfl ⟨[.int .u8 2, .int .i64 0, .string znS, .string znS, .string znS, .slice none 0 0], _, rfl, (zb6 ⟨_, rfl, RdT.nil _ _⟩), rfl⟩ rfl (by decide) fun _ σ c1 k hO => ?_)))
       obtain ⟨S, U, rfl, -⟩ := k.form
       have hO := zop6 hO
       refine ze (zbs ⟨(zee (l := ([z956, z957] : List UInt8)) ((B.rd hO (i := 3) rfl).le (Hp.le.refl _)) rfl rfl), (zA rfl (hO.val (i := 1) (off := 6) (agg := false) (n := 1) rfl rfl) rfl), (zA rfl (hO.val (i := 0) (off := 1) (agg := false) (n := 1) rfl rfl) rfl), trivial⟩ ?_)
       refine ze (zF (zd hO [] [(78, .agg #[(.int .u8 1), (.int .i64 0), (.string b0), (.string znS), (.string znS), (.int .u8 2), (.int .i64 0), (.string znS), (zor S ([(⟨(2 : UInt8), 0, znS, znS, znS, []⟩ : zc)] : List zc) U), (.slice none 0 0), (.slice none 0 0)])] [1, 5, 6, 7, 60, 63, 79, 80] zoc fun j => ?_))
       refine zbc ?_
       obtain ⟨_, q, b2, hO⟩ := W.share hO (i := 4) rfl
       have hL := hL.trans q
       have h := h.le q
       have k := k.le q
       have hO := zop6 hO
       refine zdk (T := zH) hO h (i := 2) rfl rfl rfl b2 d0 (by decide) fun _ σ b3 E hO => ?_
       obtain ⟨b4, b6, rfl, -⟩ := E.form
       have hO := zop6 hO
       refine ze (zF (zb4 rfl rfl (by decide) (by decide) ?_))
       refine ze (zF (zd hO [] [(83, .pointer (some ⟨z, 6, none⟩))] [1, 5, 6, 7, 78, 79, 81] zob fun j => ?_))
       refine zbc (zu hO (i := 1) rfl (off := 6) rfl rfl rfl rfl (Nat.le_of_ble_eq_true rfl) rfl fun σ hO => ?_)
       have hO := zop6 hO
       refine ze (zcV (zh (zi ?_)))
       have hO := hO.sel [0, 1, 2, 5]
       exact ⟨b4, b6, b3, (o ++ ([(⟨(0 : UInt8), 0, znS, znS, znS, (⟨(0 : UInt8), 0, znS⟩ : zk), [], [], []⟩ : zf)] : List zf)), b0, S, U, c1, ([(⟨(2 : UInt8), 0, znS, znS, znS, []⟩ : zc)] : List zc), _, zoj zn9, hO, hL, E, k, hF⟩
      refine zdC ?_ ?_
      ·refine zbc (zbt (z5 (T := zZ) (l := ([(⟨(2 : UInt8), 0, znS, znS, znS, []⟩ : zc)] : List zc)) (cs := [.int .u8 2, .int .i64 0, .string znS, .string znS, .string znS, .slice none 0 0]) hO rfl ⟨[.int .u8 2, .int .i64 0, .string znS, .string znS, .string znS, .slice none 0 0], _, rfl, (zb6 ⟨_, rfl, RdT.nil _ _⟩), rfl⟩ rfl (by decide) fun _ σ c1 k hO => ?_))
       obtain ⟨S, U, rfl, -⟩ := k.form
       have hO := zop4 hO
       refine ze (zbs ⟨(zA rfl (hO.val (i := 1) (off := 6) (agg := false) (n := 1) rfl rfl) rfl), (zA rfl (hO.val (i := 0) (off := 1) (agg := false) (n := 1) rfl rfl) rfl), trivial⟩ ?_)
       refine ze (zdC ?_ ?_)
       ·refine zbc (zbt (z5 (T := Ty.u8) (l := ([z956, z957] : List UInt8)) (cs := [.int .u8 (IntKind.u8.wrap (97 + (IntKind.u8.wrap (IntKind.i64.wrap (Int.tdiv g 26))))), .int .u8 (IntKind.u8.wrap (97 + (IntKind.u8.wrap (Int.tmod g 26))))]) hO rfl ⟨[.int .u8 (IntKind.u8.wrap (97 + (IntKind.u8.wrap (IntKind.i64.wrap (Int.tdiv g 26)))))], _, rfl, (u8R f3), ⟨[.int .u8 (IntKind.u8.wrap (97 + (IntKind.u8.wrap (Int.tmod g 26))))], _, rfl, (u8R f4), rfl⟩⟩ rfl (by decide) fun _ σ i6 B hO => ?_))
        obtain ⟨i7, i8, rfl, -⟩ := B.form
        have hO := zop5 hO
        refine ze (zbs ⟨(zA rfl (hO.val (i := 1) (off := 6) (agg := false) (n := 1) rfl rfl) rfl), (zA rfl (hO.val (i := 0) (off := 1) (agg := false) (n := 1) rfl rfl) rfl), trivial⟩ ?_)
        refine ze (zF (zdW (l := ([z956, z957] : List UInt8)) ((B.rd hO (i := 4) rfl).le (Hp.le.refl _)) rfl ?_))
        refine ze (zF (zdI (zdQ h5) ?_))
        refine ze (zF (zd hO [] [(78, .agg #[(.int .u8 1), (.int .i64 0), (.string b0), (.string znS), (.string znS), (.int .u8 2), (.int .i64 0), (.string znS), (zor S ([(⟨(2 : UInt8), 0, znS, znS, znS, []⟩ : zc)] : List zc) U), (.slice none 0 0), (.slice none 0 0)])] [1, 5, 6, 7, 59, 60, 62, 63, 72, 73, 79] zof fun j => ?_))
        refine zbc (zbt (z5 (T := zH) (l := ([(⟨(0 : UInt8), 0, znS, znS, znS, (⟨(0 : UInt8), 0, znS⟩ : zk), [], [], []⟩ : zf)] : List zf)) (cs := [.int .u8 0, .int .i64 0, .string znS, .string znS, .string znS, .int .u8 0, .int .i64 0, .string znS, .slice none 0 0, .slice none 0 0, .slice none 0 0]) hO rfl ⟨[.int .u8 0, .int .i64 0, .string znS, .string znS, .string znS, .int .u8 0, .int .i64 0, .string znS, .slice none 0 0, .slice none 0 0, .slice none 0 0], _, rfl, (zbL ⟨_, _, _, rfl, RdT.nil _ _, RdT.nil _ _, RdT.nil _ _⟩), rfl⟩ rfl (by decide) fun _ σ i9 W hO => ?_))
        obtain ⟨j0, j1, rfl, -⟩ := W.form
        have hO := zop6 hO
        refine ze (zbs ⟨(zee (l := ([z956, z957] : List UInt8)) ((B.rd hO (i := 4) rfl).le (Hp.le.refl _)) rfl rfl), (zA rfl (hO.val (i := 1) (off := 6) (agg := false) (n := 1) rfl rfl) rfl), (zA rfl (hO.val (i := 0) (off := 1) (agg := false) (n := 1) rfl rfl) rfl), trivial⟩ ?_)
        refine ze (zbc ?_)
        obtain ⟨_, q, b2, hO⟩ := W.share hO (i := 5) rfl
        have hL := hL.trans q
        have h := h.le q
        have B := B.le q
        have k := k.le q
        have hO := zop6 hO
        refine zdk (T := zH) hO h (i := 2) rfl rfl rfl b2 d0 (by decide) fun _ σ b3 E hO => ?_
        obtain ⟨b4, b6, rfl, -⟩ := E.form
        have hO := zop6 hO
        refine ze (zF (zb4 rfl rfl (by decide) (by decide) ?_))
        refine ze (zF (zd hO [] [(83, .pointer (some ⟨z, 6, none⟩))] [1, 5, 6, 7, 78, 79, 81] zob fun j => ?_))
        refine zbc (zu hO (i := 1) rfl (off := 6) rfl rfl rfl rfl (Nat.le_of_ble_eq_true rfl) rfl fun σ hO => ?_)
        have hO := zop6 hO
        refine ze (zcV (zh (zi ?_)))
        have hO := hO.sel [0, 1, 2, 3]
        exact ⟨b4, b6, b3, (o ++ ([(⟨(0 : UInt8), 0, znS, znS, znS, (⟨(0 : UInt8), 0, znS⟩ : zk), [], [], []⟩ : zf)] : List zf)), b0, S, U, c1, ([(⟨(2 : UInt8), 0, znS, znS, znS, []⟩ : zc)] : List zc), _, zoj zn9, hO, hL, E, k, hF⟩
       refine zbc (zbt (z5 (T := zH) (l := ([(⟨(0 : UInt8), 0, znS, znS, znS, (⟨(0 : UInt8), 0, znS⟩ : zk), [], [], []⟩ : zf)] : List zf)) (cs := [.int .u8 0, .int .i64 0, .string znS, .string znS, .string znS, .int .u8 0, .int .i64 0, .string znS, .slice none 0 0, .slice none 0 0, .slice none 0 0]) hO rfl ⟨[.int .u8 0, .int .i64 0, .string znS, .string znS, .string znS, .int .u8 0, .int .i64 0, .string znS, .slice none 0 0, .slice none 0 0, .slice none 0 0], _, rfl, (zbL ⟨_, _, _, rfl, RdT.nil _ _, RdT.nil _ _, RdT.nil _ _⟩), rfl⟩ rfl (by decide) fun _ σ i9 W hO => ?_))
       obtain ⟨j0, j1, rfl, -⟩ := W.form
       have hO := zop5 hO
       refine ze (zbs ⟨(zA rfl (hO.val (i := 1) (off := 6) (agg := false) (n := 1) rfl rfl) rfl), (zA rfl (hO.val (i := 0) (off := 1) (agg := false) (n := 1) rfl rfl) rfl), trivial⟩ ?_)
       refine ze (zbc (zbt (z5 (T := Ty.u8) (l := ([z956, z957] : List UInt8)) (cs := [.int .u8 (IntKind.u8.wrap (97 + (IntKind.u8.wrap (IntKind.i64.wrap (Int.tdiv g 26))))), .int .u8 (IntKind.u8.wrap (97 + (IntKind.u8.wrap (Int.tmod g 26))))]) hO rfl ⟨[.int .u8 (IntKind.u8.wrap (97 + (IntKind.u8.wrap (IntKind.i64.wrap (Int.tdiv g 26)))))], _, rfl, (u8R f3), ⟨[.int .u8 (IntKind.u8.wrap (97 + (IntKind.u8.wrap (Int.tmod g 26))))], _, rfl, (u8R f4), rfl⟩⟩ rfl (by decide) fun _ σ i6 B hO => ?_)))
       obtain ⟨i7, i8, rfl, -⟩ := B.form
       have hO := zop6 hO
       refine ze (zbs ⟨(zA rfl (hO.val (i := 1) (off := 6) (agg := false) (n := 1) rfl rfl) rfl), (zA rfl (hO.val (i := 0) (off := 1) (agg := false) (n := 1) rfl rfl) rfl), trivial⟩ ?_)
       refine ze (zF (zdW (l := ([z956, z957] : List UInt8)) ((B.rd hO (i := 5) rfl).le (Hp.le.refl _)) rfl ?_))
       refine ze (zF (zdI (zdQ h5) ?_))
       refine ze (zF (zd hO [] [(78, .agg #[(.int .u8 1), (.int .i64 0), (.string b0), (.string znS), (.string znS), (.int .u8 2), (.int .i64 0), (.string znS), (zor S ([(⟨(2 : UInt8), 0, znS, znS, znS, []⟩ : zc)] : List zc) U), (.slice none 0 0), (.slice none 0 0)])] [1, 5, 6, 7, 60, 63, 79, 80] zoc fun j => ?_))
       refine zbc ?_
       obtain ⟨_, q, b2, hO⟩ := W.share hO (i := 4) rfl
       have hL := hL.trans q
       have h := h.le q
       have k := k.le q
       have hO := zop6 hO
       refine zdk (T := zH) hO h (i := 2) rfl rfl rfl b2 d0 (by decide) fun _ σ b3 E hO => ?_
       obtain ⟨b4, b6, rfl, -⟩ := E.form
       have hO := zop6 hO
       refine ze (zF (zb4 rfl rfl (by decide) (by decide) ?_))
       refine ze (zF (zd hO [] [(83, .pointer (some ⟨z, 6, none⟩))] [1, 5, 6, 7, 78, 79, 81] zob fun j => ?_))
       refine zbc (zu hO (i := 1) rfl (off := 6) rfl rfl rfl rfl (Nat.le_of_ble_eq_true rfl) rfl fun σ hO => ?_)
       have hO := zop6 hO
       refine ze (zcV (zh (zi ?_)))
       have hO := hO.sel [0, 1, 2, 3]
       exact ⟨b4, b6, b3, (o ++ ([(⟨(0 : UInt8), 0, znS, znS, znS, (⟨(0 : UInt8), 0, znS⟩ : zk), [], [], []⟩ : zf)] : List zf)), b0, S, U, c1, ([(⟨(2 : UInt8), 0, znS, znS, znS, []⟩ : zc)] : List zc), _, zoj zn9, hO, hL, E, k, hF⟩
      refine zbc (zbt (z5 (T := zH) (l := ([(⟨(0 : UInt8), 0, znS, znS, znS, (⟨(0 : UInt8), 0, znS⟩ : zk), [], [], []⟩ : zf)] : List zf)) (cs := [.int .u8 0, .int .i64 0, .string znS, .string znS, .string znS, .int .u8 0, .int .i64 0, .string znS, .slice none 0 0, .slice none 0 0, .slice none 0 0]) hO rfl ⟨[.int .u8 0, .int .i64 0, .string znS, .string znS, .string znS, .int .u8 0, .int .i64 0, .string znS, .slice none 0 0, .slice none 0 0, .slice none 0 0], _, rfl, (zbL ⟨_, _, _, rfl, RdT.nil _ _, RdT.nil _ _, RdT.nil _ _⟩), rfl⟩ rfl (by decide) fun _ σ i9 W hO => ?_))
      obtain ⟨j0, j1, rfl, -⟩ := W.form
      have hO := zop4 hO
      refine ze (zbs ⟨(zA rfl (hO.val (i := 1) (off := 6) (agg := false) (n := 1) rfl rfl) rfl), (zA rfl (hO.val (i := 0) (off := 1) (agg := false) (n := 1) rfl rfl) rfl), trivial⟩ ?_)
      refine ze (zdC ?_ ?_)
      ·refine zbc (zbt (z5 (T := Ty.u8) (l := ([z956, z957] : List UInt8)) (cs := [.int .u8 (IntKind.u8.wrap (97 + (IntKind.u8.wrap (IntKind.i64.wrap (Int.tdiv g 26))))), .int .u8 (IntKind.u8.wrap (97 + (IntKind.u8.wrap (Int.tmod g 26))))]) hO rfl ⟨[.int .u8 (IntKind.u8.wrap (97 + (IntKind.u8.wrap (IntKind.i64.wrap (Int.tdiv g 26)))))], _, rfl, (u8R f3), ⟨[.int .u8 (IntKind.u8.wrap (97 + (IntKind.u8.wrap (Int.tmod g 26))))], _, rfl, (u8R f4), rfl⟩⟩ rfl (by decide) fun _ σ i6 B hO => ?_))
       obtain ⟨i7, i8, rfl, -⟩ := B.form
       have hO := zop5 hO
       refine ze (zbs ⟨(zA rfl (hO.val (i := 1) (off := 6) (agg := false) (n := 1) rfl rfl) rfl), (zA rfl (hO.val (i := 0) (off := 1) (agg := false) (n := 1) rfl rfl) rfl), trivial⟩ ?_)
       refine ze (zF (zdW (l := ([z956, z957] : List UInt8)) ((B.rd hO (i := 4) rfl).le (Hp.le.refl _)) rfl ?_))
       refine ze (zF (zdI (zdQ h5) ?_))
       refine ze (zbc (zbt (z5 (T := zZ) (l := ([(⟨(2 : UInt8), 0, znS, znS, znS, []⟩ : zc)] : List zc)) (cs := [.int .u8 2, .int .i64 0, .string znS, .string znS, .string znS, .slice none 0 0]) hO rfl ⟨[.int .u8 2, .int .i64 0, .string znS, .string znS, .string znS, .slice none 0 0], _, rfl, (zb6 ⟨_, rfl, RdT.nil _ _⟩), rfl⟩ rfl (by decide) fun _ σ c1 k hO => ?_)))
       obtain ⟨S, U, rfl, -⟩ := k.form
       have hO := zop6 hO
       refine ze (zbs ⟨(zee (l := ([z956, z957] : List UInt8)) ((B.rd hO (i := 4) rfl).le (Hp.le.refl _)) rfl rfl), (zA rfl (hO.val (i := 1) (off := 6) (agg := false) (n := 1) rfl rfl) rfl), (zA rfl (hO.val (i := 0) (off := 1) (agg := false) (n := 1) rfl rfl) rfl), trivial⟩ ?_)
       refine ze (zF (zd hO [] [(78, .agg #[(.int .u8 1), (.int .i64 0), (.string b0), (.string znS), (.string znS), (.int .u8 2), (.int .i64 0), (.string znS), (zor S ([(⟨(2 : UInt8), 0, znS, znS, znS, []⟩ : zc)] : List zc) U), (.slice none 0 0), (.slice none 0 0)])] [1, 5, 6, 7, 60, 63, 79, 80] zoc fun j => ?_))
       refine zbc ?_
       obtain ⟨_, q, b2, hO⟩ := W.share hO (i := 3) rfl
       have hL := hL.trans q
       have h := h.le q
       have k := k.le q
       have hO := zop6 hO
       refine zdk (T := zH) hO h (i := 2) rfl rfl rfl b2 d0 (by decide) fun _ σ b3 E hO => ?_
       obtain ⟨b4, b6, rfl, -⟩ := E.form
       have hO := zop6 hO
       refine ze (zF (zb4 rfl rfl (by decide) (by decide) ?_))
       refine ze (zF (zd hO [] [(83, .pointer (some ⟨z, 6, none⟩))] [1, 5, 6, 7, 78, 79, 81] zob fun j => ?_))
       refine zbc (zu hO (i := 1) rfl (off := 6) rfl rfl rfl rfl (Nat.le_of_ble_eq_true rfl) rfl fun σ hO => ?_)
       have hO := zop6 hO
       refine ze (zcV (zh (zi ?_)))
       have hO := hO.sel [0, 1, 2, 5]
       exact ⟨b4, b6, b3, (o ++ ([(⟨(0 : UInt8), 0, znS, znS, znS, (⟨(0 : UInt8), 0, znS⟩ : zk), [], [], []⟩ : zf)] : List zf)), b0, S, U, c1, ([(⟨(2 : UInt8), 0, znS, znS, znS, []⟩ : zc)] : List zc), _, zoj zn9, hO, hL, E, k, hF⟩
      refine zbc (zbt (z5 (T := zZ) (l := ([(⟨(2 : UInt8), 0, znS, znS, znS, []⟩ : zc)] : List zc)) (cs := [.int .u8 2, .int .i64 0, .string znS, .string znS, .string znS, .slice none 0 0]) hO rfl ⟨[.int .u8 2, .int .i64 0, .string znS, .string znS, .string znS, .slice none 0 0], _, rfl, (zb6 ⟨_, rfl, RdT.nil _ _⟩), rfl⟩ rfl (by decide) fun _ σ c1 k hO => ?_))
      obtain ⟨S, U, rfl, -⟩ := k.form
      have hO := zop5 hO
      refine ze (zbs ⟨(zA rfl (hO.val (i := 1) (off := 6) (agg := false) (n := 1) rfl rfl) rfl), (zA rfl (hO.val (i := 0) (off := 1) (agg := false) (n := 1) rfl rfl) rfl), trivial⟩ ?_)
      refine ze (zbc (zbt (z5 (T := Ty.u8) (l := ([z956, z957] : List UInt8)) (cs := [.int .u8 (IntKind.u8.wrap (97 + (IntKind.u8.wrap (IntKind.i64.wrap (Int.tdiv g 26))))), .int .u8 (IntKind.u8.wrap (97 + (IntKind.u8.wrap (Int.tmod g 26))))]) hO rfl ⟨[.int .u8 (IntKind.u8.wrap (97 + (IntKind.u8.wrap (IntKind.i64.wrap (Int.tdiv g 26)))))], _, rfl, (u8R f3), ⟨[.int .u8 (IntKind.u8.wrap (97 + (IntKind.u8.wrap (Int.tmod g 26))))], _, rfl, (u8R f4), rfl⟩⟩ rfl (by decide) fun _ σ i6 B hO => ?_)))
      obtain ⟨i7, i8, rfl, -⟩ := B.form
      have hO := zop6 hO
      refine ze (zbs ⟨(zA rfl (hO.val (i := 1) (off := 6) (agg := false) (n := 1) rfl rfl) rfl), (zA rfl (hO.val (i := 0) (off := 1) (agg := false) (n := 1) rfl rfl) rfl), trivial⟩ ?_)
      refine ze (zF (zdW (l := ([z956, z957] : List UInt8)) ((B.rd hO (i := 5) rfl).le (Hp.le.refl _)) rfl ?_))
      refine ze (zF (zdI (zdQ h5) ?_))
      refine ze (zF (zd hO [] [(78, .agg #[(.int .u8 1), (.int .i64 0), (.string b0), (.string znS), (.string znS), (.int .u8 2), (.int .i64 0), (.string znS), (zor S ([(⟨(2 : UInt8), 0, znS, znS, znS, []⟩ : zc)] : List zc) U), (.slice none 0 0), (.slice none 0 0)])] [1, 5, 6, 7, 60, 63, 79, 80] zoc fun j => ?_))
      refine zbc ?_
      obtain ⟨_, q, b2, hO⟩ := W.share hO (i := 3) rfl
      have hL := hL.trans q
      have h := h.le q
      have k := k.le q
      have hO := zop6 hO
      refine zdk (T := zH) hO h (i := 2) rfl rfl rfl b2 d0 (by decide) fun _ σ b3 E hO => ?_
      obtain ⟨b4, b6, rfl, -⟩ := E.form
      have hO := zop6 hO
      refine ze (zF (zb4 rfl rfl (by decide) (by decide) ?_))
      refine ze (zF (zd hO [] [(83, .pointer (some ⟨z, 6, none⟩))] [1, 5, 6, 7, 78, 79, 81] zob fun j => ?_))
      refine zbc (zu hO (i := 1) rfl (off := 6) rfl rfl rfl rfl (Nat.le_of_ble_eq_true rfl) rfl fun σ hO => ?_)
      have hO := zop6 hO
      refine ze (zcV (zh (zi ?_)))
      have hO := hO.sel [0, 1, 2, 4]
      exact ⟨b4, b6, b3, (o ++ ([(⟨(0 : UInt8), 0, znS, znS, znS, (⟨(0 : UInt8), 0, znS⟩ : zk), [], [], []⟩ : zf)] : List zf)), b0, S, U, c1, ([(⟨(2 : UInt8), 0, znS, znS, znS, []⟩ : zc)] : List zc), _, zoj zn9, hO, hL, E, k, hF⟩
     rintro e σ ⟨h2, h3, k8, c7, g3, i4, i5, k9, c8, _, hA, hO, hL, j2, r8, hF⟩
     rw [← zW _ _ hA]
     unfold zge at hF
     obtain ⟨y8, n0, hF⟩ := zoq hF
     refine zdg (T := zH) hO j2 (i := 2) rfl rfl rfl n0 (by decide) fun a935 _ r9 y9 t0 => ?_
     have t1 := r9
     obtain ⟨A0, A1, A2, rfl, l0, l1, l2⟩ := zgb t1
     obtain ⟨A3, A4, rfl, -⟩ := l0.form
     obtain ⟨A5, A6, rfl, -⟩ := l1.form
     obtain ⟨A7, A9, rfl, -⟩ := l2.form
     obtain ⟨_, h6, t2, hO⟩ := r8.share hO (i := 3) rfl
     have hL := hL.trans h6
     have j2 := j2.le h6
     have l0 := l0.le h6
     have l1 := l1.le h6
     have l2 := l2.le h6
     have hO := zop4 hO
     refine zjL (T := zH) (z' := (⟨(1 : UInt8), 0, g3, znS, znS, (⟨(2 : UInt8), 0, znS⟩ : zk), c8, [], []⟩ : zf)) (vs := [.int .u8 1, .int .i64 0, .string g3, .string znS, .string znS, .int .u8 2, .int .i64 0, .string znS, .slice i4 c8.length i5, .slice none 0 0, .slice none 0 0]) hO j2 (i := 2) rfl rfl t0 n0 rfl rfl (zbL ⟨_, _, _, rfl, t2, RdT.nil _ _, RdT.nil _ _⟩) fun σ t3 n1 hO => ?_
     have hO := zop4 hO
     refine ze (zh (zX (zi (zbi (zd hO [] [(7, zok (IntKind.i64.wrap (g + 1)))] [1, 5, 6] zn7 fun j => ?_)))))
     refine zh (zi ?_)
     have hO := hO.sel [0, 1, 2]
     exact ⟨c6, Nat.lt_succ_self _, c7.length, h2, h3, t3, (c7.set (Int.toNat (o.length : Int)) (⟨(1 : UInt8), 0, g3, znS, znS, (⟨(2 : UInt8), 0, znS⟩ : zk), c8, [], []⟩ : zf)), (IntKind.i64.wrap (g + 1)), _, zoj zn6, hO, hL, n1.len, n1, hF⟩
    refine zF (zd hO [] [(85, .pointer (some ⟨D, 1, none⟩))] [1, 5, 6, 7] zn8 fun j => ?_)
    refine zF (zd hO [0] [(86, .slice (some ⟨z, 0, none⟩) 1 1)] [1, 5, 6, 7, 85] (And.intro (And.intro rfl rfl) zn9) fun j => ?_)
    refine zF (zd hO [] [(87, .pointer (some ⟨D, 1, none⟩))] [1, 5, 6, 7, 85, 86] zoa fun j => ?_)
    refine zF (zd hO [0] [(88, .slice (some ⟨z, 0, none⟩) 1 1)] [1, 5, 6, 7, 85, 86, 87] (And.intro (And.intro rfl rfl) zob) fun j => ?_)
    refine zF (zb4 rfl rfl (by decide) (by decide) ?_)
    refine ze (zF (zd hO [] [(90, .pointer (some ⟨z, 6, none⟩))] [1, 5, 6, 7, 85, 86, 87, 88] zoc fun j => ?_))
    refine zF (zd hO [1] [(91, zor d7 o d8)] [1, 5, 6, 7, 85, 86, 87, 88, 90] (And.intro (And.intro rfl rfl) zod) fun j => ?_)
    refine zF (zd hO [] [(92, zok g)] [1, 5, 6, 7, 85, 86, 87, 88, 90, 91] zoe fun j => ?_)
    refine zF (zd hO [] [(93, zok (IntKind.i64.wrap (Int.tdiv g 26)))] [1, 5, 6, 7, 85, 86, 87, 88, 90, 91] zoe fun j => ?_)
    refine zF (zD hO [] [(1, .bool p1), (5, zol D), (6, zok x20), (7, zok g), (85, .pointer (some ⟨D, 1, none⟩)), (86, .slice (some ⟨z, 0, none⟩) 1 1), (87, .pointer (some ⟨D, 1, none⟩)), (88, .slice (some ⟨z, 0, none⟩) 1 1), (90, .pointer (some ⟨z, 6, none⟩)), (91, zor d7 o d8), (94, .int .u8 (IntKind.u8.wrap (IntKind.i64.wrap (Int.tdiv g 26))))] zoe fun j => ?_)
    refine zF (zd hO [] [(95, .int .u8 (IntKind.u8.wrap (97 + (IntKind.u8.wrap (IntKind.i64.wrap (Int.tdiv g 26))))))] [1, 5, 6, 7, 85, 86, 87, 88, 90, 91] zoe fun j => ?_)
    refine zF (zd hO [] [(96, zok g)] [1, 5, 6, 7, 85, 86, 87, 88, 90, 91, 95] zof fun j => ?_)
    refine zF (zd hO [] [(97, zok (Int.tmod g 26))] [1, 5, 6, 7, 85, 86, 87, 88, 90, 91, 95] zof fun j => ?_)
    refine zF (zd hO [] [(98, .int .u8 (IntKind.u8.wrap (Int.tmod g 26)))] [1, 5, 6, 7, 85, 86, 87, 88, 90, 91, 95] zof fun j => ?_)
    refine zF (zd hO [] [(99, .int .u8 (IntKind.u8.wrap (97 + (IntKind.u8.wrap (Int.tmod g 26)))))] [1, 5, 6, 7, 85, 86, 87, 88, 90, 91, 95] zof fun j => ?_)
    refine zF (zd hO [] [(103, .agg #[(.int .u8 2), (.int .i64 0), (.string znS)])] [1, 5, 6, 7, 85, 86, 87, 88, 90, 91, 95, 99] zog fun j => ?_)
    refine zF (zd hO [] [(104, .agg #[(.int .u8 2), (.int .i64 0), (.string znS), (.string znS), (.string znS), (.slice none 0 0)])] [1, 5, 6, 7, 85, 86, 87, 88, 90, 91, 95, 99, 103] zoh fun j => ?_)
    obtain ⟨z979, l7, hF⟩ := zoq hF
    obtain ⟨z980, l8, hF⟩ := zoq hF
    obtain ⟨X, n2, hF⟩ := zoq hF
    obtain ⟨_, k3, hF⟩ := zoq hF
    refine zdC ?_ ?_
    ·refine zbc (zbt (z5 (T := Ty.u8) (l := ([z979, z980] : List UInt8)) (cs := [.int .u8 (IntKind.u8.wrap (97 + (IntKind.u8.wrap (IntKind.i64.wrap (Int.tdiv g 26))))), .int .u8 (IntKind.u8.wrap (97 + (IntKind.u8.wrap (Int.tmod g 26))))]) hO rfl ⟨[.int .u8 (IntKind.u8.wrap (97 + (IntKind.u8.wrap (IntKind.i64.wrap (Int.tdiv g 26)))))], _, rfl, (u8R l7), ⟨[.int .u8 (IntKind.u8.wrap (97 + (IntKind.u8.wrap (Int.tmod g 26))))], _, rfl, (u8R l8), rfl⟩⟩ rfl (by decide) fun _ σ t4 g4 hO => ?_))
     obtain ⟨t5, t6, rfl, -⟩ := g4.form
     have hO := zop4 hO
     refine ze (zbs ⟨(zA rfl (hO.val (i := 1) (off := 6) (agg := false) (n := 1) rfl rfl) rfl), (zA rfl (hO.val (i := 0) (off := 1) (agg := false) (n := 1) rfl rfl) rfl), (zA rfl (hO.val (i := 0) (off := 1) (agg := false) (n := 1) rfl rfl) rfl), trivial⟩ ?_)
     refine ze (zF (zdW (l := ([z979, z980] : List UInt8)) ((g4.rd hO (i := 3) rfl).le (Hp.le.refl _)) rfl ?_))
     refine ze (zF (zdI (zdQ n2) ?_))
     refine ze (zbc (zbt (z5 (T := zZ) (l := ([(⟨(2 : UInt8), 0, znS, znS, znS, []⟩ : zc)] : List zc)) (cs := [.int .u8 2, .int .i64 0, .string znS, .string znS, .string znS, .slice none 0 0]) hO rfl ⟨[.int .u8 2, .int .i64 0, .string znS, .string znS, .string znS, .slice none 0 0], _, rfl, (zb6 ⟨_, rfl, RdT.nil _ _⟩), rfl⟩ rfl (by decide) fun _ σ t7 h7 hO => ?_)))
     obtain ⟨d9, f0, rfl, -⟩ := h7.form
     have hO := zop5 hO
     refine ze (zbs ⟨(zee (l := ([z979, z980] : List UInt8)) ((g4.rd hO (i := 3) rfl).le (Hp.le.refl _)) rfl rfl), (zA rfl (hO.val (i := 1) (off := 6) (agg := false) (n := 1) rfl rfl) rfl), (zA rfl (hO.val (i := 0) (off := 1) (agg := false) (n := 1) rfl rfl) rfl), (zA rfl (hO.val (i := 0) (off := 1) (agg := false) (n := 1) rfl rfl) rfl), trivial⟩ ?_)
     refine ze (zF (zd hO [] [(106, .agg #[(.int .u8 1), (.int .i64 0), (.string X), (.string znS), (.string znS), (.int .u8 2), (.int .i64 0), (.string znS), (zor d9 ([(⟨(2 : UInt8), 0, znS, znS, znS, []⟩ : zc)] : List zc) f0), (.slice none 0 0), (.slice none 0 0)])] [1, 5, 6, 7, 85, 86, 87, 88, 90, 91] zoe fun j => ?_))
     refine zbc (zbt ?_)
     obtain ⟨_, h8, f1, hO⟩ := h7.share hO (i := 4) rfl
     have hL := hL.trans h8
     have h := h.le h8
     have hO := zop5 hO
     refine z5 (T := zH) (l := ([(⟨(1 : UInt8), 0, X, znS, znS, (⟨(2 : UInt8), 0, znS⟩ : zk), ([(⟨(2 : UInt8), 0, znS, znS, znS, []⟩ : zc)] : List zc), [], []⟩ : zf)] : List zf)) (cs := [.int .u8 1, .int .i64 0, .string X, .string znS, .string znS, .int .u8 2, .int .i64 0, .string znS, zor d9 ([(⟨(2 : UInt8), 0, znS, znS, znS, []⟩ : zc)] : List zc) f0, .slice none 0 0, .slice none 0 0]) hO rfl ⟨[.int .u8 1, .int .i64 0, .string X, .string znS, .string znS, .int .u8 2, .int .i64 0, .string znS, zor d9 ([(⟨(2 : UInt8), 0, znS, znS, znS, []⟩ : zc)] : List zc) f0, .slice none 0 0, .slice none 0 0], _, rfl, (zbL ⟨_, _, _, rfl, f1, RdT.nil _ _, RdT.nil _ _⟩), rfl⟩ rfl (by decide) fun _ σ t8 h9 hO => ?_
     obtain ⟨t9, u0, rfl, -⟩ := h9.form
     have hO := zop6 hO
     refine ze (zbs ⟨(zA rfl (hO.val (i := 1) (off := 6) (agg := false) (n := 1) rfl rfl) rfl), (zA rfl (hO.val (i := 0) (off := 1) (agg := false) (n := 1) rfl rfl) rfl), (zA rfl (hO.val (i := 0) (off := 1) (agg := false) (n := 1) rfl rfl) rfl), trivial⟩ ?_)
     refine ze (zbc (zbt ?_))
     obtain ⟨_, f2, l3, hO⟩ := h9.share hO (i := 5) rfl
     have hL := hL.trans f2
     have h := h.le f2
     have f1 := f1.le f2
     have hO := zop6 hO
     refine zdk (T := zH) hO h (i := 2) rfl rfl rfl l3 k3 (by decide) fun _ σ j3 c2 hO => ?_
     obtain ⟨i0, f5, rfl, -⟩ := c2.form
     have hO := zop6 hO
     refine ze (zbs ⟨(zA rfl (hO.val (i := 0) (off := 1) (agg := false) (n := 1) rfl rfl) rfl), trivial⟩ ?_)
     refine ze (zF (zb4 rfl rfl (by decide) (by decide) ?_))
     refine ze (zF (zD hO [] [(1, .bool p1), (5, zol D), (6, zok x20), (7, zok g), (108, .slice i0 (o ++ ([(⟨(1 : UInt8), 0, X, znS, znS, (⟨(2 : UInt8), 0, znS⟩ : zk), ([(⟨(2 : UInt8), 0, znS, znS, znS, []⟩ : zc)] : List zc), [], []⟩ : zf)] : List zf)).length f5), (110, .pointer (some ⟨z, 6, none⟩))] zn9 fun j => ?_))
     refine zbc (zu hO (i := 1) rfl (off := 6) rfl rfl rfl rfl (Nat.le_of_ble_eq_true rfl) rfl fun σ hO => ?_)
     have hO := zop6 hO
     refine ze (zcV (zh (zX (zi (zbi (zd hO [] [(7, zok (IntKind.i64.wrap (g + 1)))] [1, 5, 6] zn7 fun j => ?_))))))
     refine zh (zi ?_)
     have hO := hO.sel [0, 1, 2]
     exact ⟨c6, Nat.lt_succ_self _, (o ++ ([(⟨(1 : UInt8), 0, X, znS, znS, (⟨(2 : UInt8), 0, znS⟩ : zk), ([(⟨(2 : UInt8), 0, znS, znS, znS, []⟩ : zc)] : List zc), [], []⟩ : zf)] : List zf)).length, i0, f5, j3, (o ++ ([(⟨(1 : UInt8), 0, X, znS, znS, (⟨(2 : UInt8), 0, znS⟩ : zk), ([(⟨(2 : UInt8), 0, znS, znS, znS, []⟩ : zc)] : List zc), [], []⟩ : zf)] : List zf)), (IntKind.i64.wrap (g + 1)), _, zoj zn6, hO, hL, c2.len, c2, hF⟩
    refine zbc (zbt (z5 (T := zZ) (l := ([(⟨(2 : UInt8), 0, znS, znS, znS, []⟩ : zc)] : List zc)) (cs := [.int .u8 2, .int .i64 0, .string znS, .string znS, .string znS, .slice none 0 0]) hO rfl ⟨[.int .u8 2, .int .i64 0, .string znS, .string znS, .string znS, .slice none 0 0], _, rfl, (zb6 ⟨_, rfl, RdT.nil _ _⟩), rfl⟩ rfl (by decide) fun _ σ t7 h7 hO => ?_))
    obtain ⟨d9, f0, rfl, -⟩ := h7.form
    have hO := zop4 hO
    refine ze (zbs ⟨(zA rfl (hO.val (i := 1) (off := 6) (agg := false) (n := 1) rfl rfl) rfl), (zA rfl (hO.val (i := 0) (off := 1) (agg := false) (n := 1) rfl rfl) rfl), (zA rfl (hO.val (i := 0) (off := 1) (agg := false) (n := 1) rfl rfl) rfl), trivial⟩ ?_)
    refine ze (zbc (zbt (z5 (T := Ty.u8) (l := ([z979, z980] : List UInt8)) (cs := [.int .u8 (IntKind.u8.wrap (97 + (IntKind.u8.wrap (IntKind.i64.wrap (Int.tdiv g 26))))), .int .u8 (IntKind.u8.wrap (97 + (IntKind.u8.wrap (Int.tmod g 26))))]) hO rfl ⟨[.int .u8 (IntKind.u8.wrap (97 + (IntKind.u8.wrap (IntKind.i64.wrap (Int.tdiv g 26)))))], _, rfl, (u8R l7), ⟨[.int .u8 (IntKind.u8.wrap (97 + (IntKind.u8.wrap (Int.tmod g 26))))], _, rfl, (u8R l8), rfl⟩⟩ rfl (by decide) fun _ σ t4 g4 hO => ?_)))
    obtain ⟨t5, t6, rfl, -⟩ := g4.form
    have hO := zop5 hO
    refine ze (zbs ⟨(zA rfl (hO.val (i := 1) (off := 6) (agg := false) (n := 1) rfl rfl) rfl), (zA rfl (hO.val (i := 0) (off := 1) (agg := false) (n := 1) rfl rfl) rfl), (zA rfl (hO.val (i := 0) (off := 1) (agg := false) (n := 1) rfl rfl) rfl), trivial⟩ ?_)
    refine ze (zF (zdW (l := ([z979, z980] : List UInt8)) ((g4.rd hO (i := 4) rfl).le (Hp.le.refl _)) rfl ?_))
    refine ze (zF (zdI (zdQ n2) ?_))
    refine ze (zF (zd hO [] [(106, .agg #[(.int .u8 1), (.int .i64 0), (.string X), (.string znS), (.string znS), (.int .u8 2), (.int .i64 0), (.string znS), (zor d9 ([(⟨(2 : UInt8), 0, znS, znS, znS, []⟩ : zc)] : List zc) f0), (.slice none 0 0), (.slice none 0 0)])] [1, 5, 6, 7, 85, 86, 87, 88, 90, 91] zoe fun j => ?_))
    refine zbc (zbt ?_)
    obtain ⟨_, h8, f1, hO⟩ := h7.share hO (i := 3) rfl
    have hL := hL.trans h8
    have h := h.le h8
    have hO := zop5 hO
    refine z5 (T := zH) (l := ([(⟨(1 : UInt8), 0, X, znS, znS, (⟨(2 : UInt8), 0, znS⟩ : zk), ([(⟨(2 : UInt8), 0, znS, znS, znS, []⟩ : zc)] : List zc), [], []⟩ : zf)] : List zf)) (cs := [.int .u8 1, .int .i64 0, .string X, .string znS, .string znS, .int .u8 2, .int .i64 0, .string znS, zor d9 ([(⟨(2 : UInt8), 0, znS, znS, znS, []⟩ : zc)] : List zc) f0, .slice none 0 0, .slice none 0 0]) hO rfl ⟨[.int .u8 1, .int .i64 0, .string X, .string znS, .string znS, .int .u8 2, .int .i64 0, .string znS, zor d9 ([(⟨(2 : UInt8), 0, znS, znS, znS, []⟩ : zc)] : List zc) f0, .slice none 0 0, .slice none 0 0], _, rfl, (zbL ⟨_, _, _, rfl, f1, RdT.nil _ _, RdT.nil _ _⟩), rfl⟩ rfl (by decide) fun _ σ t8 h9 hO => ?_
    obtain ⟨t9, u0, rfl, -⟩ := h9.form
    have hO := zop6 hO
    refine ze (zbs ⟨(zA rfl (hO.val (i := 1) (off := 6) (agg := false) (n := 1) rfl rfl) rfl), (zA rfl (hO.val (i := 0) (off := 1) (agg := false) (n := 1) rfl rfl) rfl), (zA rfl (hO.val (i := 0) (off := 1) (agg := false) (n := 1) rfl rfl) rfl), trivial⟩ ?_)
    refine ze (zbc (zbt ?_))
    obtain ⟨_, f2, l3, hO⟩ := h9.share hO (i := 5) rfl
    have hL := hL.trans f2
    have h := h.le f2
    have f1 := f1.le f2
    have hO := zop6 hO
    refine zdk (T := zH) hO h (i := 2) rfl rfl rfl l3 k3 (by decide) fun _ σ j3 c2 hO => ?_
    obtain ⟨i0, f5, rfl, -⟩ := c2.form
    have hO := zop6 hO
    refine ze (zbs ⟨(zA rfl (hO.val (i := 0) (off := 1) (agg := false) (n := 1) rfl rfl) rfl), trivial⟩ ?_)
    refine ze (zF (zb4 rfl rfl (by decide) (by decide) ?_))
    refine ze (zF (zD hO [] [(1, .bool p1), (5, zol D), (6, zok x20), (7, zok g), (108, .slice i0 (o ++ ([(⟨(1 : UInt8), 0, X, znS, znS, (⟨(2 : UInt8), 0, znS⟩ : zk), ([(⟨(2 : UInt8), 0, znS, znS, znS, []⟩ : zc)] : List zc), [], []⟩ : zf)] : List zf)).length f5), (110, .pointer (some ⟨z, 6, none⟩))] zn9 fun j => ?_))
    refine zbc (zu hO (i := 1) rfl (off := 6) rfl rfl rfl rfl (Nat.le_of_ble_eq_true rfl) rfl fun σ hO => ?_)
    have hO := zop6 hO
    refine ze (zcV (zh (zX (zi (zbi (zd hO [] [(7, zok (IntKind.i64.wrap (g + 1)))] [1, 5, 6] zn7 fun j => ?_))))))
    refine zh (zi ?_)
    have hO := hO.sel [0, 1, 2]
    exact ⟨c6, Nat.lt_succ_self _, (o ++ ([(⟨(1 : UInt8), 0, X, znS, znS, (⟨(2 : UInt8), 0, znS⟩ : zk), ([(⟨(2 : UInt8), 0, znS, znS, znS, []⟩ : zc)] : List zc), [], []⟩ : zf)] : List zf)).length, i0, f5, j3, (o ++ ([(⟨(1 : UInt8), 0, X, znS, znS, (⟨(2 : UInt8), 0, znS⟩ : zk), ([(⟨(2 : UInt8), 0, znS, znS, znS, []⟩ : zc)] : List zc), [], []⟩ : zf)] : List zf)), (IntKind.i64.wrap (g + 1)), _, zoj zn6, hO, hL, c2.len, c2, hF⟩
   obtain ⟨_, o5, o6, hO⟩ := k5.share hO (i := 2) rfl
   have hL := hL.trans o5
   have hO := zop3 hO
   have o7 : za zt 53 _ (.slice (some ⟨z, 0, none⟩) 1 1) ([(⟨znT, 1, [], (⟨(0 : UInt8), 0, znS⟩ : zk), Z⟩ : zB)] : List zB) (zcc z znT 1 (.slice none 0 0) 0 0 znS (.slice c4 Z.length c5)) := za.ofRow (n := 1) ⟨[.string znT, .int .i64 1, .slice none 0 0, .int .u8 0, .int .i64 0, .string znS, .slice c4 Z.length c5], _, rfl, ⟨_, _, rfl, RdT.nil _ _, o6⟩, rfl⟩ rfl rfl (by decide)
   refine zb9 (zbR (zbX (zi (zh (zX (zi ?_))))))
   have hO := hO.sel [0, 1]
   exact ⟨(some ⟨z, 0, none⟩), 1, (zcc z znT 1 (.slice none 0 0) 0 0 znS (.slice c4 Z.length c5)), ([(⟨znT, 1, [], (⟨(0 : UInt8), 0, znS⟩ : zk), Z⟩ : zB)] : List zB), _, zoj zn4, hO, hL, o7, hF⟩
  refine zn (zd hO [] [(111, .bool ((Int.tmod p0 3) == 1))] [1, 5, 6] zn7 fun j => ?_)
  refine zz hF rfl (fun hF => ?_) fun hF => ?_
  ·refine zn (zd hO [] [(8, zok 0)] [1, 5, 6] zn7 fun j => ?_)
   obtain ⟨_, o8, o9, hO⟩ := k2.share hO (i := 2) rfl
   have hL := hL.trans o8
   have hO := zop3 hO
   have p2 : za zt 53 _ (.slice (some ⟨z, 0, none⟩) 1 1) ([(⟨znT, 1, [], (⟨(0 : UInt8), 0, znS⟩ : zk), b8⟩ : zB)] : List zB) (zcc z znT 1 (.slice none 0 0) 0 0 znS (.slice g5 b8.length g6)) := za.ofRow (n := 1) ⟨[.string znT, .int .i64 1, .slice none 0 0, .int .u8 0, .int .i64 0, .string znS, .slice g5 b8.length g6], _, rfl, ⟨_, _, rfl, RdT.nil _ _, o9⟩, rfl⟩ rfl rfl (by decide)
   refine zbr ?_
   have hO := hO.sel [0, 1]
   refine zcg (fun (n : Nat) e' σ' => ∃ (f6 : Option Addr) (f7 : Nat) (g7 : Ob) (b1 : List zB) (G : Int) (τ' : Hp), agr [(1, .bool p1), (5, zol D), (6, zok x20), (8, zok G)] e' ∧ Obs τ' σ' [some (D, ⟨[.slice none 0 0, zor f6 b1 f7], 25, 2, true⟩), g7] ∧ Hp.le τ τ' ∧ za zt 53 τ' (zor f6 b1 f7) b1 g7 ∧ zel p1 x20 n b1 G = some rr) big ⟨(some ⟨z, 0, none⟩), 1, (zcc z znT 1 (.slice none 0 0) 0 0 znS (zor g5 b8 g6)), ([(⟨znT, 1, [], (⟨(0 : UInt8), 0, znS⟩ : zk), b8⟩ : zB)] : List zB), 0, _, zoj zn6, hO, hL, p2, hF⟩ ?_
   clear hF hO hL
   rintro g8 e σ ⟨f6, f7, g7, b1, G, _, hA, hO, hL, l9, hF⟩
   rw [← zW _ _ hA]
   cases g8 with
   | zero => exact nomatch (show none = some rr from hF)
   | succ g8 =>
   replace hF : zhA (zel p1 x20 g8) p1 x20 b1 G = some rr := hF
   unfold zhA at hF
   refine zn (zd hO [] [(116, .bool (decide (G < (IntKind.i64.wrap (63 + x20)))))] [1, 5, 6, 8] zn8 fun j => ?_)
   refine zz hF rfl (fun hF => ?_) fun hF => ?_
   ·refine zN (zbr (zbi (zg hO 10 [0] [(120, zor f6 b1 f7), (124, .int .u8 (IntKind.u8.wrap (97 + (IntKind.u8.wrap (IntKind.i64.wrap (Int.tdiv G 26)))))), (128, .int .u8 (IntKind.u8.wrap (97 + (IntKind.u8.wrap (Int.tmod G 26)))))] [1, 5, 6, 8] (And.intro (And.intro rfl rfl) zoa) fun j => ?_)))
    obtain ⟨z1052, n3, hF⟩ := zoq hF
    obtain ⟨z1053, n4, hF⟩ := zoq hF
    refine z5 (T := Ty.u8) (l := ([z1052, z1053] : List UInt8)) (cs := [.int .u8 (IntKind.u8.wrap (97 + (IntKind.u8.wrap (IntKind.i64.wrap (Int.tdiv G 26))))), .int .u8 (IntKind.u8.wrap (97 + (IntKind.u8.wrap (Int.tmod G 26))))]) hO rfl ⟨[.int .u8 (IntKind.u8.wrap (97 + (IntKind.u8.wrap (IntKind.i64.wrap (Int.tdiv G 26)))))], _, rfl, (u8R n3), ⟨[.int .u8 (IntKind.u8.wrap (97 + (IntKind.u8.wrap (Int.tmod G 26))))], _, rfl, (u8R n4), rfl⟩⟩ rfl (by decide) fun _ σ w6 m0 hO => ?_
    obtain ⟨w8, w9, rfl, -⟩ := m0.form
    have hO := zop3 hO
    refine zdW (l := ([z1052, z1053] : List UInt8)) ((m0.rd hO (i := 2) rfl).le (Hp.le.refl _)) rfl ?_
    obtain ⟨j4, p3, hF⟩ := zoq hF
    refine zdI (zdQ p3) ?_
    refine zg hO 1 [] [(132, .agg #[(.string j4), (.int .i64 0), (.slice none 0 0), (.int .u8 0), (.int .i64 0), (.string znS), (.slice none 0 0)])] [1, 5, 6, 8, 120] zn9 fun j => ?_
    obtain ⟨_, n5, hF⟩ := zoq hF
    refine zdt (T := zt) (y := (⟨j4, 0, [], (⟨(0 : UInt8), 0, znS⟩ : zk), []⟩ : zB)) hO l9 (i := 1) rfl rfl (fun _ => rfl) rfl ⟨_, _, rfl, RdT.nil _ _, RdT.nil _ _⟩ rfl n5 (by decide) fun u _ σ p4 m1 hO => ?_
    obtain ⟨p5, p6, rfl, -⟩ := m1.form
    have hO := zop3 hO
    refine zg hO 1 [] [(135, .pointer (some ⟨D, 1, none⟩))] [1, 5, 6, 8, 134] zn9 fun j => ?_
    refine zu hO (i := 0) rfl (off := 1) rfl rfl rfl rfl (Nat.le_of_ble_eq_true rfl) rfl fun σ hO => ?_
    have hO := zop3 hO
    refine ze (zh (zX (zi (zbi (zd hO [] [(8, zok (IntKind.i64.wrap (G + 1)))] [1, 5, 6] zn7 fun j => ?_)))))
    refine zh (zi ?_)
    have hO := hO.sel [0, 1]
    exact ⟨g8, Nat.lt_succ_self _, p5, p6, p4, (b1 ++ [(⟨j4, 0, [], (⟨(0 : UInt8), 0, znS⟩ : zk), []⟩ : zB)]), (IntKind.i64.wrap (G + 1)), _, zoj zn6, hO, hL, m1, hF⟩
   refine zb9 (zbR (zbX (zi (zh (zX (zi ?_))))))
   exact ⟨f6, f7, g7, b1, _, zoj zn4, hO, hL, l9, hF⟩
  refine zn (zd hO [] [(9, zok 0)] [1, 5, 6] zn7 fun j => ?_)
  refine zbr (zcg (fun (n : Nat) e' σ' => ∃ (g9 : Nat) (b9 : Option Addr) (c0 : Nat) (f8 : Ob) (V : List zf) (Y : Int) (τ' : Hp), agr [(1, .bool p1), (5, zol D), (6, zok x20), (9, zok Y)] e' ∧ Obs τ' σ' [some (D, ⟨[.slice none 0 0, .slice (some ⟨z, 0, none⟩) 1 1], 25, 2, true⟩), zcc z znT 1 (.slice none 0 0) 0 0 znS (.slice b9 g9 c0), f8] ∧ Hp.le τ τ' ∧ g9 = V.length ∧ za zH 73 τ' (.slice b9 g9 c0) V f8 ∧ zdm p1 x20 n V Y = some rr) big ⟨b8.length, g5, g6, k0, b8, 0, _, zoj zn6, hO, hL, k2.len, k2, hF⟩ ?_)
  clear hF hO hL
  rintro d5 e σ ⟨g9, b9, c0, f8, V, Y, _, hA, hO, hL, n6, j5, hF⟩
  rw [← zW _ _ hA]
  cases d5 with
  | zero => exact nomatch (show none = some rr from hF)
  | succ d5 =>
  replace hF : zfK (zdm p1 x20 d5) p1 x20 V Y = some rr := hF
  unfold zfK at hF
  subst n6
  refine zn (zd hO [] [(20, .bool (decide (Y < (IntKind.i64.wrap (996 + x20)))))] [1, 5, 6, 9] zn8 fun j => ?_)
  refine zz hF rfl (fun hF => ?_) fun hF => ?_
  ·refine zN (zbr (zbc (zbm hO fun x0 σ hO => ?_)))
   have hO := zop4 hO
   refine ze (zcL (fun e' σ' => ∃ (f9 : Option Addr) (g0 : Nat) (j6 : Ob) (I : List zf) (j7 : Bool) (τ' : Hp), agr [(1, .bool p1), (5, zol D), (6, zok x20), (9, zok Y), (24, .bool j7)] e' ∧ Obs τ' σ' [some (D, ⟨[.slice none 0 0, .slice (some ⟨z, 0, none⟩) 1 1], 25, 2, true⟩), zcc z znT 1 (.slice none 0 0) 0 0 znS (zor f9 I g0), j6] ∧ Hp.le τ τ' ∧ za zH 73 τ' (zor f9 I g0) I j6 ∧ zeg (zdm p1 x20 d5) Y I j7 = some rr) ?_ ?_)
   ·refine zih (zdC ?_ ?_)
    ·refine zbc (zu hO (i := 3) rfl (off := 0) rfl rfl rfl rfl (Nat.le_of_ble_eq_true rfl) rfl fun σ hO => ?_)
     have hO := zop4 hO
     refine ze (zbc (zu hO (i := 3) rfl (off := 0) rfl rfl rfl rfl (Nat.le_of_ble_eq_true rfl) rfl fun σ hO => ?_))
     have hO := zop4 hO
     refine ze (zF (zd hO [3] [(24, .bool false)] [1, 5, 6, 9] (And.intro (And.intro rfl rfl) zn8) fun j => ?_))
     refine zcV (zh (zi ?_))
     have hO := hO.sel [0, 1, 2]
     exact ⟨b9, c0, f8, V, false, _, zoj zn7, hO, hL, j5, hF⟩
    refine zbc (zu hO (i := 3) rfl (off := 0) rfl rfl rfl rfl (Nat.le_of_ble_eq_true rfl) rfl fun σ hO => ?_)
    have hO := zop4 hO
    refine ze (zbc (zu hO (i := 3) rfl (off := 0) rfl rfl rfl rfl (Nat.le_of_ble_eq_true rfl) rfl fun σ hO => ?_))
    have hO := zop4 hO
    refine ze (zF (zd hO [3] [(24, .bool true)] [1, 5, 6, 9] (And.intro (And.intro rfl rfl) zn8) fun j => ?_))
    refine zcV (zh (zi ?_))
    have hO := hO.sel [0, 1, 2]
    exact ⟨b9, c0, f8, V, true, _, zoj zn7, hO, hL, j5, zln hF⟩
   rintro e σ ⟨f9, g0, j6, I, j7, _, hA, hO, hL, h0, hF⟩
   rw [← zW _ _ hA]
   unfold zeg at hF
   refine zbz (zz hF rfl (fun hF => ?_) fun hF => ?_)
   ·refine zn (zg hO 2 [0] [(26, .slice (some ⟨z, 0, none⟩) 1 1)] [1, 5, 6, 9] (And.intro (And.intro rfl rfl) zn8) fun j => ?_)
    refine zb4 rfl rfl (by decide) (by decide) ?_
    refine zg hO 4 [1] [(29, zor f9 I g0), (30, .agg #[(.int .u8 10), (.int .i64 0), (.string znS), (.string znS), (.string znS), (.int .u8 0), (.int .i64 0), (.string znS), (.slice none 0 0), (.slice none 0 0), (.slice none 0 0)]), (31, zok (I.length : Int))] [1, 5, 6, 9, 26] (And.intro (And.intro rfl rfl) zob) fun j => ?_
    obtain ⟨_, n7, hF⟩ := zoq hF
    refine zlh (T := zH) (y := (⟨(0 : UInt8), 0, znS, znS, znS, (⟨(0 : UInt8), 0, znS⟩ : zk), [], [], []⟩ : zf)) hO h0 (i := 2) rfl rfl (fun _ => rfl) rfl (zbL ⟨_, _, _, rfl, RdT.nil _ _, RdT.nil _ _, RdT.nil _ _⟩) rfl n7 (by decide) fun u _ σ x1 j8 hO => ?_
    obtain ⟨p7, p8, rfl, -⟩ := j8.form
    have hO := zop3 hO
    refine zb4 rfl rfl (by decide) (by decide) ?_
    refine zg hO 1 [] [(35, .pointer (some ⟨z, 6, none⟩))] [1, 5, 6, 9, 30, 31, 33] zob fun j => ?_
    refine zu hO (i := 1) rfl (off := 6) rfl rfl rfl rfl (Nat.le_of_ble_eq_true rfl) rfl fun σ hO => ?_
    have hO := zop3 hO
    refine ze ?_
    obtain ⟨x2, m2, hF⟩ := zoq hF
    refine zdg (T := zH) hO j8 (i := 2) rfl rfl rfl m2 (by decide) fun a1193 _ p9 x3 q2 => ?_
    have q3 := p9
    obtain ⟨x4, x5, x6, rfl, q4, q5, q6⟩ := zgb q3
    obtain ⟨x7, x8, rfl, -⟩ := q4.form
    obtain ⟨x9, y0, rfl, -⟩ := q5.form
    obtain ⟨y1, y2, rfl, -⟩ := q6.form
    refine zjL (T := zH) (z' := (⟨(10 : UInt8), 0, znS, znS, znS, (⟨(0 : UInt8), 0, znS⟩ : zk), [], [], []⟩ : zf)) (vs := [.int .u8 10, .int .i64 0, .string znS, .string znS, .string znS, .int .u8 0, .int .i64 0, .string znS, .slice none 0 0, .slice none 0 0, .slice none 0 0]) hO j8 (i := 2) rfl rfl q2 m2 rfl rfl (zbL ⟨_, _, _, rfl, RdT.nil _ _, RdT.nil _ _, RdT.nil _ _⟩) fun σ q7 m3 hO => ?_
    have hO := zop3 hO
    refine ze (zh (zX (zi (zbi (zd hO [] [(9, zok (IntKind.i64.wrap (Y + 1)))] [1, 5, 6] zn7 fun j => ?_)))))
    refine zh (zi ?_)
    exact ⟨d5, Nat.lt_succ_self _, (I ++ [(⟨(0 : UInt8), 0, znS, znS, znS, (⟨(0 : UInt8), 0, znS⟩ : zk), [], [], []⟩ : zf)]).length, p7, p8, q7, ((I ++ [(⟨(0 : UInt8), 0, znS, znS, znS, (⟨(0 : UInt8), 0, znS⟩ : zk), [], [], []⟩ : zf)]).set (Int.toNat (I.length : Int)) (⟨(10 : UInt8), 0, znS, znS, znS, (⟨(0 : UInt8), 0, znS⟩ : zk), [], [], []⟩ : zf)), (IntKind.i64.wrap (Y + 1)), _, zoj zn6, hO, hL, m3.len, m3, hF⟩
   refine zcQ (zg hO 4 [0, 0] [(37, .pointer (some ⟨D, 1, none⟩)), (38, .slice (some ⟨z, 0, none⟩) 1 1), (39, .pointer (some ⟨D, 1, none⟩)), (40, .slice (some ⟨z, 0, none⟩) 1 1)] [1, 5, 6, 9] (And.intro (And.intro rfl rfl) (And.intro (And.intro rfl rfl) zob)) fun j => ?_)
   refine zb4 rfl rfl (by decide) (by decide) ?_
   refine zg hO 3 [1] [(42, .pointer (some ⟨z, 6, none⟩)), (43, zor f9 I g0), (44, .agg #[(.int .u8 10), (.int .i64 0), (.string znS), (.string znS), (.string znS), (.int .u8 0), (.int .i64 0), (.string znS), (.slice none 0 0), (.slice none 0 0), (.slice none 0 0)])] [1, 5, 6, 9, 37, 38, 39, 40] (And.intro (And.intro rfl rfl) zoe) fun j => ?_
   refine zbt (z5 (T := zH) (l := ([(⟨(10 : UInt8), 0, znS, znS, znS, (⟨(0 : UInt8), 0, znS⟩ : zk), [], [], []⟩ : zf)] : List zf)) (cs := [.int .u8 10, .int .i64 0, .string znS, .string znS, .string znS, .int .u8 0, .int .i64 0, .string znS, .slice none 0 0, .slice none 0 0, .slice none 0 0]) hO rfl ⟨[.int .u8 10, .int .i64 0, .string znS, .string znS, .string znS, .int .u8 0, .int .i64 0, .string znS, .slice none 0 0, .slice none 0 0, .slice none 0 0], _, rfl, (zbL ⟨_, _, _, rfl, RdT.nil _ _, RdT.nil _ _, RdT.nil _ _⟩), rfl⟩ rfl (by decide) fun _ σ y3 m4 hO => ?_)
   obtain ⟨y4, y5, rfl, -⟩ := m4.form
   have hO := zop4 hO
   refine ze (zbs ⟨(zA rfl (hO.val (i := 1) (off := 6) (agg := false) (n := 1) rfl rfl) rfl), (zA rfl (hO.val (i := 0) (off := 1) (agg := false) (n := 1) rfl rfl) rfl), (zA rfl (hO.val (i := 0) (off := 1) (agg := false) (n := 1) rfl rfl) rfl), trivial⟩ ?_)
   refine zbt ?_
   obtain ⟨_, m5, q8, hO⟩ := m4.share hO (i := 3) rfl
   have hL := hL.trans m5
   have h0 := h0.le m5
   have hO := zop4 hO
   obtain ⟨_, n8, hF⟩ := zoq hF
   refine zdk (T := zH) hO h0 (i := 2) rfl rfl rfl q8 n8 (by decide) fun _ σ q9 j9 hO => ?_
   obtain ⟨r0, r1, rfl, -⟩ := j9.form
   have hO := zop4 hO
   refine ze (zbs ⟨(zA rfl (hO.val (i := 0) (off := 1) (agg := false) (n := 1) rfl rfl) rfl), trivial⟩ ?_)
   refine zb4 rfl rfl (by decide) (by decide) ?_
   refine zg hO 1 [] [(48, .pointer (some ⟨z, 6, none⟩))] [1, 5, 6, 9, 46] zn9 fun j => ?_
   refine zu hO (i := 1) rfl (off := 6) rfl rfl rfl rfl (Nat.le_of_ble_eq_true rfl) rfl fun σ hO => ?_
   have hO := zop4 hO
   refine ze (zh (zX (zi (zbi (zd hO [] [(9, zok (IntKind.i64.wrap (Y + 1)))] [1, 5, 6] zn7 fun j => ?_)))))
   refine zh (zi ?_)
   have hO := hO.sel [0, 1, 2]
   exact ⟨d5, Nat.lt_succ_self _, (I ++ ([(⟨(10 : UInt8), 0, znS, znS, znS, (⟨(0 : UInt8), 0, znS⟩ : zk), [], [], []⟩ : zf)] : List zf)).length, r0, r1, q9, (I ++ ([(⟨(10 : UInt8), 0, znS, znS, znS, (⟨(0 : UInt8), 0, znS⟩ : zk), [], [], []⟩ : zf)] : List zf)), (IntKind.i64.wrap (Y + 1)), _, zoj zn6, hO, hL, j9.len, j9, hF⟩
  obtain ⟨_, r2, r3, hO⟩ := j5.share hO (i := 2) rfl
  have hL := hL.trans r2
  have hO := zop3 hO
  have r4 : za zt 53 _ (.slice (some ⟨z, 0, none⟩) 1 1) ([(⟨znT, 1, [], (⟨(0 : UInt8), 0, znS⟩ : zk), V⟩ : zB)] : List zB) (zcc z znT 1 (.slice none 0 0) 0 0 znS (.slice b9 V.length c0)) := za.ofRow (n := 1) ⟨[.string znT, .int .i64 1, .slice none 0 0, .int .u8 0, .int .i64 0, .string znS, .slice b9 V.length c0], _, rfl, ⟨_, _, rfl, RdT.nil _ _, r3⟩, rfl⟩ rfl rfl (by decide)
  refine zb9 (zbR (zbX (zi (zh (zX (zi ?_))))))
  have hO := hO.sel [0, 1]
  exact ⟨(some ⟨z, 0, none⟩), 1, (zcc z znT 1 (.slice none 0 0) 0 0 znS (.slice b9 V.length c0)), ([(⟨znT, 1, [], (⟨(0 : UInt8), 0, znS⟩ : zk), V⟩ : zB)] : List zB), _, zoj zn4, hO, hL, r4, hF⟩
 rintro e σ ⟨i1, i2, k4, d6, _, hA, hO, hL, u1, hF⟩
 rw [← zW _ _ hA]
 unfold zdH at hF
 refine zg hO 1 [0] [(137, .agg #[(.slice none 0 0), (zor i1 d6 i2)])] [1] (And.intro (And.intro rfl rfl) zn5) fun j => ?_
 obtain ⟨_, u2, l4, hO⟩ := u1.share hO (i := 1) rfl
 have hL := hL.trans u2
 have hO := zop2 hO
 obtain ⟨b7, u3, hF⟩ := zoq hF
 refine z3 hO (zfn (p0 := (⟨[], d6⟩ : zs)) (RdT.nil _ _) l4 u3) rfl fun _ σ _ _ hO n9 u4 => ?_
 have hL := hL.trans n9
 have l4 := l4.le n9
 obtain ⟨B0, B1, rfl, rfl, u5, u6⟩ := u4
 obtain ⟨u7, u9, rfl, -⟩ := u5.form
 obtain ⟨v0, v1, rfl, -⟩ := u6.form
 have hO := zop2 hO
 refine zg hO 4 [] [(139, .agg #[(zor u7 b7.1.Bodies u9), (.int .i64 b7.1.Main), (zor v0 b7.1.Points v1)]), (140, zok b7.2.1), (141, zok b7.2.2)] [1] zn7 fun j => ?_
 refine zbm hO fun B2 σ hO => ?_
 have hO := zop3 hO
 refine zu hO (i := 2) rfl (off := 0) rfl rfl rfl rfl (Nat.le_of_ble_eq_true rfl) rfl fun σ hO => ?_
 have hO := zop3 hO
 refine zd hO [] [(11, zok b7.2.1), (12, zok b7.2.2)] [1, 10] zn7 fun j => ?_
 refine zn (zd hO [] [(142, .bool p1)] [10, 11, 12] zn7 fun j => ?_)
 refine zz hF rfl (fun hF => ?_) fun hF => ?_
 ·refine zn (zM hO 9 [2] [(155, .bool (((b7.2.1 == 0) && (b7.2.2 == 11)) && ((b7.1.Bodies.length : Int) == 0)))] (And.intro (And.intro rfl rfl) (fun _ => And.intro (And.intro rfl rfl) (And.intro (And.intro rfl rfl) (fun _ => zoj trivial)))) fun j => ?_)
  have hO := hO.sel []
  have hO : Obs _ _ [] := hO
  obtain ⟨o0, v2, hF⟩ := zoq hF
  refine zcW 2 (fun e' σ' => ∃ (τ' : Hp), agr [(157, .bool o0)] e' ∧ Obs τ' σ' [] ∧ Hp.le τ τ') ?_ ?_
  ·have hF := v2
   rcases zb8 hF with ⟨g1, hF⟩ | ⟨g1, hF⟩
   ·refine zbA (zoo g1) ?_
    obtain ⟨B3, v3, hF⟩ := zoq hF
    refine z3 hO (ziK v3) rfl fun _ σ _ _ hO v4 v5 => ?_
    have hL := hL.trans v4
    obtain ⟨rfl, rfl⟩ := v5
    have hO : Obs _ _ [] := hO
    refine zbf (zom g1) ?_
    refine ze ?_
    cases hF
    refine zh ?_
    exact ⟨rfl, _, zoj (trivial), hO, hL⟩
   refine zbI (zoo g1) ?_
   refine zbf (zom g1) ?_
   refine ze ?_
   cases hF
   refine zh ?_
   exact ⟨rfl, _, zoj (trivial), hO, hL⟩
  rintro e σ ⟨_, hA, hO, hL⟩
  rw [← zW _ _ hA]
  refine zD hO [] [(4, .bool o0)] zn4 fun j => ?_
  refine zbH ?_
  cases hF
  exact hQ _ _ _ _ _ rfl hO hL ⟨rfl, rfl⟩
 refine zN (zM hO 3 [] [(160, .bool (b7.2.2 == 0))] zn4 fun j => ?_)
 have hO := hO.sel []
 have hO : Obs _ _ [] := hO
 obtain ⟨o1, v6, hF⟩ := zoq hF
 refine zcW 2 (fun e' σ' => ∃ (τ' : Hp), agr [(162, .bool o1)] e' ∧ Obs τ' σ' [] ∧ Hp.le τ τ') ?_ ?_
 ·have hF := v6
  rcases zb8 hF with ⟨g2, hF⟩ | ⟨g2, hF⟩
  ·refine zbA (zoo g2) ?_
   obtain ⟨B4, v7, hF⟩ := zoq hF
   refine z3 hO (ziK v7) rfl fun _ σ _ _ hO v8 v9 => ?_
   have hL := hL.trans v8
   obtain ⟨rfl, rfl⟩ := v9
   have hO : Obs _ _ [] := hO
   refine zbf (zom g2) ?_
   refine ze ?_
   cases hF
   refine zh ?_
   exact ⟨rfl, _, zoj (trivial), hO, hL⟩
  refine zbI (zoo g2) ?_
  refine zbf (zom g2) ?_
  refine ze ?_
  cases hF
  refine zh ?_
  exact ⟨rfl, _, zoj (trivial), hO, hL⟩
 rintro e σ ⟨_, hA, hO, hL⟩
 rw [← zW _ _ hA]
 refine zD hO [] [(4, .bool o1)] zn4 fun j => ?_
 refine zbb ?_
 cases hF
 exact hQ _ _ _ _ _ rfl hO hL ⟨rfl, rfl⟩
end Go.Proofs.Ytakcaekikfcbpaa
