import Derived.Test.YtgkllgoelpfdkaaF
import Derived.Test.YtgkllgoelpfdkaaM00
import Derived.Test.YtgkllgoelpfdkaaM01
namespace Go.Proofs.Ytgkllgoelpfdkaa
open Go.Ab Go.RowKit
set_option linter.unusedVariables false
set_option linter.unusedSimpArgs false
set_option maxRecDepth 10000
set_option maxHeartbeats 1000000
theorem zft {τ : Hp} {v0 : Value} {p0 : (List UInt8)} (r0 : RdT Ty.u8 τ v0 p0) {rr : (List UInt8)} (hF : zcj p0 = some rr) :
  Ctr Try.prog 10 #[v0] τ [] (fun v τ' vs' => ∃ (v0 : Value) (o0 : Ob), v = v0 ∧ vs' = [o0] ∧ zd Ty.u8 5 τ' v0 rr o0) := by
 obtain ⟨A0, c0, rfl, -⟩ := r0.form
 refine zu (args := [.slice A0 p0.length c0]) hm Try.func10 s10 rfl fun w0 σ hO Q hQ => ?_
 unfold zcj at hF
 obtain ⟨_, hr, hF⟩ := bind_some hF
 injection hF with hF
 subst hF
 have hL := Hp.le.refl τ
 show wpn _ _ a10.body _ _ _
 unfold a10
 dsimp only
 refine za hO [] [(0, .slice A0 p0.length c0)] znH fun j => ?_
 refine zf (za hO [] [(0, .slice A0 p0.length c0), (4, .bool A0.isNone)] znI fun j => ?_)
 rcases (Bool.eq_false_or_eq_true A0.isNone).symm with hA | hA
 ·refine zj (congrArg Value.bool hA) ?_
  refine zv (zbv (T := Ty.u8) (l := []) (cs := []) hO rfl rfl rfl (by decide) fun _ σ o1 w1 hO => ?_)
  obtain ⟨A1, c1, rfl, -⟩ := w1.form
  refine zc hO 1 [] [(5, .slice A1 0 c1), (6, .slice A0 p0.length c0)] znI fun j => ?_
  refine zhC (T := Ty.u8) hO w1 (i := 0) rfl rfl rfl r0 (by simpa using hr) (by decide) fun _ σ o2 w2 hO => ?_
  refine za hO [] [(2, _)] znH fun j => ?_
  refine zo ?_
  exact hQ _ _ _ _ _ rfl hO hL ⟨_, _, rfl, rfl, w2⟩
 ·refine zm (congrArg Value.bool hA) ?_
  have := r0.empty (by decide) hA
  subst this
  refine zf (za hO [] [(2, .slice none 0 0)] znH fun j => ?_)
  refine zx ?_
  have hO := hO.no
  exact hQ _ _ _ _ _ rfl hO hL ⟨_, _, rfl, rfl, zd.nil _ _ _⟩
theorem zmk {τ : Hp} {q0 : zb} {bm0 : Nat}  {rr : Bool × zb} (hF : zgt q0 = some rr) :
  Ctr Try.prog 23 #[.pointer (some ⟨bm0, 0, none⟩)] τ [some (bm0, ⟨[.int .u8 q0.Kind.toNat, .int .u8 q0.Op.toNat, .int .i64 q0.R, .int .i64 q0.S, .int .i64 q0.T, .int .i64 q0.N, .int .i64 q0.M], 25, 7, true⟩)] (fun v τ' vs' => v = .bool rr.1 ∧ vs' = [some (bm0, ⟨[.int .u8 rr.2.Kind.toNat, .int .u8 rr.2.Op.toNat, .int .i64 rr.2.R, .int .i64 rr.2.S, .int .i64 rr.2.T, .int .i64 rr.2.N, .int .i64 rr.2.M], 25, 7, true⟩)]) := by
 refine zu (args := [.pointer (some ⟨bm0, 0, none⟩)]) hm Try.func23 s23 rfl fun w0 σ hO Q hQ => ?_
 unfold zgt at hF
 have hL := Hp.le.refl τ
 show wpn _ _ a23.body _ _ _
 unfold a23
 dsimp only
 refine za hO [] [(0, znY bm0)] znH fun j => ?_
 refine za hO [] [(0, znY bm0), (2, .bool true)] znI fun j => ?_
 refine zo ?_
 injection hF with hF
 subst hF
 exact hQ _ _ _ _ _ rfl hO hL ⟨rfl, rfl⟩
theorem zil {τ : Hp} {v0 : Value} {p0 : (List UInt8)} {p1 : Int} {p2 : Int} (r0 : RdT Ty.u8 τ v0 p0) {rr : (List UInt8) × Int × Int} (hF : zcZ p0 p1 p2 = some rr) :
  Ctr Try.prog 85 #[v0, .int .i64 p1, .int .i64 p2] τ [] (fun v τ' vs' => ∃ (v0 : Value), v = .tuple #[v0, .int .i64 rr.2.1, .int .i64 rr.2.2] ∧ vs' = [] ∧ RdT Ty.u8 τ' v0 rr.1) := by
 obtain ⟨A0, c0, rfl, -⟩ := r0.form
 refine zu (args := [.slice A0 p0.length c0, .int .i64 p1, .int .i64 p2]) hm Try.func85 s85 rfl fun w0 σ hO Q hQ => ?_
 unfold zcZ at hF
 have hL := Hp.le.refl τ
 show wpn _ _ a85.body _ _ _
 unfold a85
 dsimp only
 refine za hO [] [(0, .slice A0 p0.length c0), (1, znX p1), (2, znX p2)] znJ fun j => ?_
 refine zf (za hO [] [(0, .slice A0 p0.length c0), (1, znX p1), (2, znX p2), (17, .bool ((decide (p1 < 0)) || (decide (p1 > (p0.length : Int)))))] (And.intro (And.intro rfl rfl) (fun _ => znW znJ)) fun j => ?_)
 rcases zi hF with ⟨hb4, hF⟩ | ⟨hb4, hF⟩
 ·refine zm (congrArg Value.bool hb4) ?_
  refine zf (za hO [] [(6, .slice none 0 0), (7, znX 0), (8, znX 1)] znJ fun j => ?_)
  refine zx ?_
  injection hF with hF
  subst hF
  exact hQ _ _ _ _ _ rfl hO hL ⟨_, rfl, rfl, (RdT.nil _ _)⟩
 ·refine zj (congrArg Value.bool hb4) ?_
  refine zv (zf (zc hO 2 [] [(1, znX p1), (2, znX p2), (18, .slice A0 p0.length c0), (19, znX p1)] znK fun j => ?_))
  obtain ⟨y5, g6, hF⟩ := bind_some hF
  refine zc4 (T := Ty.u8) r0 rfl rfl rfl g6 fun _ r7 => ?_
  obtain ⟨A8, c9, rfl, -⟩ := r7.form
  refine za hO [] [(1, znX p1), (2, znX p2), (9, .slice A8 y5.length c9)] znJ fun j => ?_
  refine zf (za hO [] [(1, znX p1), (2, znX p2), (9, .slice A8 y5.length c9), (24, .bool (decide ((y5.length : Int) ≥ p2)))] znK fun j => ?_)
  rcases zi hF with ⟨hb10, hF⟩ | ⟨hb10, hF⟩
  ·refine zm (congrArg Value.bool hb10) ?_
   refine zf (zc hO 2 [] [(1, znX p1), (2, znX p2), (25, .slice A8 y5.length c9), (26, znX p2)] znK fun j => ?_)
   obtain ⟨y11, g12, hF⟩ := bind_some hF
   refine zc4 (T := Ty.u8) r7 rfl rfl rfl g12 fun _ r13 => ?_
   obtain ⟨A14, c15, rfl, -⟩ := r13.form
   refine za hO [] [(6, .slice A14 y11.length c15), (7, znX (IntKind.i64.wrap (p1 + p2))), (8, znX 0)] znJ fun j => ?_
   refine zx ?_
   injection hF with hF
   subst hF
   exact hQ _ _ _ _ _ rfl hO hL ⟨_, rfl, rfl, r13⟩
  ·refine zj (congrArg Value.bool hb10) ?_
   refine zv (za hO [] [(6, .slice none 0 0), (7, znX 0), (8, znX 5)] znJ fun j => ?_)
   refine zo ?_
   injection hF with hF
   subst hF
   exact hQ _ _ _ _ _ rfl hO hL ⟨_, rfl, rfl, (RdT.nil _ _)⟩
theorem zfk {τ : Hp} {v0 : Value} {p0 : (List UInt8)} {p1 : Int} (r0 : RdT Ty.u8 τ v0 p0) {rr : Int × Int × Int} (hF : zbN p0 p1 = some rr) :
  Ctr Try.prog 79 #[v0, .int .i64 p1] τ [] (fun v τ' vs' => v = .tuple #[.int .u8 rr.1, .int .i64 rr.2.1, .int .i64 rr.2.2] ∧ vs' = []) := by
 obtain ⟨A0, c0, rfl, -⟩ := r0.form
 refine zu (args := [.slice A0 p0.length c0, .int .i64 p1]) hm Try.func79 s79 rfl fun w0 σ hO Q hQ => ?_
 unfold zbN at hF
 have hL := Hp.le.refl τ
 show wpn _ _ a79.body _ _ _
 unfold a79
 dsimp only
 refine za hO [] [(0, .slice A0 p0.length c0), (1, znX p1)] znI fun j => ?_
 refine zc hO 2 [] [(9, .slice A0 p0.length c0), (10, znX p1)] znI fun j => ?_
 obtain ⟨c3, h4, hF⟩ := bind_some hF
 refine zt hO (zil r0 h4) rfl fun _ σ _ _ hO h5 h6 => ?_
 have hL := hL.trans h5
 have r0 := r0.le h5
 obtain ⟨v7, rfl, rfl, r10⟩ := h6
 obtain ⟨A8, c9, rfl, -⟩ := r10.form
 have hO : Obs _ _ [] := hO
 refine za hO [] [(5, znX c3.2.1), (6, znX c3.2.2), (7, .slice A8 c3.1.length c9)] znJ fun j => ?_
 refine zf (za hO [] [(5, znX c3.2.1), (6, znX c3.2.2), (7, .slice A8 c3.1.length c9), (16, .bool (c3.2.2 != 0))] znK fun j => ?_)
 rcases zi hF with ⟨hb11, hF⟩ | ⟨hb11, hF⟩
 ·refine zm (congrArg Value.bool hb11) ?_
  refine zf (za hO [] [(4, .int .u8 0), (5, znX 0), (6, znX c3.2.2)] znJ fun j => ?_)
  refine zx ?_
  injection hF with hF
  subst hF
  exact hQ _ _ _ _ _ rfl hO hL ⟨rfl, rfl⟩
 ·refine zj (congrArg Value.bool hb11) ?_
  refine zv (zc hO 1 [] [(5, znX c3.2.1), (18, .slice A8 c3.1.length c9)] znI fun j => ?_)
  obtain ⟨y12, g13, hF⟩ := bind_some hF
  refine zct (T := Ty.u8) r10 hO.base rfl rfl g13 (by decide) fun a14 _ k15 m16 => ?_
  obtain rfl : _ = ([.int .u8 y12.toNat] : List Value) := k15
  refine zO rfl (m16.le hO.base).fst ?_
  refine za hO [] [(4, .int .u8 (y12.toNat : Int)), (5, znX c3.2.1), (6, znX 0)] znJ fun j => ?_
  refine zo ?_
  injection hF with hF
  subst hF
  exact hQ _ _ _ _ _ rfl hO hL ⟨rfl, rfl⟩
theorem zga {τ : Hp} {p0 : Int}  {rr : Bool} (hF : zcz p0 = some rr) :
  Ctr Try.prog 39 #[.int .i64 p0] τ [] (fun v τ' vs' => v = .bool rr ∧ vs' = []) := by
 refine zu (args := [.int .i64 p0]) hm Try.func39 s39 rfl fun w0 σ hO Q hQ => ?_
 unfold zcz at hF
 have hL := Hp.le.refl τ
 show wpn _ _ a39.body _ _ _
 unfold a39
 dsimp only
 refine za hO [] [(0, znX p0)] znH fun j => ?_
 refine za hO [] [(2, .bool ((decide (p0 ≥ 0)) && (decide (p0 < 16))))] (And.intro (And.intro rfl rfl) (fun _ => znW trivial)) fun j => ?_
 refine zo ?_
 injection hF with hF
 subst hF
 exact hQ _ _ _ _ _ rfl hO hL ⟨rfl, rfl⟩
theorem zkk {τ : Hp} {q0 : zb} {bm0 : Nat}  {rr : Bool × zb} (hF : zgH q0 = some rr) :
  Ctr Try.prog 38 #[.pointer (some ⟨bm0, 0, none⟩)] τ [some (bm0, ⟨[.int .u8 q0.Kind.toNat, .int .u8 q0.Op.toNat, .int .i64 q0.R, .int .i64 q0.S, .int .i64 q0.T, .int .i64 q0.N, .int .i64 q0.M], 25, 7, true⟩)] (fun v τ' vs' => v = .bool rr.1 ∧ vs' = [some (bm0, ⟨[.int .u8 rr.2.Kind.toNat, .int .u8 rr.2.Op.toNat, .int .i64 rr.2.R, .int .i64 rr.2.S, .int .i64 rr.2.T, .int .i64 rr.2.N, .int .i64 rr.2.M], 25, 7, true⟩)]) := by
 refine zu (args := [.pointer (some ⟨bm0, 0, none⟩)]) hm Try.func38 s38 rfl fun w0 σ hO Q hQ => ?_
 unfold zgH at hF
 have hL := Hp.le.refl τ
 show wpn _ _ a38.body _ _ _
 unfold a38
 dsimp only
 refine za hO [] [(0, znY bm0)] znH fun j => ?_
 refine zc hO 4 [0] [(0, znY bm0), (6, znX q0.R)] (And.intro (And.intro rfl rfl) znI) fun j => ?_
 obtain ⟨c2, h3, hF⟩ := bind_some hF
 refine zt hO (zga h3) rfl fun _ σ _ _ hO h4 h5 => ?_
 have hL := hL.trans h4
 obtain ⟨rfl, rfl⟩ := h5
 have hO : Obs _ _ [_] := hO
 refine za hO [] [(0, znY bm0), (2, .bool c2)] znI fun j => ?_
 refine zo ?_
 injection hF with hF
 subst hF
 exact hQ _ _ _ _ _ rfl hO hL ⟨rfl, rfl⟩
theorem zls {τ : Hp} {q0 : zb} {bm0 : Nat}  {rr : Int × zb} (hF : zfE q0 = some rr) :
  Ctr Try.prog 40 #[.pointer (some ⟨bm0, 0, none⟩)] τ [some (bm0, ⟨[.int .u8 q0.Kind.toNat, .int .u8 q0.Op.toNat, .int .i64 q0.R, .int .i64 q0.S, .int .i64 q0.T, .int .i64 q0.N, .int .i64 q0.M], 25, 7, true⟩)] (fun v τ' vs' => v = .int .u8 rr.1 ∧ vs' = [some (bm0, ⟨[.int .u8 rr.2.Kind.toNat, .int .u8 rr.2.Op.toNat, .int .i64 rr.2.R, .int .i64 rr.2.S, .int .i64 rr.2.T, .int .i64 rr.2.N, .int .i64 rr.2.M], 25, 7, true⟩)]) := by
 refine zu (args := [.pointer (some ⟨bm0, 0, none⟩)]) hm Try.func40 s40 rfl fun w0 σ hO Q hQ => ?_
 unfold zfE at hF
 have hL := Hp.le.refl τ
 show wpn _ _ a40.body _ _ _
 unfold a40
 dsimp only
 refine za hO [] [(0, znY bm0)] znH fun j => ?_
 refine za hO [0] [(0, znY bm0), (2, .int .u8 (IntKind.u8.wrap q0.R))] (And.intro (And.intro rfl rfl) znI) fun j => ?_
 refine zo ?_
 injection hF with hF
 subst hF
 exact hQ _ _ _ _ _ rfl hO hL ⟨rfl, rfl⟩
theorem zkL {τ : Hp} {q0 : zb} {bm0 : Nat} {p1 : Int}  {rr : zb} (hF : zfb q0 p1 = some rr) :
  Ctr Try.prog 41 #[.pointer (some ⟨bm0, 0, none⟩), .int .u8 p1] τ [some (bm0, ⟨[.int .u8 q0.Kind.toNat, .int .u8 q0.Op.toNat, .int .i64 q0.R, .int .i64 q0.S, .int .i64 q0.T, .int .i64 q0.N, .int .i64 q0.M], 25, 7, true⟩)] (fun v τ' vs' => v = .tuple #[] ∧ vs' = [some (bm0, ⟨[.int .u8 rr.Kind.toNat, .int .u8 rr.Op.toNat, .int .i64 rr.R, .int .i64 rr.S, .int .i64 rr.T, .int .i64 rr.N, .int .i64 rr.M], 25, 7, true⟩)]) := by
 refine zej (args := [.pointer (some ⟨bm0, 0, none⟩), .int .u8 p1]) hm Try.func41 s41 rfl fun w0 σ hO Q hQ => ?_
 unfold zfb at hF
 have hL := Hp.le.refl τ
 show wpn _ _ a41.body _ _ _
 unfold a41
 dsimp only
 refine zT (zc hO 5 [] [(0, znY bm0), (6, znX (IntKind.i64.wrap p1)), (8, .pointer (some ⟨bm0, 2, none⟩))] znJ fun j => ?_)
 refine zB hO (i := 0) rfl (off := 2) rfl rfl rfl rfl (Nat.le_of_ble_eq_true rfl) rfl fun σ hO => ?_
 have hO : Obs _ _ [_] := hO
 refine zg (zk ?_)
 injection hF with hF
 subst hF
 exact (hQ _ _ _ _ _ rfl hO hL ⟨rfl, rfl⟩).2
theorem zny {τ : Hp}   {rr : zn} (hF : zh0  = some rr) :
  Ctr Try.prog 37 #[.func (.func 38) #[] #[], .func (.func 40) #[] #[], .func (.func 41) #[] #[]] τ [] (fun v τ' vs' => ∃ (f0_0 : Fn) (a0_0 c0_0 : Array Value) (f0_1 : Fn) (a0_1 c0_1 : Array Value) (f0_2 : Fn) (a0_2 c0_2 : Array Value), v = .agg #[.func f0_0 a0_0 c0_0, .func f0_1 a0_1 c0_1, .func f0_2 a0_2 c0_2] ∧ vs' = [] ∧ zbe τ' rr (.func f0_0 a0_0 c0_0) (.func f0_1 a0_1 c0_1) (.func f0_2 a0_2 c0_2)) := by
 refine zu (args := [.func (.func 38) #[] #[], .func (.func 40) #[] #[], .func (.func 41) #[] #[]]) hm Try.func37 s37 rfl fun w0 σ hO Q hQ => ?_
 unfold zh0 at hF
 have hL := Hp.le.refl τ
 show wpn _ _ a37.body _ _ _
 unfold a37
 dsimp only
 refine zbd (n := 1) hO rfl rfl fun b4 σ hO => ?_
 have hO : Obs _ _ [_] := hO
 refine zbd (n := 1) hO rfl rfl fun b5 σ hO => ?_
 have hO : Obs _ _ [_, _] := hO
 refine z5 hO fun b6 σ hO => ?_
 have hO : Obs _ _ [_, _, _] := hO
 refine zg (zc hO 4 [] [(6, znY b6), (10, .agg #[(.func (.func 38) #[] #[]), (.func (.func 77) #[] #[(.pointer (some ⟨b4, 0, none⟩))]), (.func (.func 78) #[] #[(.pointer (some ⟨b5, 0, none⟩))])])] znI fun j => ?_)
 refine zB hO (i := 2) rfl (off := 0) rfl rfl rfl rfl (Nat.le_of_ble_eq_true rfl) rfl fun σ hO => ?_
 have hO : Obs _ _ [_, _, _] := hO
 refine zg (zo ?_)
 obtain ⟨_, h8, m7, hO⟩ := hO.shareV (i := 0) rfl
 have hL := hL.trans h8
 have hO : Obs _ _ [_, _, _] := hO
 obtain ⟨_, h10, m9, hO⟩ := hO.shareV (i := 1) rfl
 have hL := hL.trans h10
 have m7 := m7.le h10
 have hO : Obs _ _ [_, _, _] := hO
 injection hF with hF
 subst hF
 have hV0 := hO.val (i := 2) rfl (off := 0) (agg := true) (n := 3) rfl
 have hO := hO.sel [] (by decide)
 exact hQ _ _ _ _ _ (z8 rfl (hV0) rfl) hO hL ⟨_, _, _, _, _, _, _, _, _, rfl, rfl, ⟨(⟨b4, 0, none⟩ : Addr), (⟨b5, 0, none⟩ : Addr), rfl, rfl, rfl, m7, m9⟩⟩
theorem zhG {τ : Hp}   {rr : zn} (hF : zes  = some rr) :
  Ctr Try.prog 24 #[] τ [] (fun v τ' vs' => ∃ (f0_0 : Fn) (a0_0 c0_0 : Array Value) (f0_1 : Fn) (a0_1 c0_1 : Array Value) (f0_2 : Fn) (a0_2 c0_2 : Array Value), v = .agg #[.func f0_0 a0_0 c0_0, .func f0_1 a0_1 c0_1, .func f0_2 a0_2 c0_2] ∧ vs' = [] ∧ zbe τ' rr (.func f0_0 a0_0 c0_0) (.func f0_1 a0_1 c0_1) (.func f0_2 a0_2 c0_2)) := by
 refine zu (args := []) hm Try.func24 s24 rfl fun w0 σ hO Q hQ => ?_
 unfold zes at hF
 have hL := Hp.le.refl τ
 show wpn _ _ a24.body _ _ _
 unfold a24
 dsimp only
 refine z5 hO fun b1 σ hO => ?_
 have hO : Obs _ _ [_] := hO
 refine zg ?_
 obtain ⟨c2, h3, hF⟩ := bind_some hF
 refine zt hO (zny h3) rfl fun _ σ _ _ hO h4 h5 => ?_
 have hL := hL.trans h4
 obtain ⟨f7, a8, c9, f10, a11, c12, f13, a14, c15, rfl, rfl, r6⟩ := h5
 have hO : Obs _ _ [_] := hO
 refine zB hO (i := 0) rfl (off := 0) rfl rfl rfl rfl (Nat.le_of_ble_eq_true rfl) rfl fun σ hO => ?_
 have hO : Obs _ _ [_] := hO
 refine zg (zo ?_)
 injection hF with hF
 subst hF
 have hV0 := hO.val (i := 0) rfl (off := 0) (agg := true) (n := 3) rfl
 have hO := hO.sel [] (by decide)
 exact hQ _ _ _ _ _ (z8 rfl (hV0) rfl) hO hL ⟨_, _, _, _, _, _, _, _, _, rfl, rfl, r6⟩
theorem zja {τ : Hp} {v0 : Value} {p0 : (List UInt8)} {p1 : Int} (r0 : RdT Ty.u8 τ v0 p0) {rr : (List UInt8)} (hF : zdY p0 p1 = some rr) :
  Ctr Try.prog 43 #[v0, .int .i64 p1] τ [] (fun v τ' vs' => ∃ (v0 : Value) (o0 : Ob), v = v0 ∧ vs' = [o0] ∧ zd Ty.u8 5 τ' v0 rr o0) := by
 obtain ⟨A0, c0, rfl, -⟩ := r0.form
 refine zu (args := [.slice A0 p0.length c0, .int .i64 p1]) hm Try.func43 s43 rfl fun w0 σ hO Q hQ => ?_
 unfold zdY at hF
 have hL := Hp.le.refl τ
 show wpn _ _ a43.body _ _ _
 unfold a43
 dsimp only
 refine za hO [] [(0, .slice A0 p0.length c0), (1, znX p1)] znI fun j => ?_
 refine zc hO 1 [] [(1, znX p1), (6, .slice A0 p0.length c0)] znI fun j => ?_
 obtain ⟨c3, h4, hF⟩ := bind_some hF
 refine zt hO (zft r0 h4) rfl fun _ σ _ _ hO h5 h6 => ?_
 have hL := hL.trans h5
 have r0 := r0.le h5
 obtain ⟨v7, o10, rfl, rfl, w11⟩ := h6
 obtain ⟨A8, c9, rfl, -⟩ := w11.form
 have hO : Obs _ _ [_] := hO
 refine za hO [] [(1, znX p1), (5, .slice A8 c3.length c9)] znI fun j => ?_
 refine zX (zb0 (fun (n : Nat) e' σ' => ∃ (x30 : Int) (A31 : Option Addr) (c32 : Nat) (o33 : Ob) (x34 : List UInt8) (τ' : Hp), agr [(1, znX x30), (5, .slice A31 x34.length c32)] e' ∧ Obs τ' σ' [o33] ∧ Hp.le τ τ' ∧ zd Ty.u8 5 τ' (.slice A31 x34.length c32) x34 o33 ∧ zem  n x30 x34 = some rr) big ⟨p1, A8, c9, o10, c3, _, znW znH, hO, hL, w11, hF⟩ ?_)
 clear hF hO hL
 rintro n49 e σ ⟨x30, A31, c32, o33, x34, _, hA, hO, hL, w35, hF⟩
 rw [← zG _ _ hA]
 cases n49 with
 | zero => exact nomatch (show none = some rr from hF)
 | succ n49 =>
  replace hF : zeT (zem  n49) x30 x34 = some rr := hF
  unfold zeT at hF
  refine zf (za hO [] [(1, znX x30), (5, .slice A31 x34.length c32), (13, .bool ((decide (x30 > 63)) || (decide (x30 < (-64)))))] (And.intro (And.intro rfl rfl) (fun _ => znW znI)) fun j => ?_)
  rcases zi hF with ⟨hb50, hF⟩ | ⟨hb50, hF⟩
  ·refine zm (congrArg Value.bool hb50) ?_
   refine zv (zhB (zX (zc hO 4 [] [(1, znX x30), (14, .slice A31 x34.length c32), (17, .int .u8 (orI .u8 (IntKind.u8.wrap x30) 128))] znJ fun j => ?_)))
   obtain ⟨z51, hz51, hF⟩ := bind_some hF
   obtain ⟨_, hr56, hF⟩ := bind_some hF
   refine zcv (T := Ty.u8) (y := z51) hO w35 (i := 0) rfl rfl (fun _ => rfl) rfl (u8R hz51) rfl hr56 (by decide) fun u _ σ o54 w55 hO => ?_
   obtain ⟨A52, c53, rfl, -⟩ := w55.form
   have hO : Obs _ _ [_] := hO
   refine za hO [] [(1, znX x30), (5, .slice A52 (x34 ++ [z51]).length c53)] znI fun j => ?_
   refine zT (za hO [] [(1, znX (zbu .i64 x30 7)), (5, .slice A52 (x34 ++ [z51]).length c53)] znI fun j => ?_)
   refine zk (zV (zs (zk (zs ?_))))
   exact ⟨n49, Nat.lt_succ_self _, (zbu .i64 x30 7), A52, c53, o54, (x34 ++ [z51]), _, znW znH, hO, hL, w55, hF⟩
  ·refine zj (congrArg Value.bool hb50) ?_
   refine zbV (zbZ (zb2 (zs (zc hO 4 [] [(22, .slice A31 x34.length c32), (25, .int .u8 (zbS .u8 (IntKind.u8.wrap x30) 127))] znI fun j => ?_))))
   obtain ⟨z57, hz57, hF⟩ := bind_some hF
   obtain ⟨_, hr62, hF⟩ := bind_some hF
   refine zcv (T := Ty.u8) (y := z57) hO w35 (i := 0) rfl rfl (fun _ => rfl) rfl (u8R hz57) rfl hr62 (by decide) fun u _ σ o60 w61 hO => ?_
   obtain ⟨A58, c59, rfl, -⟩ := w61.form
   have hO : Obs _ _ [_] := hO
   refine za hO [] [(4, .slice A58 (x34 ++ [z57]).length c59)] znH fun j => ?_
   refine zo ?_
   injection hF with hF
   subst hF
   exact hQ _ _ _ _ _ rfl hO hL ⟨_, _, rfl, rfl, w61⟩
theorem ziA {τ : Hp} {v0 : Value} {p0 : (List UInt8)} (r0 : RdT Ty.u8 τ v0 p0) {rr : Int × Int} (hF : zet p0 = some rr) :
  Ctr Try.prog 87 #[v0] τ [] (fun v τ' vs' => v = .tuple #[.int .u64 rr.1, .int .i64 rr.2] ∧ vs' = []) := by
 obtain ⟨A0, c0, rfl, -⟩ := r0.form
 refine zu (args := [.slice A0 p0.length c0]) hm Try.func87 s87 rfl fun w0 σ hO Q hQ => ?_
 unfold zet at hF
 have hL := Hp.le.refl τ
 show wpn _ _ a87.body _ _ _
 unfold a87
 dsimp only
 refine za hO [] [(0, .slice A0 p0.length c0), (2, .int .u64 0)] znI fun j => ?_
 refine zf (za hO [] [(0, .slice A0 p0.length c0), (2, .int .u64 0), (7, znX (zbp (p0.length : Int) 10)), (8, znX 0)] znK fun j => ?_)
 refine zX (zb0 (fun (n : Nat) e' σ' => ∃ (x18 : Int) (x19 : Int) (τ' : Hp), agr [(0, .slice A0 p0.length c0), (2, .int .u64 x18), (7, znX (zbp (p0.length : Int) 10)), (8, znX x19)] e' ∧ Obs τ' σ' [] ∧ Hp.le τ τ' ∧ RdT Ty.u8 τ' (.slice A0 p0.length c0) p0 ∧ zfs p0 n x18 x19 = some rr) big ⟨0, 0, _, znW znJ, hO, hL, r0, hF⟩ ?_)
 clear hF hO hL
 rintro n34 e σ ⟨x18, x19, _, hA, hO, hL, r17, hF⟩
 rw [← zG _ _ hA]
 cases n34 with
 | zero => exact nomatch (show none = some rr from hF)
 | succ n34 =>
  replace hF : zeV (zfs p0 n34) p0 x18 x19 = some rr := hF
  unfold zeV at hF
  refine za hO [] [(0, .slice A0 p0.length c0), (2, .int .u64 x18), (7, znX (zbp (p0.length : Int) 10)), (8, znX x19), (9, .bool (decide (x19 < (zbp (p0.length : Int) 10))))] znL fun j => ?_
  rcases zi hF with ⟨hb35, hF⟩ | ⟨hb35, hF⟩
  ·refine zm (congrArg Value.bool hb35) ?_
   refine zv (zX (za hO [] [(0, .slice A0 p0.length c0), (2, .int .u64 x18), (4, znX x19), (7, znX (zbp (p0.length : Int) 10)), (8, znX x19)] znL fun j => ?_))
   refine zc hO 3 [] [(0, .slice A0 p0.length c0), (4, znX x19), (7, znX (zbp (p0.length : Int) 10)), (8, znX x19), (11, .int .u64 x18), (12, .slice A0 p0.length c0), (13, znX x19)] znN fun j => ?_
   obtain ⟨y36, g37, hF⟩ := bind_some hF
   refine zct (T := Ty.u8) r17 hO.base rfl rfl g37 (by decide) fun a38 _ k39 m40 => ?_
   obtain rfl : _ = ([.int .u8 y36.toNat] : List Value) := k39
   refine zO rfl (m40.le hO.base).fst ?_
   refine zc hO 4 [] [(0, .slice A0 p0.length c0), (4, znX x19), (7, znX (zbp (p0.length : Int) 10)), (8, znX x19), (11, .int .u64 x18), (17, .int .u64 (IntKind.u64.wrap (zbS .u8 (y36.toNat : Int) 127))), (19, znX (IntKind.i64.wrap (7 * x19)))] znN fun j => ?_
   obtain ⟨y41, g42, hF⟩ := bind_some hF
   refine zd0 (zjZ g42) ?_
   refine za hO [] [(0, .slice A0 p0.length c0), (2, .int .u64 (orI .u64 x18 y41)), (4, znX x19), (7, znX (zbp (p0.length : Int) 10)), (8, znX x19)] znL fun j => ?_
   refine zc hO 2 [] [(0, .slice A0 p0.length c0), (2, .int .u64 (orI .u64 x18 y41)), (4, znX x19), (7, znX (zbp (p0.length : Int) 10)), (8, znX x19), (22, .slice A0 p0.length c0), (23, znX x19)] znN fun j => ?_
   obtain ⟨y43, g44, hF⟩ := bind_some hF
   refine zct (T := Ty.u8) r17 hO.base rfl rfl g44 (by decide) fun a45 _ k46 m47 => ?_
   obtain rfl : _ = ([.int .u8 y43.toNat] : List Value) := k46
   refine zO rfl (m47.le hO.base).fst ?_
   refine za hO [] [(0, .slice A0 p0.length c0), (2, .int .u64 (orI .u64 x18 y41)), (4, znX x19), (7, znX (zbp (p0.length : Int) 10)), (8, znX x19), (26, .bool (decide ((y43.toNat : Int) < 128)))] znM fun j => ?_
   refine z0 ?_
   rcases zi hF with ⟨hb48, hF⟩ | ⟨hb48, hF⟩
   ·refine zm (congrArg Value.bool hb48) ?_
    refine zf (za hO [] [(2, .int .u64 (orI .u64 x18 y41)), (3, znX (IntKind.i64.wrap (x19 + 1)))] znI fun j => ?_)
    refine zx (zP (zM (zM (zP (zM ?_)))))
    injection hF with hF
    subst hF
    exact hQ _ _ _ _ _ rfl hO hL ⟨rfl, rfl⟩
   ·refine zj (congrArg Value.bool hb48) ?_
    refine zv (zk (zV (zs (zT (za hO [] [(0, .slice A0 p0.length c0), (2, .int .u64 (orI .u64 x18 y41)), (7, znX (zbp (p0.length : Int) 10)), (8, znX (IntKind.i64.wrap (x19 + 1)))] znK fun j => ?_)))))
    refine zk (zs ?_)
    exact ⟨n34, Nat.lt_succ_self _, (orI .u64 x18 y41), (IntKind.i64.wrap (x19 + 1)), _, znW znJ, hO, hL, r17, hF⟩
  ·refine zj (congrArg Value.bool hb35) ?_
   refine zbV (zbZ (zb2 (zs (za hO [] [(2, .int .u64 0), (3, znX 0)] znI fun j => ?_))))
   refine zo ?_
   injection hF with hF
   subst hF
   exact hQ _ _ _ _ _ rfl hO hL ⟨rfl, rfl⟩
theorem zjz {τ : Hp} {v0 : Value} {p0 : (List UInt8)} {v1 : Value} {p1 : (List UInt8)} (r0 : RdT Ty.u8 τ v0 p0) (r1 : RdT Ty.u8 τ v1 p1) {rr : Bool} (hF : zdQ p0 p1 = some rr) :
  Ctr Try.prog 88 #[v0, v1] τ [] (fun v τ' vs' => v = .bool rr ∧ vs' = []) := by
 obtain ⟨A0, c0, rfl, -⟩ := r0.form
 obtain ⟨A1, c1, rfl, -⟩ := r1.form
 refine zu (args := [.slice A0 p0.length c0, .slice A1 p1.length c1]) hm Try.func88 s88 rfl fun w0 σ hO Q hQ => ?_
 unfold zdQ at hF
 have hL := Hp.le.refl τ
 show wpn _ _ a88.body _ _ _
 unfold a88
 dsimp only
 refine za hO [] [(0, .slice A0 p0.length c0), (1, .slice A1 p1.length c1)] znI fun j => ?_
 refine zf (za hO [] [(0, .slice A0 p0.length c0), (1, .slice A1 p1.length c1), (10, .bool ((p0.length : Int) != (p1.length : Int)))] znJ fun j => ?_)
 rcases zi hF with ⟨hb3, hF⟩ | ⟨hb3, hF⟩
 ·refine zm (congrArg Value.bool hb3) ?_
  refine zf (za hO [] [(4, .bool false)] znH fun j => ?_)
  refine zx ?_
  injection hF with hF
  subst hF
  exact hQ _ _ _ _ _ rfl hO hL ⟨rfl, rfl⟩
 ·refine zj (congrArg Value.bool hb3) ?_
  refine zv (zf (za hO [] [(0, .slice A0 p0.length c0), (1, .slice A1 p1.length c1), (12, znX (p0.length : Int)), (13, znX 0)] znK fun j => ?_))
  refine zX (zb0 (fun (n : Nat) e' σ' => ∃ (x20 : Int) (τ' : Hp), agr [(0, .slice A0 p0.length c0), (1, .slice A1 p1.length c1), (12, znX (p0.length : Int)), (13, znX x20)] e' ∧ Obs τ' σ' [] ∧ Hp.le τ τ' ∧ RdT Ty.u8 τ' (.slice A0 p0.length c0) p0 ∧ RdT Ty.u8 τ' (.slice A1 p1.length c1) p1 ∧ zeg p0 p1 n x20 = some rr) big ⟨0, _, znW znJ, hO, hL, r0, r1, hF⟩ ?_)
  clear hF hO hL
  rintro n33 e σ ⟨x20, _, hA, hO, hL, r18, r19, hF⟩
  rw [← zG _ _ hA]
  cases n33 with
  | zero => exact nomatch (show none = some rr from hF)
  | succ n33 =>
   replace hF : zeU (zeg p0 p1 n33) p0 p1 x20 = some rr := hF
   unfold zeU at hF
   refine za hO [] [(0, .slice A0 p0.length c0), (1, .slice A1 p1.length c1), (12, znX (p0.length : Int)), (13, znX x20), (14, .bool (decide (x20 < (p0.length : Int))))] znL fun j => ?_
   rcases zi hF with ⟨hb34, hF⟩ | ⟨hb34, hF⟩
   ·refine zm (congrArg Value.bool hb34) ?_
    refine zv (zX (za hO [] [(0, .slice A0 p0.length c0), (1, .slice A1 p1.length c1), (5, znX x20), (12, znX (p0.length : Int)), (13, znX x20)] znL fun j => ?_))
    refine zbB (zc hO 2 [] [(0, .slice A0 p0.length c0), (1, .slice A1 p1.length c1), (5, znX x20), (12, znX (p0.length : Int)), (13, znX x20), (16, .slice A0 p0.length c0), (17, znX x20)] znN fun j => ?_)
    obtain ⟨y35, g36, hF⟩ := bind_some hF
    refine zct (T := Ty.u8) r18 hO.base rfl rfl g36 (by decide) fun a37 _ k38 m39 => ?_
    obtain rfl : _ = ([.int .u8 y35.toNat] : List Value) := k38
    refine zO rfl (m39.le hO.base).fst ?_
    refine zc hO 2 [] [(0, .slice A0 p0.length c0), (1, .slice A1 p1.length c1), (12, znX (p0.length : Int)), (13, znX x20), (19, .int .u8 (y35.toNat : Int)), (20, .slice A1 p1.length c1), (21, znX x20)] znN fun j => ?_
    obtain ⟨y40, g41, hF⟩ := bind_some hF
    refine zct (T := Ty.u8) r19 hO.base rfl rfl g41 (by decide) fun a42 _ k43 m44 => ?_
    obtain rfl : _ = ([.int .u8 y40.toNat] : List Value) := k43
    refine zO rfl (m44.le hO.base).fst ?_
    refine za hO [] [(0, .slice A0 p0.length c0), (1, .slice A1 p1.length c1), (12, znX (p0.length : Int)), (13, znX x20), (24, .bool ((y35.toNat : Int) != (y40.toNat : Int)))] znL fun j => ?_
    refine z0 ?_
    rcases zi hF with ⟨hb45, hF⟩ | ⟨hb45, hF⟩
    ·refine zm (congrArg Value.bool hb45) ?_
     refine zf (za hO [] [(4, .bool false)] znH fun j => ?_)
     refine zx (zP (zM (zM (zP (zM ?_)))))
     injection hF with hF
     subst hF
     exact hQ _ _ _ _ _ rfl hO hL ⟨rfl, rfl⟩
    ·refine zj (congrArg Value.bool hb45) ?_
     refine zv (zk (zV (zs (zT (za hO [] [(0, .slice A0 p0.length c0), (1, .slice A1 p1.length c1), (12, znX (p0.length : Int)), (13, znX (IntKind.i64.wrap (x20 + 1)))] znK fun j => ?_)))))
     refine zk (zs ?_)
     exact ⟨n33, Nat.lt_succ_self _, (IntKind.i64.wrap (x20 + 1)), _, znW znJ, hO, hL, r18, r19, hF⟩
   ·refine zj (congrArg Value.bool hb34) ?_
    refine zbV (zbZ (zb2 (zs (za hO [] [(4, .bool true)] znH fun j => ?_))))
    refine zo ?_
    injection hF with hF
    subst hF
    exact hQ _ _ _ _ _ rfl hO hL ⟨rfl, rfl⟩
theorem zmK {τ : Hp} {p0 : Int} {p1 : Int}  {rr : Int} (hF : ze7 p0 p1 = some rr) :
  Ctr Try.prog 81 #[.int .u64 p0, .int .i64 p1] τ [] (fun v τ' vs' => v = .int .i64 rr ∧ vs' = []) := by
 refine zu (args := [.int .u64 p0, .int .i64 p1]) hm Try.func81 s81 rfl fun w0 σ hO Q hQ => ?_
 unfold ze7 at hF
 have hL := Hp.le.refl τ
 show wpn _ _ a81.body _ _ _
 unfold a81
 dsimp only
 refine za hO [] [(0, .int .u64 p0), (1, znX p1)] znI fun j => ?_
 refine za hO [] [(0, .int .u64 p0), (5, znX (zbR 0 (IntKind.i64.wrap (64 - (IntKind.i64.wrap (7 * p1))))))] znI fun j => ?_
 refine zc hO 2 [] [(5, znX (zbR 0 (IntKind.i64.wrap (64 - (IntKind.i64.wrap (7 * p1)))))), (10, .int .u64 p0), (11, znX (zbR 0 (IntKind.i64.wrap (64 - (IntKind.i64.wrap (7 * p1))))))] znJ fun j => ?_
 obtain ⟨y3, g4, hF⟩ := bind_some hF
 refine zd0 (zjZ g4) ?_
 refine zc hO 2 [] [(13, znX (IntKind.i64.wrap y3)), (14, znX (zbR 0 (IntKind.i64.wrap (64 - (IntKind.i64.wrap (7 * p1))))))] znI fun j => ?_
 obtain ⟨y5, g6, hF⟩ := bind_some hF
 refine zd0 (zjx g6) ?_
 refine za hO [] [(4, znX y5)] znH fun j => ?_
 refine zo ?_
 injection hF with hF
 subst hF
 exact hQ _ _ _ _ _ rfl hO hL ⟨rfl, rfl⟩
theorem zm1 {τ : Hp} {v0 : Value} {p0 : (List UInt8)} {p1 : Int} (r0 : RdT Ty.u8 τ v0 p0) {rr : Int × Int × Int} (hF : zgM p0 p1 = some rr) :
  Ctr Try.prog 80 #[v0, .int .i64 p1, .func (.func 81) #[] #[], .func (.func 43) #[] #[]] τ [] (fun v τ' vs' => v = .tuple #[.int .i64 rr.1, .int .i64 rr.2.1, .int .i64 rr.2.2] ∧ vs' = []) := by
 obtain ⟨A0, c0, rfl, -⟩ := r0.form
 refine zu (args := [.slice A0 p0.length c0, .int .i64 p1, .func (.func 81) #[] #[], .func (.func 43) #[] #[]]) hm Try.func80 s80 rfl fun w0 σ hO Q hQ => ?_
 unfold zgM at hF
 have hL := Hp.le.refl τ
 show wpn _ _ a80.body _ _ _
 unfold a80
 dsimp only
 refine za hO [] [(0, .slice A0 p0.length c0), (1, znX p1), (2, .func (.func 81) #[] #[]), (3, .func (.func 43) #[] #[])] znK fun j => ?_
 refine zf (za hO [] [(0, .slice A0 p0.length c0), (1, znX p1), (2, .func (.func 81) #[] #[]), (3, .func (.func 43) #[] #[]), (21, .bool ((decide (p1 < 0)) || (decide (p1 > (p0.length : Int)))))] (And.intro (And.intro rfl rfl) (fun _ => znW znK)) fun j => ?_)
 rcases zi hF with ⟨hb5, hF⟩ | ⟨hb5, hF⟩
 ·refine zm (congrArg Value.bool hb5) ?_
  refine zf (za hO [] [(8, znX 0), (9, znX 0), (10, znX 1)] znJ fun j => ?_)
  refine zx ?_
  injection hF with hF
  subst hF
  exact hQ _ _ _ _ _ rfl hO hL ⟨rfl, rfl⟩
 ·refine zj (congrArg Value.bool hb5) ?_
  refine zv (zc hO 2 [] [(0, .slice A0 p0.length c0), (1, znX p1), (2, .func (.func 81) #[] #[]), (3, .func (.func 43) #[] #[]), (23, .slice A0 p0.length c0), (24, znX p1)] znM fun j => ?_)
  obtain ⟨y6, g7, hF⟩ := bind_some hF
  refine zc4 (T := Ty.u8) r0 rfl rfl rfl g7 fun _ r8 => ?_
  obtain ⟨A9, c10, rfl, -⟩ := r8.form
  obtain ⟨c11, h12, hF⟩ := bind_some hF
  refine zt hO (ziA r8 h12) rfl fun _ σ _ _ hO h13 h14 => ?_
  have hL := hL.trans h13
  have r0 := r0.le h13
  have r8 := r8.le h13
  obtain ⟨rfl, rfl⟩ := h14
  have hO : Obs _ _ [] := hO
  refine za hO [] [(0, .slice A0 p0.length c0), (1, znX p1), (2, .func (.func 81) #[] #[]), (3, .func (.func 43) #[] #[]), (11, .int .u64 c11.1), (12, znX c11.2)] znM fun j => ?_
  refine zc hO 3 [] [(0, .slice A0 p0.length c0), (1, znX p1), (3, .func (.func 43) #[] #[]), (12, znX c11.2), (29, .func (.func 81) #[] #[]), (30, .int .u64 c11.1), (31, znX c11.2)] znN fun j => ?_
  obtain ⟨c15, h16, hF⟩ := bind_some hF
  refine zgN rfl (by kernel_rfl) hO (zmK h16) rfl fun _ σ _ _ hO h17 h18 => ?_
  have hL := hL.trans h17
  have r0 := r0.le h17
  obtain ⟨rfl, rfl⟩ := h18
  have hO : Obs _ _ [] := hO
  refine za hO [] [(0, .slice A0 p0.length c0), (1, znX p1), (3, .func (.func 43) #[] #[]), (12, znX c11.2), (13, znX c15)] znL fun j => ?_
  refine zf (zbB (zc hO 3 [] [(0, .slice A0 p0.length c0), (1, znX p1), (3, .func (.func 43) #[] #[]), (12, znX c11.2), (13, znX c15), (35, .bool (c11.2 == 0))] znM fun j => ?_))
  obtain ⟨c19, h20, hF⟩ := bind_some hF
  refine zcp 2 (fun e' σ' => ∃ (τ' : Hp), agr [(47, .bool c19), (1, znX p1), (12, znX c11.2), (13, znX c15)] e' ∧ Obs τ' σ' [] ∧ Hp.le τ τ') ?_ ?_
  ·have hF := h20
   rcases zi hF with ⟨hb21, hF⟩ | ⟨hb21, hF⟩
   ·refine zb7 (congrArg (fun x => isB (.bool x) false) hb21) ?_
    refine z9 (congrArg Value.bool hb21) ?_
    refine zg ?_
    injection hF with hF
    subst hF
    refine zk ?_
    exact ⟨rfl, _, znW znJ, hO, hL⟩
   ·refine zb9 (congrArg (fun x => isB (.bool x) false) hb21) ?_
    refine zc hO 7 [] [(1, znX p1), (12, znX c11.2), (13, znX c15), (35, .bool (c11.2 == 0)), (36, .func (.func 43) #[] #[]), (37, znX c15), (39, .slice A0 p0.length c0), (40, znX p1), (43, znX (IntKind.i64.wrap (p1 + c11.2)))] znP fun j => ?_
    obtain ⟨y22, g23, hF⟩ := bind_some hF
    refine zc4 (T := Ty.u8) r0 rfl rfl rfl g23 fun _ r24 => ?_
    obtain ⟨A25, c26, rfl, -⟩ := r24.form
    obtain ⟨c27, h28, hF⟩ := bind_some hF
    refine zgN rfl (by kernel_rfl) hO (zja (RdT.nil Ty.u8 _) h28) rfl fun _ σ _ _ hO h29 h30 => ?_
    have hL := hL.trans h29
    have r0 := r0.le h29
    have r24 := r24.le h29
    obtain ⟨v31, o34, rfl, rfl, w35⟩ := h30
    obtain ⟨A32, c33, rfl, -⟩ := w35.form
    have hO : Obs _ _ [_] := hO
    obtain ⟨_, h37, r36, hO⟩ := w35.share hO (i := 0) rfl
    have hL := hL.trans h37
    have r0 := r0.le h37
    have r24 := r24.le h37
    have hO : Obs _ _ [_] := hO
    obtain ⟨c38, h39, hF⟩ := bind_some hF
    refine zt hO (zjz r36 r24 h39) rfl fun _ σ _ _ hO h40 h41 => ?_
    have hL := hL.trans h40
    have r36 := r36.le h40
    have r0 := r0.le h40
    have r24 := r24.le h40
    obtain ⟨rfl, rfl⟩ := h41
    have hO : Obs _ _ [_] := hO
    refine zc hO 1 [] [(1, znX p1), (12, znX c11.2), (13, znX c15), (35, .bool (c11.2 == 0)), (46, .bool (!c38))] znL fun j => ?_
    refine z9 (congrArg Value.bool hb21) ?_
    refine zg ?_
    injection hF with hF
    subst hF
    refine zk ?_
    have hO := hO.sel [] (by decide)
    exact ⟨rfl, _, znW znJ, hO, hL⟩
  ·rintro e σ ⟨_, hA, hO, hL⟩
   rw [← zG _ _ hA]
   refine zg ?_
   rcases zi hF with ⟨hb42, hF⟩ | ⟨hb42, hF⟩
   ·refine zm (congrArg Value.bool hb42) ?_
    refine zf (za hO [] [(8, znX 0), (9, znX 0), (10, znX 5)] znJ fun j => ?_)
    refine zx ?_
    injection hF with hF
    subst hF
    exact hQ _ _ _ _ _ rfl hO hL ⟨rfl, rfl⟩
   ·refine zj (congrArg Value.bool hb42) ?_
    refine zv (za hO [] [(8, znX c15), (9, znX (IntKind.i64.wrap (p1 + c11.2))), (10, znX 0)] znJ fun j => ?_)
    refine zo ?_
    injection hF with hF
    subst hF
    exact hQ _ _ _ _ _ rfl hO hL ⟨rfl, rfl⟩
theorem zma {τ : Hp} {v0 : Value} {p0 : (List UInt8)} {p1 : Int} (r0 : RdT Ty.u8 τ v0 p0) {rr : Int × Int × Int} (hF : zff p0 p1 = some rr) :
  Ctr Try.prog 45 #[v0, .int .i64 p1] τ [] (fun v τ' vs' => v = .tuple #[.int .i64 rr.1, .int .i64 rr.2.1, .int .i64 rr.2.2] ∧ vs' = []) := by
 obtain ⟨A0, c0, rfl, -⟩ := r0.form
 refine zu (args := [.slice A0 p0.length c0, .int .i64 p1]) hm Try.func45 s45 rfl fun w0 σ hO Q hQ => ?_
 unfold zff at hF
 have hL := Hp.le.refl τ
 show wpn _ _ a45.body _ _ _
 unfold a45
 dsimp only
 refine za hO [] [(0, .slice A0 p0.length c0), (1, znX p1)] znI fun j => ?_
 refine zc hO 2 [] [(7, .slice A0 p0.length c0), (8, znX p1)] znI fun j => ?_
 obtain ⟨c3, h4, hF⟩ := bind_some hF
 refine zt hO (zm1 r0 h4) rfl fun _ σ _ _ hO h5 h6 => ?_
 have hL := hL.trans h5
 have r0 := r0.le h5
 obtain ⟨rfl, rfl⟩ := h6
 have hO : Obs _ _ [] := hO
 refine za hO [] [(4, znX c3.1), (5, znX c3.2.1), (6, znX c3.2.2)] znJ fun j => ?_
 refine zo ?_
 injection hF with hF
 subst hF
 exact hQ _ _ _ _ _ rfl hO hL ⟨rfl, rfl⟩
theorem zjr {τ : Hp} {v0 : Value} {p0 : (List UInt8)} {p1 : Int} {q2 : zb} {bm2 : Nat} (r0 : RdT Ty.u8 τ v0 p0) {rr : Int × Bool × zb} (hF : zcJ p0 p1 q2 = some rr) :
  Ctr Try.prog 44 #[v0, .int .i64 p1, .pointer (some ⟨bm2, 0, none⟩)] τ [some (bm2, ⟨[.int .u8 q2.Kind.toNat, .int .u8 q2.Op.toNat, .int .i64 q2.R, .int .i64 q2.S, .int .i64 q2.T, .int .i64 q2.N, .int .i64 q2.M], 25, 7, true⟩)] (fun v τ' vs' => v = .tuple #[.int .i64 rr.1, .bool rr.2.1] ∧ vs' = [some (bm2, ⟨[.int .u8 rr.2.2.Kind.toNat, .int .u8 rr.2.2.Op.toNat, .int .i64 rr.2.2.R, .int .i64 rr.2.2.S, .int .i64 rr.2.2.T, .int .i64 rr.2.2.N, .int .i64 rr.2.2.M], 25, 7, true⟩)]) := by
 obtain ⟨A0, c0, rfl, -⟩ := r0.form
 refine zu (args := [.slice A0 p0.length c0, .int .i64 p1, .pointer (some ⟨bm2, 0, none⟩)]) hm Try.func44 s44 rfl fun w0 σ hO Q hQ => ?_
 unfold zcJ at hF
 have hL := Hp.le.refl τ
 show wpn _ _ a44.body _ _ _
 unfold a44
 dsimp only
 refine za hO [] [(0, .slice A0 p0.length c0), (1, znX p1), (2, znY bm2)] znJ fun j => ?_
 refine zc hO 2 [] [(2, znY bm2), (12, .slice A0 p0.length c0), (13, znX p1)] znJ fun j => ?_
 obtain ⟨c4, h5, hF⟩ := bind_some hF
 refine zt hO (zma r0 h5) rfl fun _ σ _ _ hO h6 h7 => ?_
 have hL := hL.trans h6
 have r0 := r0.le h6
 obtain ⟨rfl, rfl⟩ := h7
 have hO : Obs _ _ [_] := hO
 refine za hO [] [(2, znY bm2), (8, znX c4.1), (9, znX c4.2.1), (10, znX c4.2.2)] znK fun j => ?_
 refine zc hO 4 [] [(2, znY bm2), (9, znX c4.2.1), (10, znX c4.2.2), (19, znX c4.1), (21, .pointer (some ⟨bm2, 5, none⟩))] znL fun j => ?_
 refine zB hO (i := 0) rfl (off := 5) rfl rfl rfl rfl (Nat.le_of_ble_eq_true rfl) rfl fun σ hO => ?_
 have hO : Obs _ _ [_] := hO
 refine zg (za hO [] [(2, znY bm2), (6, znX c4.2.1), (7, .bool (c4.2.2 == 0))] znJ fun j => ?_)
 refine zo ?_
 injection hF with hF
 subst hF
 exact hQ _ _ _ _ _ rfl hO hL ⟨rfl, rfl⟩
theorem zk6 {τ : Hp} {q0 : zb} {bm0 : Nat}  {rr : Bool × zb} (hF : zgZ q0 = some rr) :
  Ctr Try.prog 46 #[.pointer (some ⟨bm0, 0, none⟩)] τ [some (bm0, ⟨[.int .u8 q0.Kind.toNat, .int .u8 q0.Op.toNat, .int .i64 q0.R, .int .i64 q0.S, .int .i64 q0.T, .int .i64 q0.N, .int .i64 q0.M], 25, 7, true⟩)] (fun v τ' vs' => v = .bool rr.1 ∧ vs' = [some (bm0, ⟨[.int .u8 rr.2.Kind.toNat, .int .u8 rr.2.Op.toNat, .int .i64 rr.2.R, .int .i64 rr.2.S, .int .i64 rr.2.T, .int .i64 rr.2.N, .int .i64 rr.2.M], 25, 7, true⟩)]) := by
 refine zu (args := [.pointer (some ⟨bm0, 0, none⟩)]) hm Try.func46 s46 rfl fun w0 σ hO Q hQ => ?_
 unfold zgZ at hF
 have hL := Hp.le.refl τ
 show wpn _ _ a46.body _ _ _
 unfold a46
 dsimp only
 refine za hO [] [(0, znY bm0)] znH fun j => ?_
 refine zc hO 4 [0] [(0, znY bm0), (6, znX q0.R)] (And.intro (And.intro rfl rfl) znI) fun j => ?_
 obtain ⟨c2, h3, hF⟩ := bind_some hF
 refine zt hO (zga h3) rfl fun _ σ _ _ hO h4 h5 => ?_
 have hL := hL.trans h4
 obtain ⟨rfl, rfl⟩ := h5
 have hO : Obs _ _ [_] := hO
 refine zc hO 1 [] [(0, znY bm0), (8, .bool c2)] znI fun j => ?_
 obtain ⟨c6, h7, hF⟩ := bind_some hF
 refine zcp 2 (fun e' σ' => ∃ (τ' : Hp), agr [(14, .bool c6), (0, znY bm0)] e' ∧ Obs τ' σ' [some (bm0, ⟨[.int .u8 (q0.Kind.toNat : Int), .int .u8 (q0.Op.toNat : Int), .int .i64 q0.R, .int .i64 q0.S, .int .i64 q0.T, .int .i64 q0.N, .int .i64 q0.M], 25, 7, true⟩)] ∧ Hp.le τ τ') ?_ ?_
 ·have hF := h7
  rcases zi hF with ⟨hb8, hF⟩ | ⟨hb8, hF⟩
  ·refine zb9 (congrArg (fun x => isB (.bool x) true) hb8) ?_
   refine zc hO 4 [0] [(0, znY bm0), (8, .bool c2), (12, znX q0.S)] (And.intro (And.intro rfl rfl) znJ) fun j => ?_
   obtain ⟨c9, h10, hF⟩ := bind_some hF
   refine zt hO (zga h10) rfl fun _ σ _ _ hO h11 h12 => ?_
   have hL := hL.trans h11
   obtain ⟨rfl, rfl⟩ := h12
   have hO : Obs _ _ [_] := hO
   refine z9 (congrArg Value.bool hb8) ?_
   refine zg ?_
   injection hF with hF
   subst hF
   refine zk ?_
   exact ⟨rfl, _, znW znH, hO, hL⟩
  ·refine zb7 (congrArg (fun x => isB (.bool x) true) hb8) ?_
   refine z9 (congrArg Value.bool hb8) ?_
   refine zg ?_
   injection hF with hF
   subst hF
   refine zk ?_
   exact ⟨rfl, _, znW znH, hO, hL⟩
 ·rintro e σ ⟨_, hA, hO, hL⟩
  rw [← zG _ _ hA]
  refine za hO [] [(0, znY bm0), (2, .bool c6)] znI fun j => ?_
  refine zo ?_
  injection hF with hF
  subst hF
  exact hQ _ _ _ _ _ rfl hO hL ⟨rfl, rfl⟩
theorem zl2 {τ : Hp} {p0 : Int} {p1 : Int}  {rr : Int × Bool} (hF : zfh p0 p1 = some rr) :
  Ctr Try.prog 48 #[.int .i64 p0, .int .i64 p1] τ [] (fun v τ' vs' => v = .tuple #[.int .u8 rr.1, .bool rr.2] ∧ vs' = []) := by
 refine zu (args := [.int .i64 p0, .int .i64 p1]) hm Try.func48 s48 rfl fun w0 σ hO Q hQ => ?_
 unfold zfh at hF
 have hL := Hp.le.refl τ
 show wpn _ _ a48.body _ _ _
 unfold a48
 dsimp only
 refine za hO [] [(0, znX p0), (1, znX p1)] znI fun j => ?_
 refine zf (za hO [] [(0, znX p0), (1, znX p1), (19, .bool ((((decide (p0 < 0)) || (decide (p0 ≥ 16))) || (decide (p1 < 0))) || (decide (p1 ≥ 16))))] (And.intro (And.intro rfl rfl) (fun _ => And.intro (And.intro rfl rfl) (fun _ => And.intro (And.intro rfl rfl) (fun _ => znW znI)))) fun j => ?_)
 rcases zi hF with ⟨hb3, hF⟩ | ⟨hb3, hF⟩
 ·refine zm (congrArg Value.bool hb3) ?_
  refine zf (za hO [] [(4, .int .u8 0), (5, .bool false)] znI fun j => ?_)
  refine zx ?_
  injection hF with hF
  subst hF
  exact hQ _ _ _ _ _ rfl hO hL ⟨rfl, rfl⟩
 ·refine zj (congrArg Value.bool hb3) ?_
  refine zv (za hO [] [(4, .int .u8 (IntKind.u8.wrap (orI .i64 (zbM .i64 p0 4) p1))), (5, .bool true)] znI fun j => ?_)
  refine zo ?_
  injection hF with hF
  subst hF
  exact hQ _ _ _ _ _ rfl hO hL ⟨rfl, rfl⟩
theorem zm7 {τ : Hp} {q0 : zb} {bm0 : Nat}  {rr : Int × zb} (hF : zgF q0 = some rr) :
  Ctr Try.prog 47 #[.pointer (some ⟨bm0, 0, none⟩)] τ [some (bm0, ⟨[.int .u8 q0.Kind.toNat, .int .u8 q0.Op.toNat, .int .i64 q0.R, .int .i64 q0.S, .int .i64 q0.T, .int .i64 q0.N, .int .i64 q0.M], 25, 7, true⟩)] (fun v τ' vs' => v = .int .u8 rr.1 ∧ vs' = [some (bm0, ⟨[.int .u8 rr.2.Kind.toNat, .int .u8 rr.2.Op.toNat, .int .i64 rr.2.R, .int .i64 rr.2.S, .int .i64 rr.2.T, .int .i64 rr.2.N, .int .i64 rr.2.M], 25, 7, true⟩)]) := by
 refine zu (args := [.pointer (some ⟨bm0, 0, none⟩)]) hm Try.func47 s47 rfl fun w0 σ hO Q hQ => ?_
 unfold zgF at hF
 have hL := Hp.le.refl τ
 show wpn _ _ a47.body _ _ _
 unfold a47
 dsimp only
 refine za hO [] [(0, znY bm0)] znH fun j => ?_
 refine zbB (zc hO 8 [0, 0] [(0, znY bm0), (9, znX q0.R), (13, znX q0.S)] (And.intro (And.intro rfl rfl) (And.intro (And.intro rfl rfl) znJ)) fun j => ?_)
 obtain ⟨c2, h3, hF⟩ := bind_some hF
 refine zt hO (zl2 h3) rfl fun _ σ _ _ hO h4 h5 => ?_
 have hL := hL.trans h4
 obtain ⟨rfl, rfl⟩ := h5
 have hO : Obs _ _ [_] := hO
 refine za hO [] [(0, znY bm0), (3, .int .u8 c2.1)] znI fun j => ?_
 refine za hO [] [(0, znY bm0), (2, .int .u8 c2.1)] znI fun j => ?_
 refine zo ?_
 injection hF with hF
 subst hF
 exact hQ _ _ _ _ _ rfl hO hL ⟨rfl, rfl⟩
theorem zlT {τ : Hp} {p0 : Int}  {rr : Int × Int} (hF : zeR p0 = some rr) :
  Ctr Try.prog 50 #[.int .u8 p0] τ [] (fun v τ' vs' => v = .tuple #[.int .i64 rr.1, .int .i64 rr.2] ∧ vs' = []) := by
 refine zu (args := [.int .u8 p0]) hm Try.func50 s50 rfl fun w0 σ hO Q hQ => ?_
 unfold zeR at hF
 have hL := Hp.le.refl τ
 show wpn _ _ a50.body _ _ _
 unfold a50
 dsimp only
 refine za hO [] [(0, .int .u8 p0)] znH fun j => ?_
 refine za hO [] [(2, znX (IntKind.i64.wrap (zbu .u8 p0 4))), (3, znX (IntKind.i64.wrap (zbS .u8 p0 15)))] znI fun j => ?_
 refine zo ?_
 injection hF with hF
 subst hF
 exact hQ _ _ _ _ _ rfl hO hL ⟨rfl, rfl⟩
theorem zkH {τ : Hp} {q0 : zb} {bm0 : Nat} {p1 : Int}  {rr : zb} (hF : zex q0 p1 = some rr) :
  Ctr Try.prog 49 #[.pointer (some ⟨bm0, 0, none⟩), .int .u8 p1] τ [some (bm0, ⟨[.int .u8 q0.Kind.toNat, .int .u8 q0.Op.toNat, .int .i64 q0.R, .int .i64 q0.S, .int .i64 q0.T, .int .i64 q0.N, .int .i64 q0.M], 25, 7, true⟩)] (fun v τ' vs' => v = .tuple #[] ∧ vs' = [some (bm0, ⟨[.int .u8 rr.Kind.toNat, .int .u8 rr.Op.toNat, .int .i64 rr.R, .int .i64 rr.S, .int .i64 rr.T, .int .i64 rr.N, .int .i64 rr.M], 25, 7, true⟩)]) := by
 refine zej (args := [.pointer (some ⟨bm0, 0, none⟩), .int .u8 p1]) hm Try.func49 s49 rfl fun w0 σ hO Q hQ => ?_
 unfold zex at hF
 have hL := Hp.le.refl τ
 show wpn _ _ a49.body _ _ _
 unfold a49
 dsimp only
 refine zT (zc hO 3 [] [(0, znY bm0), (5, znY bm0), (6, znY bm0), (7, .int .u8 p1)] znK fun j => ?_)
 obtain ⟨c3, h4, hF⟩ := bind_some hF
 refine zt hO (zlT h4) rfl fun _ σ _ _ hO h5 h6 => ?_
 have hL := hL.trans h5
 obtain ⟨rfl, rfl⟩ := h6
 have hO : Obs _ _ [_] := hO
 refine zc hO 5 [] [(0, znY bm0), (6, znY bm0), (9, znX c3.1), (10, znX c3.2), (12, .pointer (some ⟨bm0, 2, none⟩))] znL fun j => ?_
 refine zB hO (i := 0) rfl (off := 2) rfl rfl rfl rfl (Nat.le_of_ble_eq_true rfl) rfl fun σ hO => ?_
 have hO : Obs _ _ [_] := hO
 refine zc hO 2 [] [(0, znY bm0), (10, znX c3.2), (14, .pointer (some ⟨bm0, 3, none⟩))] znJ fun j => ?_
 refine zB hO (i := 0) rfl (off := 3) rfl rfl rfl rfl (Nat.le_of_ble_eq_true rfl) rfl fun σ hO => ?_
 have hO : Obs _ _ [_] := hO
 refine zg (zk ?_)
 injection hF with hF
 subst hF
 exact (hQ _ _ _ _ _ rfl hO hL ⟨rfl, rfl⟩).2
theorem zlx {τ : Hp}   {rr : zn} (hF : zhN  = some rr) :
  Ctr Try.prog 37 #[.func (.func 46) #[] #[], .func (.func 47) #[] #[], .func (.func 49) #[] #[]] τ [] (fun v τ' vs' => ∃ (f0_0 : Fn) (a0_0 c0_0 : Array Value) (f0_1 : Fn) (a0_1 c0_1 : Array Value) (f0_2 : Fn) (a0_2 c0_2 : Array Value), v = .agg #[.func f0_0 a0_0 c0_0, .func f0_1 a0_1 c0_1, .func f0_2 a0_2 c0_2] ∧ vs' = [] ∧ zbe τ' rr (.func f0_0 a0_0 c0_0) (.func f0_1 a0_1 c0_1) (.func f0_2 a0_2 c0_2)) := by
 refine zu (args := [.func (.func 46) #[] #[], .func (.func 47) #[] #[], .func (.func 49) #[] #[]]) hm Try.func37 s37 rfl fun w0 σ hO Q hQ => ?_
 unfold zhN at hF
 have hL := Hp.le.refl τ
 show wpn _ _ a37.body _ _ _
 unfold a37
 dsimp only
 refine zbd (n := 1) hO rfl rfl fun b4 σ hO => ?_
 have hO : Obs _ _ [_] := hO
 refine zbd (n := 1) hO rfl rfl fun b5 σ hO => ?_
 have hO : Obs _ _ [_, _] := hO
 refine z5 hO fun b6 σ hO => ?_
 have hO : Obs _ _ [_, _, _] := hO
 refine zg (zc hO 4 [] [(6, znY b6), (10, .agg #[(.func (.func 46) #[] #[]), (.func (.func 77) #[] #[(.pointer (some ⟨b4, 0, none⟩))]), (.func (.func 78) #[] #[(.pointer (some ⟨b5, 0, none⟩))])])] znI fun j => ?_)
 refine zB hO (i := 2) rfl (off := 0) rfl rfl rfl rfl (Nat.le_of_ble_eq_true rfl) rfl fun σ hO => ?_
 have hO : Obs _ _ [_, _, _] := hO
 refine zg (zo ?_)
 obtain ⟨_, h8, m7, hO⟩ := hO.shareV (i := 0) rfl
 have hL := hL.trans h8
 have hO : Obs _ _ [_, _, _] := hO
 obtain ⟨_, h10, m9, hO⟩ := hO.shareV (i := 1) rfl
 have hL := hL.trans h10
 have m7 := m7.le h10
 have hO : Obs _ _ [_, _, _] := hO
 injection hF with hF
 subst hF
 have hV0 := hO.val (i := 2) rfl (off := 0) (agg := true) (n := 3) rfl
 have hO := hO.sel [] (by decide)
 exact hQ _ _ _ _ _ (z8 rfl (hV0) rfl) hO hL ⟨_, _, _, _, _, _, _, _, _, rfl, rfl, ⟨(⟨b4, 0, none⟩ : Addr), (⟨b5, 0, none⟩ : Addr), rfl, rfl, rfl, m7, m9⟩⟩
theorem zeb {τ : Hp}   {rr : zn} (hF : zdl  = some rr) :
  Ctr Try.prog 26 #[] τ [] (fun v τ' vs' => ∃ (f0_0 : Fn) (a0_0 c0_0 : Array Value) (f0_1 : Fn) (a0_1 c0_1 : Array Value) (f0_2 : Fn) (a0_2 c0_2 : Array Value), v = .agg #[.func f0_0 a0_0 c0_0, .func f0_1 a0_1 c0_1, .func f0_2 a0_2 c0_2] ∧ vs' = [] ∧ zbe τ' rr (.func f0_0 a0_0 c0_0) (.func f0_1 a0_1 c0_1) (.func f0_2 a0_2 c0_2)) := by
 refine zu (args := []) hm Try.func26 s26 rfl fun w0 σ hO Q hQ => ?_
 unfold zdl at hF
 have hL := Hp.le.refl τ
 show wpn _ _ a26.body _ _ _
 unfold a26
 dsimp only
 refine z5 hO fun b1 σ hO => ?_
 have hO : Obs _ _ [_] := hO
 refine zg ?_
 obtain ⟨c2, h3, hF⟩ := bind_some hF
 refine zt hO (zlx h3) rfl fun _ σ _ _ hO h4 h5 => ?_
 have hL := hL.trans h4
 obtain ⟨f7, a8, c9, f10, a11, c12, f13, a14, c15, rfl, rfl, r6⟩ := h5
 have hO : Obs _ _ [_] := hO
 refine zB hO (i := 0) rfl (off := 0) rfl rfl rfl rfl (Nat.le_of_ble_eq_true rfl) rfl fun σ hO => ?_
 have hO : Obs _ _ [_] := hO
 refine zg (zo ?_)
 injection hF with hF
 subst hF
 have hV0 := hO.val (i := 0) rfl (off := 0) (agg := true) (n := 3) rfl
 have hO := hO.sel [] (by decide)
 exact hQ _ _ _ _ _ (z8 rfl (hV0) rfl) hO hL ⟨_, _, _, _, _, _, _, _, _, rfl, rfl, r6⟩
theorem zmW {τ : Hp} {q0 : zb} {bm0 : Nat}  {rr : Int × zb} (hF : zgW q0 = some rr) :
  Ctr Try.prog 52 #[.pointer (some ⟨bm0, 0, none⟩)] τ [some (bm0, ⟨[.int .u8 q0.Kind.toNat, .int .u8 q0.Op.toNat, .int .i64 q0.R, .int .i64 q0.S, .int .i64 q0.T, .int .i64 q0.N, .int .i64 q0.M], 25, 7, true⟩)] (fun v τ' vs' => v = .int .u8 rr.1 ∧ vs' = [some (bm0, ⟨[.int .u8 rr.2.Kind.toNat, .int .u8 rr.2.Op.toNat, .int .i64 rr.2.R, .int .i64 rr.2.S, .int .i64 rr.2.T, .int .i64 rr.2.N, .int .i64 rr.2.M], 25, 7, true⟩)]) := by
 refine zu (args := [.pointer (some ⟨bm0, 0, none⟩)]) hm Try.func52 s52 rfl fun w0 σ hO Q hQ => ?_
 unfold zgW at hF
 have hL := Hp.le.refl τ
 show wpn _ _ a52.body _ _ _
 unfold a52
 dsimp only
 refine za hO [] [(0, znY bm0)] znH fun j => ?_
 refine za hO [0] [(0, znY bm0), (2, .int .u8 (q0.Op.toNat : Int))] (And.intro (And.intro rfl rfl) znI) fun j => ?_
 refine zo ?_
 injection hF with hF
 subst hF
 exact hQ _ _ _ _ _ rfl hO hL ⟨rfl, rfl⟩
theorem zml {τ : Hp} {q0 : zb} {bm0 : Nat} {p1 : Int}  {rr : zb} (hF : zea q0 p1 = some rr) :
  Ctr Try.prog 53 #[.pointer (some ⟨bm0, 0, none⟩), .int .u8 p1] τ [some (bm0, ⟨[.int .u8 q0.Kind.toNat, .int .u8 q0.Op.toNat, .int .i64 q0.R, .int .i64 q0.S, .int .i64 q0.T, .int .i64 q0.N, .int .i64 q0.M], 25, 7, true⟩)] (fun v τ' vs' => v = .tuple #[] ∧ vs' = [some (bm0, ⟨[.int .u8 rr.Kind.toNat, .int .u8 rr.Op.toNat, .int .i64 rr.R, .int .i64 rr.S, .int .i64 rr.T, .int .i64 rr.N, .int .i64 rr.M], 25, 7, true⟩)]) := by
 refine zej (args := [.pointer (some ⟨bm0, 0, none⟩), .int .u8 p1]) hm Try.func53 s53 rfl fun w0 σ hO Q hQ => ?_
 unfold zea at hF
 have hL := Hp.le.refl τ
 show wpn _ _ a53.body _ _ _
 unfold a53
 dsimp only
 refine zT (zc hO 4 [] [(0, znY bm0), (5, .int .u8 p1), (7, .pointer (some ⟨bm0, 1, none⟩))] znJ fun j => ?_)
 refine zB hO (i := 0) rfl (off := 1) rfl rfl rfl rfl (Nat.le_of_ble_eq_true rfl) rfl fun σ hO => ?_
 have hO : Obs _ _ [_] := hO
 refine zg (zk ?_)
 obtain ⟨z3, hz3, hF⟩ := bind_some hF
 injection hF with hF
 subst hF
 exact (hQ _ _ _ _ _ rfl hO hL ⟨(by first | rfl | (simp only [zfr hz3]; done) | (simp only [← zfr hz3]; try rfl)), (by first | rfl | (simp only [zfr hz3]; done) | (simp only [← zfr hz3]; try rfl))⟩).2
theorem zni {τ : Hp} {q0_0 : Int} {a0_0 : Addr} {q0_1 : Int} {a0_1 : Addr} (m0_0 : At τ a0_0 [.int .u8 q0_0]) (m0_1 : At τ a0_1 [.int .u8 q0_1]) {rr : zn} (hF : zhD q0_0 q0_1 = some rr) :
  Ctr Try.prog 37 #[.func (.func 51) #[] #[(.pointer (some a0_0)), (.pointer (some a0_1))], .func (.func 52) #[] #[], .func (.func 53) #[] #[]] τ [] (fun v τ' vs' => ∃ (f0_0 : Fn) (a0_0 c0_0 : Array Value) (f0_1 : Fn) (a0_1 c0_1 : Array Value) (f0_2 : Fn) (a0_2 c0_2 : Array Value), v = .agg #[.func f0_0 a0_0 c0_0, .func f0_1 a0_1 c0_1, .func f0_2 a0_2 c0_2] ∧ vs' = [] ∧ zbe τ' rr (.func f0_0 a0_0 c0_0) (.func f0_1 a0_1 c0_1) (.func f0_2 a0_2 c0_2)) := by
 refine zu (args := [.func (.func 51) #[] #[(.pointer (some a0_0)), (.pointer (some a0_1))], .func (.func 52) #[] #[], .func (.func 53) #[] #[]]) hm Try.func37 s37 rfl fun w0 σ hO Q hQ => ?_
 unfold zhD at hF
 have hL := Hp.le.refl τ
 show wpn _ _ a37.body _ _ _
 unfold a37
 dsimp only
 refine zbd (n := 1) hO rfl rfl fun b4 σ hO => ?_
 have hO : Obs _ _ [_] := hO
 refine zbd (n := 1) hO rfl rfl fun b5 σ hO => ?_
 have hO : Obs _ _ [_, _] := hO
 refine z5 hO fun b6 σ hO => ?_
 have hO : Obs _ _ [_, _, _] := hO
 refine zg (zc hO 4 [] [(6, znY b6), (10, .agg #[(.func (.func 51) #[] #[(.pointer (some a0_0)), (.pointer (some a0_1))]), (.func (.func 77) #[] #[(.pointer (some ⟨b4, 0, none⟩))]), (.func (.func 78) #[] #[(.pointer (some ⟨b5, 0, none⟩))])])] znI fun j => ?_)
 refine zB hO (i := 2) rfl (off := 0) rfl rfl rfl rfl (Nat.le_of_ble_eq_true rfl) rfl fun σ hO => ?_
 have hO : Obs _ _ [_, _, _] := hO
 refine zg (zo ?_)
 obtain ⟨_, h8, m7, hO⟩ := hO.shareV (i := 0) rfl
 have hL := hL.trans h8
 have m0_0 := m0_0.le h8
 have m0_1 := m0_1.le h8
 have hO : Obs _ _ [_, _, _] := hO
 obtain ⟨_, h10, m9, hO⟩ := hO.shareV (i := 1) rfl
 have hL := hL.trans h10
 have m0_0 := m0_0.le h10
 have m0_1 := m0_1.le h10
 have m7 := m7.le h10
 have hO : Obs _ _ [_, _, _] := hO
 injection hF with hF
 subst hF
 have hV0 := hO.val (i := 2) rfl (off := 0) (agg := true) (n := 3) rfl
 have hO := hO.sel [] (by decide)
 exact hQ _ _ _ _ _ (z8 rfl (hV0) rfl) hO hL ⟨_, _, _, _, _, _, _, _, _, rfl, rfl, ⟨a0_0, a0_1, (⟨b4, 0, none⟩ : Addr), (⟨b5, 0, none⟩ : Addr), rfl, rfl, rfl, m0_0, m0_1, m7, m9⟩⟩
theorem zii {τ : Hp} {p0 : Int} {p1 : Int}  {rr : zn} (hF : zgR p0 p1 = some rr) :
  Ctr Try.prog 27 #[.int .u8 p0, .int .u8 p1] τ [] (fun v τ' vs' => ∃ (f0_0 : Fn) (a0_0 c0_0 : Array Value) (f0_1 : Fn) (a0_1 c0_1 : Array Value) (f0_2 : Fn) (a0_2 c0_2 : Array Value), v = .agg #[.func f0_0 a0_0 c0_0, .func f0_1 a0_1 c0_1, .func f0_2 a0_2 c0_2] ∧ vs' = [] ∧ zbe τ' rr (.func f0_0 a0_0 c0_0) (.func f0_1 a0_1 c0_1) (.func f0_2 a0_2 c0_2)) := by
 refine zu (args := [.int .u8 p0, .int .u8 p1]) hm Try.func27 s27 rfl fun w0 σ hO Q hQ => ?_
 unfold zgR at hF
 have hL := Hp.le.refl τ
 show wpn _ _ a27.body _ _ _
 unfold a27
 dsimp only
 refine zbd (n := 1) hO rfl rfl fun b3 σ hO => ?_
 have hO : Obs _ _ [_] := hO
 refine zbd (n := 1) hO rfl rfl fun b4 σ hO => ?_
 have hO : Obs _ _ [_, _] := hO
 refine z5 hO fun b5 σ hO => ?_
 have hO : Obs _ _ [_, _, _] := hO
 refine zg (zc hO 1 [] [(4, znY b5), (5, .func (.func 51) #[] #[(.pointer (some ⟨b3, 0, none⟩)), (.pointer (some ⟨b4, 0, none⟩))])] znI fun j => ?_)
 obtain ⟨_, h7, m6, hO⟩ := hO.shareV (i := 0) rfl
 have hL := hL.trans h7
 have hO : Obs _ _ [_, _, _] := hO
 obtain ⟨_, h9, m8, hO⟩ := hO.shareV (i := 1) rfl
 have hL := hL.trans h9
 have m6 := m6.le h9
 have hO : Obs _ _ [_, _, _] := hO
 obtain ⟨c10, h11, hF⟩ := bind_some hF
 refine zt hO (zni m6 m8 h11) rfl fun _ σ _ _ hO h12 h13 => ?_
 have hL := hL.trans h12
 have m6 := m6.le h12
 have m8 := m8.le h12
 obtain ⟨f15, a16, c17, f18, a19, c20, f21, a22, c23, rfl, rfl, r14⟩ := h13
 have hO : Obs _ _ [_, _, _] := hO
 refine zB hO (i := 2) rfl (off := 0) rfl rfl rfl rfl (Nat.le_of_ble_eq_true rfl) rfl fun σ hO => ?_
 have hO : Obs _ _ [_, _, _] := hO
 refine zg (zo ?_)
 injection hF with hF
 subst hF
 have hV0 := hO.val (i := 2) rfl (off := 0) (agg := true) (n := 3) rfl
 have hO := hO.sel [] (by decide)
 exact hQ _ _ _ _ _ (z8 rfl (hV0) rfl) hO hL ⟨_, _, _, _, _, _, _, _, _, rfl, rfl, r14⟩
theorem znq {τ : Hp} {q0 : zb} {bm0 : Nat}  {rr : Bool × zb} (hF : zgj q0 = some rr) :
  Ctr Try.prog 54 #[.pointer (some ⟨bm0, 0, none⟩)] τ [some (bm0, ⟨[.int .u8 q0.Kind.toNat, .int .u8 q0.Op.toNat, .int .i64 q0.R, .int .i64 q0.S, .int .i64 q0.T, .int .i64 q0.N, .int .i64 q0.M], 25, 7, true⟩)] (fun v τ' vs' => v = .bool rr.1 ∧ vs' = [some (bm0, ⟨[.int .u8 rr.2.Kind.toNat, .int .u8 rr.2.Op.toNat, .int .i64 rr.2.R, .int .i64 rr.2.S, .int .i64 rr.2.T, .int .i64 rr.2.N, .int .i64 rr.2.M], 25, 7, true⟩)]) := by
 refine zu (args := [.pointer (some ⟨bm0, 0, none⟩)]) hm Try.func54 s54 rfl fun w0 σ hO Q hQ => ?_
 unfold zgj at hF
 have hL := Hp.le.refl τ
 show wpn _ _ a54.body _ _ _
 unfold a54
 dsimp only
 refine za hO [] [(0, znY bm0)] znH fun j => ?_
 refine zc hO 4 [0] [(0, znY bm0), (6, znX q0.T)] (And.intro (And.intro rfl rfl) znI) fun j => ?_
 obtain ⟨c2, h3, hF⟩ := bind_some hF
 refine zt hO (zga h3) rfl fun _ σ _ _ hO h4 h5 => ?_
 have hL := hL.trans h4
 obtain ⟨rfl, rfl⟩ := h5
 have hO : Obs _ _ [_] := hO
 refine za hO [] [(0, znY bm0), (2, .bool c2)] znI fun j => ?_
 refine zo ?_
 injection hF with hF
 subst hF
 exact hQ _ _ _ _ _ rfl hO hL ⟨rfl, rfl⟩
theorem zlN {τ : Hp} {q0 : zb} {bm0 : Nat}  {rr : Int × zb} (hF : zgf q0 = some rr) :
  Ctr Try.prog 55 #[.pointer (some ⟨bm0, 0, none⟩)] τ [some (bm0, ⟨[.int .u8 q0.Kind.toNat, .int .u8 q0.Op.toNat, .int .i64 q0.R, .int .i64 q0.S, .int .i64 q0.T, .int .i64 q0.N, .int .i64 q0.M], 25, 7, true⟩)] (fun v τ' vs' => v = .int .u8 rr.1 ∧ vs' = [some (bm0, ⟨[.int .u8 rr.2.Kind.toNat, .int .u8 rr.2.Op.toNat, .int .i64 rr.2.R, .int .i64 rr.2.S, .int .i64 rr.2.T, .int .i64 rr.2.N, .int .i64 rr.2.M], 25, 7, true⟩)]) := by
 refine zu (args := [.pointer (some ⟨bm0, 0, none⟩)]) hm Try.func55 s55 rfl fun w0 σ hO Q hQ => ?_
 unfold zgf at hF
 have hL := Hp.le.refl τ
 show wpn _ _ a55.body _ _ _
 unfold a55
 dsimp only
 refine za hO [] [(0, znY bm0)] znH fun j => ?_
 refine za hO [0] [(0, znY bm0), (2, .int .u8 (IntKind.u8.wrap q0.T))] (And.intro (And.intro rfl rfl) znI) fun j => ?_
 refine zo ?_
 injection hF with hF
 subst hF
 exact hQ _ _ _ _ _ rfl hO hL ⟨rfl, rfl⟩
theorem zm8 {τ : Hp} {q0 : zb} {bm0 : Nat} {p1 : Int}  {rr : zb} (hF : ze0 q0 p1 = some rr) :
  Ctr Try.prog 56 #[.pointer (some ⟨bm0, 0, none⟩), .int .u8 p1] τ [some (bm0, ⟨[.int .u8 q0.Kind.toNat, .int .u8 q0.Op.toNat, .int .i64 q0.R, .int .i64 q0.S, .int .i64 q0.T, .int .i64 q0.N, .int .i64 q0.M], 25, 7, true⟩)] (fun v τ' vs' => v = .tuple #[] ∧ vs' = [some (bm0, ⟨[.int .u8 rr.Kind.toNat, .int .u8 rr.Op.toNat, .int .i64 rr.R, .int .i64 rr.S, .int .i64 rr.T, .int .i64 rr.N, .int .i64 rr.M], 25, 7, true⟩)]) := by
 refine zej (args := [.pointer (some ⟨bm0, 0, none⟩), .int .u8 p1]) hm Try.func56 s56 rfl fun w0 σ hO Q hQ => ?_
 unfold ze0 at hF
 have hL := Hp.le.refl τ
 show wpn _ _ a56.body _ _ _
 unfold a56
 dsimp only
 refine zT (zc hO 5 [] [(0, znY bm0), (6, znX (IntKind.i64.wrap p1)), (8, .pointer (some ⟨bm0, 4, none⟩))] znJ fun j => ?_)
 refine zB hO (i := 0) rfl (off := 4) rfl rfl rfl rfl (Nat.le_of_ble_eq_true rfl) rfl fun σ hO => ?_
 have hO : Obs _ _ [_] := hO
 refine zg (zk ?_)
 injection hF with hF
 subst hF
 exact (hQ _ _ _ _ _ rfl hO hL ⟨rfl, rfl⟩).2
theorem zmz {τ : Hp}   {rr : zn} (hF : zhw  = some rr) :
  Ctr Try.prog 37 #[.func (.func 54) #[] #[], .func (.func 55) #[] #[], .func (.func 56) #[] #[]] τ [] (fun v τ' vs' => ∃ (f0_0 : Fn) (a0_0 c0_0 : Array Value) (f0_1 : Fn) (a0_1 c0_1 : Array Value) (f0_2 : Fn) (a0_2 c0_2 : Array Value), v = .agg #[.func f0_0 a0_0 c0_0, .func f0_1 a0_1 c0_1, .func f0_2 a0_2 c0_2] ∧ vs' = [] ∧ zbe τ' rr (.func f0_0 a0_0 c0_0) (.func f0_1 a0_1 c0_1) (.func f0_2 a0_2 c0_2)) := by
 refine zu (args := [.func (.func 54) #[] #[], .func (.func 55) #[] #[], .func (.func 56) #[] #[]]) hm Try.func37 s37 rfl fun w0 σ hO Q hQ => ?_
 unfold zhw at hF
 have hL := Hp.le.refl τ
 show wpn _ _ a37.body _ _ _
 unfold a37
 dsimp only
 refine zbd (n := 1) hO rfl rfl fun b4 σ hO => ?_
 have hO : Obs _ _ [_] := hO
 refine zbd (n := 1) hO rfl rfl fun b5 σ hO => ?_
 have hO : Obs _ _ [_, _] := hO
 refine z5 hO fun b6 σ hO => ?_
 have hO : Obs _ _ [_, _, _] := hO
 refine zg (zc hO 4 [] [(6, znY b6), (10, .agg #[(.func (.func 54) #[] #[]), (.func (.func 77) #[] #[(.pointer (some ⟨b4, 0, none⟩))]), (.func (.func 78) #[] #[(.pointer (some ⟨b5, 0, none⟩))])])] znI fun j => ?_)
 refine zB hO (i := 2) rfl (off := 0) rfl rfl rfl rfl (Nat.le_of_ble_eq_true rfl) rfl fun σ hO => ?_
 have hO : Obs _ _ [_, _, _] := hO
 refine zg (zo ?_)
 obtain ⟨_, h8, m7, hO⟩ := hO.shareV (i := 0) rfl
 have hL := hL.trans h8
 have hO : Obs _ _ [_, _, _] := hO
 obtain ⟨_, h10, m9, hO⟩ := hO.shareV (i := 1) rfl
 have hL := hL.trans h10
 have m7 := m7.le h10
 have hO : Obs _ _ [_, _, _] := hO
 injection hF with hF
 subst hF
 have hV0 := hO.val (i := 2) rfl (off := 0) (agg := true) (n := 3) rfl
 have hO := hO.sel [] (by decide)
 exact hQ _ _ _ _ _ (z8 rfl (hV0) rfl) hO hL ⟨_, _, _, _, _, _, _, _, _, rfl, rfl, ⟨(⟨b4, 0, none⟩ : Addr), (⟨b5, 0, none⟩ : Addr), rfl, rfl, rfl, m7, m9⟩⟩
theorem zj2 {τ : Hp}   {rr : zn} (hF : zgp  = some rr) :
  Ctr Try.prog 28 #[] τ [] (fun v τ' vs' => ∃ (f0_0 : Fn) (a0_0 c0_0 : Array Value) (f0_1 : Fn) (a0_1 c0_1 : Array Value) (f0_2 : Fn) (a0_2 c0_2 : Array Value), v = .agg #[.func f0_0 a0_0 c0_0, .func f0_1 a0_1 c0_1, .func f0_2 a0_2 c0_2] ∧ vs' = [] ∧ zbe τ' rr (.func f0_0 a0_0 c0_0) (.func f0_1 a0_1 c0_1) (.func f0_2 a0_2 c0_2)) := by
 refine zu (args := []) hm Try.func28 s28 rfl fun w0 σ hO Q hQ => ?_
 unfold zgp at hF
 have hL := Hp.le.refl τ
 show wpn _ _ a28.body _ _ _
 unfold a28
 dsimp only
 refine z5 hO fun b1 σ hO => ?_
 have hO : Obs _ _ [_] := hO
 refine zg ?_
 obtain ⟨c2, h3, hF⟩ := bind_some hF
 refine zt hO (zmz h3) rfl fun _ σ _ _ hO h4 h5 => ?_
 have hL := hL.trans h4
 obtain ⟨f7, a8, c9, f10, a11, c12, f13, a14, c15, rfl, rfl, r6⟩ := h5
 have hO : Obs _ _ [_] := hO
 refine zB hO (i := 0) rfl (off := 0) rfl rfl rfl rfl (Nat.le_of_ble_eq_true rfl) rfl fun σ hO => ?_
 have hO : Obs _ _ [_] := hO
 refine zg (zo ?_)
 injection hF with hF
 subst hF
 have hV0 := hO.val (i := 0) rfl (off := 0) (agg := true) (n := 3) rfl
 have hO := hO.sel [] (by decide)
 exact hQ _ _ _ _ _ (z8 rfl (hV0) rfl) hO hL ⟨_, _, _, _, _, _, _, _, _, rfl, rfl, r6⟩
theorem zla {τ : Hp} {q0 : zb} {bm0 : Nat}  {rr : Bool × zb} (hF : zfN q0 = some rr) :
  Ctr Try.prog 29 #[.pointer (some ⟨bm0, 0, none⟩)] τ [some (bm0, ⟨[.int .u8 q0.Kind.toNat, .int .u8 q0.Op.toNat, .int .i64 q0.R, .int .i64 q0.S, .int .i64 q0.T, .int .i64 q0.N, .int .i64 q0.M], 25, 7, true⟩)] (fun v τ' vs' => v = .bool rr.1 ∧ vs' = [some (bm0, ⟨[.int .u8 rr.2.Kind.toNat, .int .u8 rr.2.Op.toNat, .int .i64 rr.2.R, .int .i64 rr.2.S, .int .i64 rr.2.T, .int .i64 rr.2.N, .int .i64 rr.2.M], 25, 7, true⟩)]) := by
 refine zu (args := [.pointer (some ⟨bm0, 0, none⟩)]) hm Try.func29 s29 rfl fun w0 σ hO Q hQ => ?_
 unfold zfN at hF
 have hL := Hp.le.refl τ
 show wpn _ _ a29.body _ _ _
 unfold a29
 dsimp only
 refine za hO [] [(0, znY bm0)] znH fun j => ?_
 refine za hO [0, 0] [(0, znY bm0), (2, .bool ((decide (q0.N ≥ (-65536))) && (decide (q0.N ≤ 65536))))] (And.intro (And.intro rfl rfl) (And.intro (And.intro rfl rfl) (And.intro (And.intro rfl rfl) (fun _ => znW znH)))) fun j => ?_
 refine zo ?_
 injection hF with hF
 subst hF
 exact hQ _ _ _ _ _ rfl hO hL ⟨rfl, rfl⟩
theorem zlK {τ : Hp} {q0 : zb} {bm0 : Nat}  {rr : Bool × zb} (hF : zgP q0 = some rr) :
  Ctr Try.prog 57 #[.pointer (some ⟨bm0, 0, none⟩)] τ [some (bm0, ⟨[.int .u8 q0.Kind.toNat, .int .u8 q0.Op.toNat, .int .i64 q0.R, .int .i64 q0.S, .int .i64 q0.T, .int .i64 q0.N, .int .i64 q0.M], 25, 7, true⟩)] (fun v τ' vs' => v = .bool rr.1 ∧ vs' = [some (bm0, ⟨[.int .u8 rr.2.Kind.toNat, .int .u8 rr.2.Op.toNat, .int .i64 rr.2.R, .int .i64 rr.2.S, .int .i64 rr.2.T, .int .i64 rr.2.N, .int .i64 rr.2.M], 25, 7, true⟩)]) := by
 refine zu (args := [.pointer (some ⟨bm0, 0, none⟩)]) hm Try.func57 s57 rfl fun w0 σ hO Q hQ => ?_
 unfold zgP at hF
 have hL := Hp.le.refl τ
 show wpn _ _ a57.body _ _ _
 unfold a57
 dsimp only
 refine za hO [] [(0, znY bm0)] znH fun j => ?_
 refine za hO [0, 0] [(0, znY bm0), (2, .bool ((decide (q0.M ≥ 1)) && (decide (q0.M ≤ 65536))))] (And.intro (And.intro rfl rfl) (And.intro (And.intro rfl rfl) (And.intro (And.intro rfl rfl) (fun _ => znW znH)))) fun j => ?_
 refine zo ?_
 injection hF with hF
 subst hF
 exact hQ _ _ _ _ _ rfl hO hL ⟨rfl, rfl⟩
theorem ziz {τ : Hp} {v0 : Value} {p0 : (List UInt8)} {p1 : Int} (r0 : RdT Ty.u8 τ v0 p0) {rr : (List UInt8)} (hF : zdB p0 p1 = some rr) :
  Ctr Try.prog 59 #[v0, .int .u64 p1] τ [] (fun v τ' vs' => ∃ (v0 : Value) (o0 : Ob), v = v0 ∧ vs' = [o0] ∧ zd Ty.u8 5 τ' v0 rr o0) := by
 obtain ⟨A0, c0, rfl, -⟩ := r0.form
 refine zu (args := [.slice A0 p0.length c0, .int .u64 p1]) hm Try.func59 s59 rfl fun w0 σ hO Q hQ => ?_
 unfold zdB at hF
 have hL := Hp.le.refl τ
 show wpn _ _ a59.body _ _ _
 unfold a59
 dsimp only
 refine za hO [] [(0, .slice A0 p0.length c0), (1, .int .u64 p1)] znI fun j => ?_
 refine zc hO 1 [] [(1, .int .u64 p1), (6, .slice A0 p0.length c0)] znI fun j => ?_
 obtain ⟨c3, h4, hF⟩ := bind_some hF
 refine zt hO (zft r0 h4) rfl fun _ σ _ _ hO h5 h6 => ?_
 have hL := hL.trans h5
 have r0 := r0.le h5
 obtain ⟨v7, o10, rfl, rfl, w11⟩ := h6
 obtain ⟨A8, c9, rfl, -⟩ := w11.form
 have hO : Obs _ _ [_] := hO
 refine za hO [] [(1, .int .u64 p1), (5, .slice A8 c3.length c9)] znI fun j => ?_
 refine zX (zb0 (fun (n : Nat) e' σ' => ∃ (x30 : Int) (A31 : Option Addr) (c32 : Nat) (o33 : Ob) (x34 : List UInt8) (τ' : Hp), agr [(1, .int .u64 x30), (5, .slice A31 x34.length c32)] e' ∧ Obs τ' σ' [o33] ∧ Hp.le τ τ' ∧ zd Ty.u8 5 τ' (.slice A31 x34.length c32) x34 o33 ∧ zeO  n x30 x34 = some rr) big ⟨p1, A8, c9, o10, c3, _, znW znH, hO, hL, w11, hF⟩ ?_)
 clear hF hO hL
 rintro n49 e σ ⟨x30, A31, c32, o33, x34, _, hA, hO, hL, w35, hF⟩
 rw [← zG _ _ hA]
 cases n49 with
 | zero => exact nomatch (show none = some rr from hF)
 | succ n49 =>
  replace hF : zeC (zeO  n49) x30 x34 = some rr := hF
  unfold zeC at hF
  refine zf (za hO [] [(1, .int .u64 x30), (5, .slice A31 x34.length c32), (9, .bool (decide (x30 > 127)))] znJ fun j => ?_)
  rcases zi hF with ⟨hb50, hF⟩ | ⟨hb50, hF⟩
  ·refine zm (congrArg Value.bool hb50) ?_
   refine zv (zhB (zX (zc hO 4 [] [(1, .int .u64 x30), (10, .slice A31 x34.length c32), (13, .int .u8 (orI .u8 (IntKind.u8.wrap x30) 128))] znJ fun j => ?_)))
   obtain ⟨z51, hz51, hF⟩ := bind_some hF
   obtain ⟨_, hr56, hF⟩ := bind_some hF
   refine zcv (T := Ty.u8) (y := z51) hO w35 (i := 0) rfl rfl (fun _ => rfl) rfl (u8R hz51) rfl hr56 (by decide) fun u _ σ o54 w55 hO => ?_
   obtain ⟨A52, c53, rfl, -⟩ := w55.form
   have hO : Obs _ _ [_] := hO
   refine za hO [] [(1, .int .u64 x30), (5, .slice A52 (x34 ++ [z51]).length c53)] znI fun j => ?_
   refine zT (za hO [] [(1, .int .u64 (zbu .u64 x30 7)), (5, .slice A52 (x34 ++ [z51]).length c53)] znI fun j => ?_)
   refine zk (zV (zs (zk (zs ?_))))
   exact ⟨n49, Nat.lt_succ_self _, (zbu .u64 x30 7), A52, c53, o54, (x34 ++ [z51]), _, znW znH, hO, hL, w55, hF⟩
  ·refine zj (congrArg Value.bool hb50) ?_
   refine zbV (zbZ (zb2 (zs (zc hO 3 [] [(18, .slice A31 x34.length c32), (20, .int .u8 (IntKind.u8.wrap x30))] znI fun j => ?_))))
   obtain ⟨z57, hz57, hF⟩ := bind_some hF
   obtain ⟨_, hr62, hF⟩ := bind_some hF
   refine zcv (T := Ty.u8) (y := z57) hO w35 (i := 0) rfl rfl (fun _ => rfl) rfl (u8R hz57) rfl hr62 (by decide) fun u _ σ o60 w61 hO => ?_
   obtain ⟨A58, c59, rfl, -⟩ := w61.form
   have hO : Obs _ _ [_] := hO
   refine za hO [] [(4, .slice A58 (x34 ++ [z57]).length c59)] znH fun j => ?_
   refine zo ?_
   injection hF with hF
   subst hF
   exact hQ _ _ _ _ _ rfl hO hL ⟨_, _, rfl, rfl, w61⟩
theorem znv {τ : Hp} {p0 : Int} {p1 : Int}  {rr : Int} (hF : zfI p0 p1 = some rr) :
  Ctr Try.prog 83 #[.int .u64 p0, .int .i64 p1] τ [] (fun v τ' vs' => v = .int .u64 rr ∧ vs' = []) := by
 refine zu (args := [.int .u64 p0, .int .i64 p1]) hm Try.func83 s83 rfl fun w0 σ hO Q hQ => ?_
 unfold zfI at hF
 have hL := Hp.le.refl τ
 show wpn _ _ a83.body _ _ _
 unfold a83
 dsimp only
 refine za hO [] [(0, .int .u64 p0)] znH fun j => ?_
 refine za hO [] [(4, .int .u64 p0)] znH fun j => ?_
 refine zo ?_
 injection hF with hF
 subst hF
 exact hQ _ _ _ _ _ rfl hO hL ⟨rfl, rfl⟩
theorem zmi {τ : Hp} {v0 : Value} {p0 : (List UInt8)} {p1 : Int} (r0 : RdT Ty.u8 τ v0 p0) {rr : Int × Int × Int} (hF : zf3 p0 p1 = some rr) :
  Ctr Try.prog 82 #[v0, .int .i64 p1, .func (.func 83) #[] #[], .func (.func 59) #[] #[]] τ [] (fun v τ' vs' => v = .tuple #[.int .u64 rr.1, .int .i64 rr.2.1, .int .i64 rr.2.2] ∧ vs' = []) := by
 obtain ⟨A0, c0, rfl, -⟩ := r0.form
 refine zu (args := [.slice A0 p0.length c0, .int .i64 p1, .func (.func 83) #[] #[], .func (.func 59) #[] #[]]) hm Try.func82 s82 rfl fun w0 σ hO Q hQ => ?_
 unfold zf3 at hF
 have hL := Hp.le.refl τ
 show wpn _ _ a82.body _ _ _
 unfold a82
 dsimp only
 refine za hO [] [(0, .slice A0 p0.length c0), (1, znX p1), (2, .func (.func 83) #[] #[]), (3, .func (.func 59) #[] #[])] znK fun j => ?_
 refine zf (za hO [] [(0, .slice A0 p0.length c0), (1, znX p1), (2, .func (.func 83) #[] #[]), (3, .func (.func 59) #[] #[]), (21, .bool ((decide (p1 < 0)) || (decide (p1 > (p0.length : Int)))))] (And.intro (And.intro rfl rfl) (fun _ => znW znK)) fun j => ?_)
 rcases zi hF with ⟨hb5, hF⟩ | ⟨hb5, hF⟩
 ·refine zm (congrArg Value.bool hb5) ?_
  refine zf (za hO [] [(8, .int .u64 0), (9, znX 0), (10, znX 1)] znJ fun j => ?_)
  refine zx ?_
  injection hF with hF
  subst hF
  exact hQ _ _ _ _ _ rfl hO hL ⟨rfl, rfl⟩
 ·refine zj (congrArg Value.bool hb5) ?_
  refine zv (zc hO 2 [] [(0, .slice A0 p0.length c0), (1, znX p1), (2, .func (.func 83) #[] #[]), (3, .func (.func 59) #[] #[]), (23, .slice A0 p0.length c0), (24, znX p1)] znM fun j => ?_)
  obtain ⟨y6, g7, hF⟩ := bind_some hF
  refine zc4 (T := Ty.u8) r0 rfl rfl rfl g7 fun _ r8 => ?_
  obtain ⟨A9, c10, rfl, -⟩ := r8.form
  obtain ⟨c11, h12, hF⟩ := bind_some hF
  refine zt hO (ziA r8 h12) rfl fun _ σ _ _ hO h13 h14 => ?_
  have hL := hL.trans h13
  have r0 := r0.le h13
  have r8 := r8.le h13
  obtain ⟨rfl, rfl⟩ := h14
  have hO : Obs _ _ [] := hO
  refine za hO [] [(0, .slice A0 p0.length c0), (1, znX p1), (2, .func (.func 83) #[] #[]), (3, .func (.func 59) #[] #[]), (11, .int .u64 c11.1), (12, znX c11.2)] znM fun j => ?_
  refine zc hO 3 [] [(0, .slice A0 p0.length c0), (1, znX p1), (3, .func (.func 59) #[] #[]), (12, znX c11.2), (29, .func (.func 83) #[] #[]), (30, .int .u64 c11.1), (31, znX c11.2)] znN fun j => ?_
  obtain ⟨c15, h16, hF⟩ := bind_some hF
  refine zgN rfl (by kernel_rfl) hO (znv h16) rfl fun _ σ _ _ hO h17 h18 => ?_
  have hL := hL.trans h17
  have r0 := r0.le h17
  obtain ⟨rfl, rfl⟩ := h18
  have hO : Obs _ _ [] := hO
  refine za hO [] [(0, .slice A0 p0.length c0), (1, znX p1), (3, .func (.func 59) #[] #[]), (12, znX c11.2), (13, .int .u64 c15)] znL fun j => ?_
  refine zf (zbB (zc hO 3 [] [(0, .slice A0 p0.length c0), (1, znX p1), (3, .func (.func 59) #[] #[]), (12, znX c11.2), (13, .int .u64 c15), (35, .bool (c11.2 == 0))] znM fun j => ?_))
  obtain ⟨c19, h20, hF⟩ := bind_some hF
  refine zcp 2 (fun e' σ' => ∃ (τ' : Hp), agr [(47, .bool c19), (1, znX p1), (12, znX c11.2), (13, .int .u64 c15)] e' ∧ Obs τ' σ' [] ∧ Hp.le τ τ') ?_ ?_
  ·have hF := h20
   rcases zi hF with ⟨hb21, hF⟩ | ⟨hb21, hF⟩
   ·refine zb7 (congrArg (fun x => isB (.bool x) false) hb21) ?_
    refine z9 (congrArg Value.bool hb21) ?_
    refine zg ?_
    injection hF with hF
    subst hF
    refine zk ?_
    exact ⟨rfl, _, znW znJ, hO, hL⟩
   ·refine zb9 (congrArg (fun x => isB (.bool x) false) hb21) ?_
    refine zc hO 7 [] [(1, znX p1), (12, znX c11.2), (13, .int .u64 c15), (35, .bool (c11.2 == 0)), (36, .func (.func 59) #[] #[]), (37, .int .u64 c15), (39, .slice A0 p0.length c0), (40, znX p1), (43, znX (IntKind.i64.wrap (p1 + c11.2)))] znP fun j => ?_
    obtain ⟨y22, g23, hF⟩ := bind_some hF
    refine zc4 (T := Ty.u8) r0 rfl rfl rfl g23 fun _ r24 => ?_
    obtain ⟨A25, c26, rfl, -⟩ := r24.form
    obtain ⟨c27, h28, hF⟩ := bind_some hF
    refine zgN rfl (by kernel_rfl) hO (ziz (RdT.nil Ty.u8 _) h28) rfl fun _ σ _ _ hO h29 h30 => ?_
    have hL := hL.trans h29
    have r0 := r0.le h29
    have r24 := r24.le h29
    obtain ⟨v31, o34, rfl, rfl, w35⟩ := h30
    obtain ⟨A32, c33, rfl, -⟩ := w35.form
    have hO : Obs _ _ [_] := hO
    obtain ⟨_, h37, r36, hO⟩ := w35.share hO (i := 0) rfl
    have hL := hL.trans h37
    have r0 := r0.le h37
    have r24 := r24.le h37
    have hO : Obs _ _ [_] := hO
    obtain ⟨c38, h39, hF⟩ := bind_some hF
    refine zt hO (zjz r36 r24 h39) rfl fun _ σ _ _ hO h40 h41 => ?_
    have hL := hL.trans h40
    have r36 := r36.le h40
    have r0 := r0.le h40
    have r24 := r24.le h40
    obtain ⟨rfl, rfl⟩ := h41
    have hO : Obs _ _ [_] := hO
    refine zc hO 1 [] [(1, znX p1), (12, znX c11.2), (13, .int .u64 c15), (35, .bool (c11.2 == 0)), (46, .bool (!c38))] znL fun j => ?_
    refine z9 (congrArg Value.bool hb21) ?_
    refine zg ?_
    injection hF with hF
    subst hF
    refine zk ?_
    have hO := hO.sel [] (by decide)
    exact ⟨rfl, _, znW znJ, hO, hL⟩
  ·rintro e σ ⟨_, hA, hO, hL⟩
   rw [← zG _ _ hA]
   refine zg ?_
   rcases zi hF with ⟨hb42, hF⟩ | ⟨hb42, hF⟩
   ·refine zm (congrArg Value.bool hb42) ?_
    refine zf (za hO [] [(8, .int .u64 0), (9, znX 0), (10, znX 5)] znJ fun j => ?_)
    refine zx ?_
    injection hF with hF
    subst hF
    exact hQ _ _ _ _ _ rfl hO hL ⟨rfl, rfl⟩
   ·refine zj (congrArg Value.bool hb42) ?_
    refine zv (za hO [] [(8, .int .u64 c15), (9, znX (IntKind.i64.wrap (p1 + c11.2))), (10, znX 0)] znJ fun j => ?_)
    refine zo ?_
    injection hF with hF
    subst hF
    exact hQ _ _ _ _ _ rfl hO hL ⟨rfl, rfl⟩
theorem zkY {τ : Hp} {v0 : Value} {p0 : (List UInt8)} {p1 : Int} (r0 : RdT Ty.u8 τ v0 p0) {rr : Int × Int × Int} (hF : zeu p0 p1 = some rr) :
  Ctr Try.prog 61 #[v0, .int .i64 p1] τ [] (fun v τ' vs' => v = .tuple #[.int .u64 rr.1, .int .i64 rr.2.1, .int .i64 rr.2.2] ∧ vs' = []) := by
 obtain ⟨A0, c0, rfl, -⟩ := r0.form
 refine zu (args := [.slice A0 p0.length c0, .int .i64 p1]) hm Try.func61 s61 rfl fun w0 σ hO Q hQ => ?_
 unfold zeu at hF
 have hL := Hp.le.refl τ
 show wpn _ _ a61.body _ _ _
 unfold a61
 dsimp only
 refine za hO [] [(0, .slice A0 p0.length c0), (1, znX p1)] znI fun j => ?_
 refine zc hO 2 [] [(7, .slice A0 p0.length c0), (8, znX p1)] znI fun j => ?_
 obtain ⟨c3, h4, hF⟩ := bind_some hF
 refine zt hO (zmi r0 h4) rfl fun _ σ _ _ hO h5 h6 => ?_
 have hL := hL.trans h5
 have r0 := r0.le h5
 obtain ⟨rfl, rfl⟩ := h6
 have hO : Obs _ _ [] := hO
 refine za hO [] [(4, .int .u64 c3.1), (5, znX c3.2.1), (6, znX c3.2.2)] znJ fun j => ?_
 refine zo ?_
 injection hF with hF
 subst hF
 exact hQ _ _ _ _ _ rfl hO hL ⟨rfl, rfl⟩
theorem zlc {τ : Hp} {v0 : Value} {p0 : (List UInt8)} {p1 : Int} {q2 : zb} {bm2 : Nat} (r0 : RdT Ty.u8 τ v0 p0) {rr : Int × Bool × zb} (hF : zez p0 p1 q2 = some rr) :
  Ctr Try.prog 60 #[v0, .int .i64 p1, .pointer (some ⟨bm2, 0, none⟩)] τ [some (bm2, ⟨[.int .u8 q2.Kind.toNat, .int .u8 q2.Op.toNat, .int .i64 q2.R, .int .i64 q2.S, .int .i64 q2.T, .int .i64 q2.N, .int .i64 q2.M], 25, 7, true⟩)] (fun v τ' vs' => v = .tuple #[.int .i64 rr.1, .bool rr.2.1] ∧ vs' = [some (bm2, ⟨[.int .u8 rr.2.2.Kind.toNat, .int .u8 rr.2.2.Op.toNat, .int .i64 rr.2.2.R, .int .i64 rr.2.2.S, .int .i64 rr.2.2.T, .int .i64 rr.2.2.N, .int .i64 rr.2.2.M], 25, 7, true⟩)]) := by
 obtain ⟨A0, c0, rfl, -⟩ := r0.form
 refine zu (args := [.slice A0 p0.length c0, .int .i64 p1, .pointer (some ⟨bm2, 0, none⟩)]) hm Try.func60 s60 rfl fun w0 σ hO Q hQ => ?_
 unfold zez at hF
 have hL := Hp.le.refl τ
 show wpn _ _ a60.body _ _ _
 unfold a60
 dsimp only
 refine za hO [] [(0, .slice A0 p0.length c0), (1, znX p1), (2, znY bm2)] znJ fun j => ?_
 refine zc hO 2 [] [(2, znY bm2), (12, .slice A0 p0.length c0), (13, znX p1)] znJ fun j => ?_
 obtain ⟨c4, h5, hF⟩ := bind_some hF
 refine zt hO (zkY r0 h5) rfl fun _ σ _ _ hO h6 h7 => ?_
 have hL := hL.trans h6
 have r0 := r0.le h6
 obtain ⟨rfl, rfl⟩ := h7
 have hO : Obs _ _ [_] := hO
 refine za hO [] [(2, znY bm2), (8, .int .u64 c4.1), (9, znX c4.2.1), (10, znX c4.2.2)] znK fun j => ?_
 refine zc hO 6 [] [(2, znY bm2), (9, znX c4.2.1), (10, znX c4.2.2), (21, znX (IntKind.i64.wrap (zbp c4.1 16777216))), (23, .pointer (some ⟨bm2, 6, none⟩))] znL fun j => ?_
 refine zB hO (i := 0) rfl (off := 6) rfl rfl rfl rfl (Nat.le_of_ble_eq_true rfl) rfl fun σ hO => ?_
 have hO : Obs _ _ [_] := hO
 refine zg (za hO [] [(2, znY bm2), (6, znX c4.2.1), (7, .bool (c4.2.2 == 0))] znJ fun j => ?_)
 refine zo ?_
 injection hF with hF
 subst hF
 exact hQ _ _ _ _ _ rfl hO hL ⟨rfl, rfl⟩
theorem zkT {τ : Hp}   {rr : zn} (hF : zg0  = some rr) :
  Ctr Try.prog 30 #[] τ [] (fun v τ' vs' => ∃ (f0_0 : Fn) (a0_0 c0_0 : Array Value) (f0_1 : Fn) (a0_1 c0_1 : Array Value) (f0_2 : Fn) (a0_2 c0_2 : Array Value), v = .agg #[.func f0_0 a0_0 c0_0, .func f0_1 a0_1 c0_1, .func f0_2 a0_2 c0_2] ∧ vs' = [] ∧ zbe τ' rr (.func f0_0 a0_0 c0_0) (.func f0_1 a0_1 c0_1) (.func f0_2 a0_2 c0_2)) := by
 refine zu (args := []) hm Try.func30 s30 rfl fun w0 σ hO Q hQ => ?_
 unfold zg0 at hF
 have hL := Hp.le.refl τ
 show wpn _ _ a30.body _ _ _
 unfold a30
 dsimp only
 refine z5 hO fun b1 σ hO => ?_
 have hO : Obs _ _ [_] := hO
 refine zg (zc hO 1 [] [(0, znY b1), (1, .agg #[(.func (.func 57) #[] #[]), (.func (.func 58) #[] #[]), (.func (.func 60) #[] #[])])] znI fun j => ?_)
 refine zB hO (i := 0) rfl (off := 0) rfl rfl rfl rfl (Nat.le_of_ble_eq_true rfl) rfl fun σ hO => ?_
 have hO : Obs _ _ [_] := hO
 refine zg (zo ?_)
 injection hF with hF
 subst hF
 have hV0 := hO.val (i := 0) rfl (off := 0) (agg := true) (n := 3) rfl
 have hO := hO.sel [] (by decide)
 exact hQ _ _ _ _ _ (z8 rfl (hV0) rfl) hO hL ⟨_, _, _, _, _, _, _, _, _, rfl, rfl, ⟨rfl, rfl, rfl⟩⟩
theorem zll {τ : Hp} {q0 : zb} {bm0 : Nat}  {rr : Bool × zb} (hF : zfQ q0 = some rr) :
  Ctr Try.prog 62 #[.pointer (some ⟨bm0, 0, none⟩)] τ [some (bm0, ⟨[.int .u8 q0.Kind.toNat, .int .u8 q0.Op.toNat, .int .i64 q0.R, .int .i64 q0.S, .int .i64 q0.T, .int .i64 q0.N, .int .i64 q0.M], 25, 7, true⟩)] (fun v τ' vs' => v = .bool rr.1 ∧ vs' = [some (bm0, ⟨[.int .u8 rr.2.Kind.toNat, .int .u8 rr.2.Op.toNat, .int .i64 rr.2.R, .int .i64 rr.2.S, .int .i64 rr.2.T, .int .i64 rr.2.N, .int .i64 rr.2.M], 25, 7, true⟩)]) := by
 refine zu (args := [.pointer (some ⟨bm0, 0, none⟩)]) hm Try.func62 s62 rfl fun w0 σ hO Q hQ => ?_
 unfold zfQ at hF
 have hL := Hp.le.refl τ
 show wpn _ _ a62.body _ _ _
 unfold a62
 dsimp only
 refine za hO [] [(0, znY bm0)] znH fun j => ?_
 refine za hO [0, 0] [(0, znY bm0), (2, .bool ((decide (q0.N ≥ 0)) && (decide (q0.N < 16777216))))] (And.intro (And.intro rfl rfl) (And.intro (And.intro rfl rfl) (And.intro (And.intro rfl rfl) (fun _ => znW znH)))) fun j => ?_
 refine zo ?_
 injection hF with hF
 subst hF
 exact hQ _ _ _ _ _ rfl hO hL ⟨rfl, rfl⟩
theorem zm2 {τ : Hp} {p1 : Int} (r0 : RdT Ty.u8 τ (.slice none 0 0) []) {rr : (List UInt8)} (hF : zeW [] p1 = some rr) :
  Ctr Try.prog 89 #[.slice none 0 0, .int .i64 p1] τ [] (fun v τ' vs' => ∃ (v0 : Value) (o0 : Ob), v = v0 ∧ vs' = [o0] ∧ zd Ty.u8 5 τ' v0 rr o0) := by
 refine zu (args := [.slice none 0 0, .int .i64 p1]) hm Try.func89 s89 rfl fun w0 σ hO Q hQ => ?_
 unfold zeW at hF
 have hL := Hp.le.refl τ
 show wpn _ _ a89.body _ _ _
 unfold a89
 dsimp only
 refine za hO [] [(0, .slice none 0 0), (1, znX p1)] znI fun j => ?_
 refine zf (za hO [] [(0, .slice none 0 0), (1, znX p1), (6, .bool (decide (p1 < 0)))] znJ fun j => ?_)
 refine zbx (fun e' σ' => ∃ (τ' : Hp), agr [(0, .slice none 0 0), (1, znX p1)] e' ∧ Obs τ' σ' [] ∧ Hp.le τ τ' ∧ zgv p1 = some rr) ?_ ?_
 ·refine z0 ?_
  rcases zi hF with ⟨hb15, hF⟩ | ⟨hb15, hF⟩
  ·refine zm (congrArg Value.bool hb15) ?_
   refine zc hO 1 [] [(0, .slice none 0 0), (1, znX p1), (7, .iface 9 (.string (⟨#[99, 97, 110, 110, 111, 116, 32, 98, 101, 32, 110, 101, 103, 97, 116, 105, 118, 101]⟩ : ByteArray)))] znJ fun j => ?_
   exact nomatch (show none = some _ from hF)
  ·refine zj (congrArg Value.bool hb15) ?_
   refine zv (zk (zs ?_))
   exact ⟨_, znW znH, hO, hL, hF⟩
 ·rintro e σ ⟨_, hA, hO, hL, hF⟩
  rw [← zG _ _ hA]
  unfold zgv at hF
  refine zf (za hO [] [(0, .slice none 0 0), (1, znX (IntKind.i64.wrap (p1 - (IntKind.i64.wrap (0 - 0)))))] znI fun j => ?_)
  refine zf (za hO [] [(0, .slice none 0 0), (1, znX (IntKind.i64.wrap (p1 - (IntKind.i64.wrap (0 - 0))))), (16, .bool (decide ((IntKind.i64.wrap (p1 - (IntKind.i64.wrap (0 - 0)))) > 0)))] znJ fun j => ?_)
  rcases zi hF with ⟨hb4, hF⟩ | ⟨hb4, hF⟩
  ·refine zm (congrArg Value.bool hb4) ?_
   refine zc hO 3 [] [(0, .slice none 0 0), (1, znX (IntKind.i64.wrap (p1 - (IntKind.i64.wrap (0 - 0))))), (17, .slice none 0 0), (19, znX 0)] znK fun j => ?_
   refine zlS rfl rfl rfl ?_
   refine zc hO 1 [] [(0, .slice none 0 0), (20, .slice none 0 0), (21, znX (IntKind.i64.wrap (p1 - (IntKind.i64.wrap (0 - 0)))))] znJ fun j => ?_
   have hO := hO.no
   have hO : Obs _ _ [_] := hO
   have w5 := zd.nil0 (T := Ty.u8) (ty := 5) hO
   obtain ⟨_, g10, hF⟩ := bind_some hF
   obtain ⟨_, hr11, hF⟩ := bind_some hF
   refine znt (T := Ty.u8) (z := (0 : UInt8)) hO w5 (i := 0) rfl rfl rfl (zkl g10) (show _ = _ from rfl) hr11 (by decide) fun _ σ o8 w9 hO => ?_
   obtain ⟨A6, c7, rfl, -⟩ := w9.form
   have hO : Obs _ _ [_] := hO
   refine zc hO 2 [] [(22, .slice A6 (([] : List UInt8) ++ List.replicate (Int.toNat (IntKind.i64.wrap (p1 - (IntKind.i64.wrap (0 - 0))))) (0 : UInt8)).length c7), (24, znX 0)] znI fun j => ?_
   obtain ⟨y12, g13, hF⟩ := bind_some hF
   refine zkD (T := Ty.u8) w9 rfl rfl g13 fun w14 => ?_
   refine za hO [] [(0, .slice A6 y12.length c7)] znH fun j => ?_
   refine za hO [] [(4, .slice A6 y12.length c7)] znH fun j => ?_
   refine zo ?_
   injection hF with hF
   subst hF
   exact hQ _ _ _ _ _ rfl hO hL ⟨_, _, rfl, rfl, w14⟩
  ·refine zj (congrArg Value.bool hb4) ?_
   refine zv (za hO [] [(4, .slice none 0 0)] znH fun j => ?_)
   refine zo ?_
   have hO := hO.no
   have hO : Obs _ _ [_] := hO
   injection hF with hF
   subst hF
   exact hQ _ _ _ _ _ rfl hO hL ⟨_, _, rfl, rfl, (zd.nil _ _ _)⟩
theorem zmJ {τ : Hp} {v0 : Value} {p0 : (List (List UInt8))} (r0 : RdT (Ty.slice Ty.u8) τ v0 p0) {rr : (List UInt8)} (hF : zf5 p0 = some rr) :
  Ctr Try.prog 84 #[v0] τ [] (fun v τ' vs' => ∃ (v0 : Value) (o0 : Ob), v = v0 ∧ vs' = [o0] ∧ zd Ty.u8 5 τ' v0 rr o0) := by
 obtain ⟨A0, c0, rfl, -⟩ := r0.form
 refine zu (args := [.slice A0 p0.length c0]) hm Try.func84 s84 rfl fun w0 σ hO Q hQ => ?_
 unfold zf5 at hF
 have hL := Hp.le.refl τ
 show wpn _ _ a84.body _ _ _
 unfold a84
 dsimp only
 refine za hO [] [(0, .slice A0 p0.length c0)] znH fun j => ?_
 refine za hO [] [(0, .slice A0 p0.length c0), (3, znX 0)] znI fun j => ?_
 refine zf (za hO [] [(0, .slice A0 p0.length c0), (3, znX 0), (9, .slice A0 p0.length c0), (10, znX (p0.length : Int)), (11, znX 0)] znL fun j => ?_)
 refine zX (zb0 (fun (n : Nat) e' σ' => ∃ (x84 : Int) (x86 : Int) (τ' : Hp), agr [(0, .slice A0 p0.length c0), (3, znX x84), (9, .slice A0 p0.length c0), (10, znX (p0.length : Int)), (11, znX x86)] e' ∧ Obs τ' σ' [] ∧ Hp.le τ τ' ∧ RdT (Ty.slice Ty.u8) τ' (.slice A0 p0.length c0) p0 ∧ RdT (Ty.slice Ty.u8) τ' (.slice A0 p0.length c0) p0 ∧ zfe p0 n x84 x86 = some rr) big ⟨0, 0, _, znW znK, hO, hL, r0, r0, hF⟩ ?_)
 clear hF hO hL
 rintro n166 e σ ⟨x84, x86, _, hA, hO, hL, r83, r85, hF⟩
 rw [← zG _ _ hA]
 cases n166 with
 | zero => exact nomatch (show none = some rr from hF)
 | succ n166 =>
  replace hF : ze4 (zfe p0 n166) p0 x84 x86 = some rr := hF
  unfold ze4 at hF
  refine za hO [] [(0, .slice A0 p0.length c0), (3, znX x84), (9, .slice A0 p0.length c0), (10, znX (p0.length : Int)), (11, znX x86), (12, .bool (decide (x86 < (p0.length : Int))))] znM fun j => ?_
  rcases zi hF with ⟨hb167, hF⟩ | ⟨hb167, hF⟩
  ·refine zm (congrArg Value.bool hb167) ?_
   refine zv (zX ?_)
   obtain ⟨y168, g169, hF⟩ := bind_some hF
   refine zct (T := (Ty.slice Ty.u8)) r85 hO.base rfl rfl g169 (by decide) fun a170 _ k171 m172 => ?_
   obtain ⟨v173, rfl, r174⟩ := k171
   obtain ⟨A175, c176, rfl, -⟩ := r174.form
   refine zO rfl (m172.le hO.base).fst ?_
   refine za hO [] [(0, .slice A0 p0.length c0), (3, znX x84), (5, .slice A175 y168.length c176), (9, .slice A0 p0.length c0), (10, znX (p0.length : Int)), (11, znX x86)] znM fun j => ?_
   refine za hO [] [(0, .slice A0 p0.length c0), (3, znX (IntKind.i64.wrap (x84 + (y168.length : Int)))), (9, .slice A0 p0.length c0), (10, znX (p0.length : Int)), (11, znX x86)] znL fun j => ?_
   refine za hO [] [(0, .slice A0 p0.length c0), (3, znX (IntKind.i64.wrap (x84 + (y168.length : Int)))), (9, .slice A0 p0.length c0), (10, znX (p0.length : Int)), (11, znX x86), (20, .bool (decide ((IntKind.i64.wrap (x84 + (y168.length : Int))) < 0)))] znM fun j => ?_
   refine z0 ?_
   rcases zi hF with ⟨hb177, hF⟩ | ⟨hb177, hF⟩
   ·refine zm (congrArg Value.bool hb177) ?_
    refine zc hO 1 [] [(0, .slice A0 p0.length c0), (3, znX (IntKind.i64.wrap (x84 + (y168.length : Int)))), (9, .slice A0 p0.length c0), (10, znX (p0.length : Int)), (11, znX x86), (21, .iface 9 (.string (⟨#[108, 101, 110, 32, 111, 117, 116, 32, 111, 102, 32, 114, 97, 110, 103, 101]⟩ : ByteArray)))] znM fun j => ?_
    exact nomatch (show none = some _ from hF)
   ·refine zj (congrArg Value.bool hb177) ?_
    refine zv (zk (zV (zs (zT (za hO [] [(0, .slice A0 p0.length c0), (3, znX (IntKind.i64.wrap (x84 + (y168.length : Int)))), (9, .slice A0 p0.length c0), (10, znX (p0.length : Int)), (11, znX (IntKind.i64.wrap (x86 + 1)))] znL fun j => ?_)))))
    refine zk (zs ?_)
    exact ⟨n166, Nat.lt_succ_self _, (IntKind.i64.wrap (x84 + (y168.length : Int))), (IntKind.i64.wrap (x86 + 1)), _, znW znK, hO, hL, r83, r85, hF⟩
  ·refine zj (congrArg Value.bool hb167) ?_
   refine zbV (zbZ (zb2 (zs (zc hO 1 [] [(0, .slice A0 p0.length c0), (23, znX x84)] znI fun j => ?_))))
   obtain ⟨c178, h179, hF⟩ := bind_some hF
   refine zt hO (zm2 (RdT.nil Ty.u8 _) h179) rfl fun _ σ _ _ hO h180 h181 => ?_
   have hL := hL.trans h180
   have r83 := r83.le h180
   obtain ⟨v182, o185, rfl, rfl, w186⟩ := h181
   obtain ⟨A183, c184, rfl, -⟩ := w186.form
   have hO : Obs _ _ [_] := hO
   refine za hO [] [(0, .slice A0 p0.length c0), (6, .slice A183 c178.length c184)] znI fun j => ?_
   refine zf (za hO [] [(6, .slice A183 c178.length c184), (25, .slice A0 p0.length c0), (26, znX (p0.length : Int)), (27, znX 0)] znK fun j => ?_)
   refine zX (zb0 (fun (n : Nat) e' σ' => ∃ (A208 : Option Addr) (c209 : Nat) (o210 : Ob) (x211 : List UInt8) (x214 : Int) (τ' : Hp), agr [(6, .slice A208 x211.length c209), (25, .slice A0 p0.length c0), (26, znX (p0.length : Int)), (27, znX x214)] e' ∧ Obs τ' σ' [o210] ∧ Hp.le τ τ' ∧ zd Ty.u8 5 τ' (.slice A208 x211.length c209) x211 o210 ∧ RdT (Ty.slice Ty.u8) τ' (.slice A0 p0.length c0) p0 ∧ ze1 p0 n x211 x214 = some rr) big ⟨A183, c184, o185, c178, 0, _, znW znJ, hO, hL, w186, r83, hF⟩ ?_)
   clear hF hO hL
   rintro n230 e σ ⟨A208, c209, o210, x211, x214, _, hA, hO, hL, w212, r213, hF⟩
   rw [← zG _ _ hA]
   cases n230 with
   | zero => exact nomatch (show none = some rr from hF)
   | succ n230 =>
    replace hF : zfn (ze1 p0 n230) p0 x211 x214 = some rr := hF
    unfold zfn at hF
    refine za hO [] [(6, .slice A208 x211.length c209), (25, .slice A0 p0.length c0), (26, znX (p0.length : Int)), (27, znX x214), (28, .bool (decide (x214 < (p0.length : Int))))] znL fun j => ?_
    rcases zi hF with ⟨hb231, hF⟩ | ⟨hb231, hF⟩
    ·refine zm (congrArg Value.bool hb231) ?_
     refine zv (zX ?_)
     obtain ⟨y232, g233, hF⟩ := bind_some hF
     refine zct (T := (Ty.slice Ty.u8)) r213 hO.base rfl rfl g233 (by decide) fun a234 _ k235 m236 => ?_
     obtain ⟨v237, rfl, r238⟩ := k235
     obtain ⟨A239, c240, rfl, -⟩ := r238.form
     refine zO rfl (m236.le hO.base).fst ?_
     refine za hO [] [(6, .slice A208 x211.length c209), (8, .slice A239 y232.length c240), (25, .slice A0 p0.length c0), (26, znX (p0.length : Int)), (27, znX x214)] znL fun j => ?_
     refine zT (zc hO 2 [] [(25, .slice A0 p0.length c0), (26, znX (p0.length : Int)), (27, znX x214), (31, .slice A208 x211.length c209), (32, .slice A239 y232.length c240)] znL fun j => ?_)
     obtain ⟨_, hr245, hF⟩ := bind_some hF
     refine zhC (T := Ty.u8) hO w212 (i := 0) rfl rfl rfl r238 hr245 (by decide) fun _ σ o243 w244 hO => ?_
     obtain ⟨A241, c242, rfl, -⟩ := w244.form
     have hO : Obs _ _ [_] := hO
     refine za hO [] [(6, .slice A241 (x211 ++ y232).length c242), (25, .slice A0 p0.length c0), (26, znX (p0.length : Int)), (27, znX x214)] znK fun j => ?_
     refine zk (zV (zs (zT (za hO [] [(6, .slice A241 (x211 ++ y232).length c242), (25, .slice A0 p0.length c0), (26, znX (p0.length : Int)), (27, znX (IntKind.i64.wrap (x214 + 1)))] znK fun j => ?_))))
     refine zk (zs ?_)
     exact ⟨n230, Nat.lt_succ_self _, A241, c242, o243, (x211 ++ y232), (IntKind.i64.wrap (x214 + 1)), _, znW znJ, hO, hL, w244, r213, hF⟩
    ·refine zj (congrArg Value.bool hb231) ?_
     refine zbV (zbZ (zb2 (zs (za hO [] [(2, .slice A208 x211.length c209)] znH fun j => ?_))))
     refine zo ?_
     injection hF with hF
     subst hF
     exact hQ _ _ _ _ _ rfl hO hL ⟨_, _, rfl, rfl, w212⟩
theorem zmB {τ : Hp} {v0 : Value} {p0 : (List UInt8)} {p1 : Int} (r0 : RdT Ty.u8 τ v0 p0) {rr : (List UInt8) × Int} (hF : zfu p0 p1 = some rr) :
  Ctr Try.prog 64 #[v0, .int .i64 p1] τ [] (fun v τ' vs' => ∃ (v0 : Value) (o0 : Ob), v = .tuple #[v0, .int .i64 rr.2] ∧ vs' = [o0] ∧ zd Ty.u8 5 τ' v0 rr.1 o0) := by
 obtain ⟨A0, c0, rfl, -⟩ := r0.form
 refine zu (args := [.slice A0 p0.length c0, .int .i64 p1]) hm Try.func64 s64 rfl fun w0 σ hO Q hQ => ?_
 unfold zfu at hF
 have hL := Hp.le.refl τ
 show wpn _ _ a64.body _ _ _
 unfold a64
 dsimp only
 refine za hO [] [(0, .slice A0 p0.length c0), (1, znX p1)] znI fun j => ?_
 refine zf (za hO [] [(0, .slice A0 p0.length c0), (1, znX p1), (13, .bool ((decide (p1 < 0)) || (decide (p1 ≥ 16777216))))] (And.intro (And.intro rfl rfl) (fun _ => znW znI)) fun j => ?_)
 rcases zi hF with ⟨hb3, hF⟩ | ⟨hb3, hF⟩
 ·refine zm (congrArg Value.bool hb3) ?_
  refine zf (za hO [] [(4, .slice none 0 0), (5, znX 1)] znI fun j => ?_)
  refine zx ?_
  have hO := hO.no
  have hO : Obs _ _ [_] := hO
  injection hF with hF
  subst hF
  exact hQ _ _ _ _ _ rfl hO hL ⟨_, _, rfl, rfl, (zd.nil _ _ _)⟩
 ·refine zj (congrArg Value.bool hb3) ?_
  refine zv (zlA (T := Ty.u8) (l := ([(0 : UInt8), (0 : UInt8), (0 : UInt8)] : List UInt8)) hO ⟨[.int .u8 0], _, rfl, rfl, ⟨[.int .u8 0], _, rfl, rfl, ⟨[.int .u8 0], _, rfl, rfl, rfl⟩⟩⟩ rfl (by decide) fun b4 σ o5 w6 hO => ?_)
  have hO : Obs _ _ [_] := hO
  refine zg (zf (za hO [] [(0, .slice A0 p0.length c0), (1, znX p1), (6, znY b4), (14, znX 0)] znK fun j => ?_))
  refine zX (zb0 (fun (n : Nat) e' σ' => ∃ (o43 : Ob) (x44 : List UInt8) (x46 : Int) (τ' : Hp), agr [(0, .slice A0 p0.length c0), (1, znX p1), (6, znY b4), (14, znX x46)] e' ∧ Obs τ' σ' [o43] ∧ Hp.le τ τ' ∧ RdT Ty.u8 τ' (.slice A0 p0.length c0) p0 ∧ zd Ty.u8 106 τ' (.slice (some ⟨b4, 0, none⟩) 3 3) x44 o43 ∧ zdD p0 p1 n x44 x46 = some rr) big ⟨o5, ([(0 : UInt8), (0 : UInt8), (0 : UInt8)] : List UInt8), 0, _, znW znJ, hO, hL, r0, w6, hF⟩ ?_)
  clear hF hO hL
  rintro n78 e σ ⟨o43, x44, x46, _, hA, hO, hL, r42, w45, hF⟩
  rw [← zG _ _ hA]
  cases n78 with
  | zero => exact nomatch (show none = some rr from hF)
  | succ n78 =>
   replace hF : zgd (zdD p0 p1 n78) p0 p1 x44 x46 = some rr := hF
   unfold zgd at hF
   refine za hO [] [(0, .slice A0 p0.length c0), (1, znX p1), (6, znY b4), (14, znX x46), (15, .bool (decide (x46 < 3)))] znL fun j => ?_
   rcases zi hF with ⟨hb79, hF⟩ | ⟨hb79, hF⟩
   ·refine zm (congrArg Value.bool hb79) ?_
    refine zv (zX (za hO [] [(0, .slice A0 p0.length c0), (1, znX p1), (6, znY b4), (7, znX x46), (14, znX x46)] znL fun j => ?_))
    refine zT (zc hO 5 [] [(0, .slice A0 p0.length c0), (1, znX p1), (6, znY b4), (14, znX x46), (18, znX (IntKind.i64.wrap (2 - x46))), (19, znX p1), (21, znX (IntKind.i64.wrap (8 * x46)))] znN fun j => ?_)
    obtain ⟨y80, g81, hF⟩ := bind_some hF
    refine zd0 (zjx g81) ?_
    refine zc hO 1 [] [(0, .slice A0 p0.length c0), (1, znX p1), (6, znY b4), (14, znX x46), (18, znX (IntKind.i64.wrap (2 - x46))), (23, .int .u8 (IntKind.u8.wrap y80))] znM fun j => ?_
    obtain ⟨y82, g83, hF⟩ := bind_some hF
    refine zne (T := Ty.u8) hO w45 (i := 0) rfl rfl rfl g83 rfl fun a84 _ k85 m86 i87 => ?_
    have k88 := k85
    obtain rfl : _ = ([.int .u8 y82.toNat] : List Value) := k88
    obtain ⟨z89, hz89, hF⟩ := bind_some hF
    refine zhR (T := Ty.u8) (z' := z89) (off := 0) (vs := [.int .u8 (IntKind.u8.wrap y80)]) hO w45 (i := 0) rfl (by rw [add_zero]; rfl) i87 g83 k85 m86 rfl rfl rfl rfl (by decide) (u8R hz89) fun σ o90 w91 hO => ?_
    have hO : Obs _ _ [_] := hO
    refine zg (zk (zV (zs (zT (za hO [] [(0, .slice A0 p0.length c0), (1, znX p1), (6, znY b4), (14, znX (IntKind.i64.wrap (x46 + 1)))] znK fun j => ?_)))))
    refine zk (zs ?_)
    exact ⟨n78, Nat.lt_succ_self _, o90, (x44.set (Int.toNat (IntKind.i64.wrap (2 - x46))) z89), (IntKind.i64.wrap (x46 + 1)), _, znW znJ, hO, hL, r42, w91, hF⟩
   ·refine zj (congrArg Value.bool hb79) ?_
    refine zbV (zbZ (zb2 (zs (zc hO 1 [] [(6, znY b4), (26, .slice A0 p0.length c0)] znI fun j => ?_))))
    refine zlD (T := Ty.u8) rfl ?_
    have l94 : 3 = x44.length := w45.len
    obtain ⟨_, h93, r92, hO⟩ := w45.share hO (i := 0) rfl
    have hL := hL.trans h93
    have r42 := r42.le h93
    have hO : Obs _ _ [_] := hO
    refine zbv (T := (Ty.slice Ty.u8)) (l := ([p0, x44] : List (List UInt8))) (cs := [.slice A0 p0.length c0, .slice (some ⟨b4, 0, none⟩) 3 3]) hO rfl ⟨[.slice A0 p0.length c0], _, rfl, ⟨_, rfl, r42⟩, ⟨[.slice (some ⟨b4, 0, none⟩) 3 3], _, rfl, ⟨_, rfl, r92⟩, rfl⟩⟩ rfl (by decide) fun _ σ o97 w98 hO => ?_
    obtain ⟨A95, c96, rfl, -⟩ := w98.form
    have hO : Obs _ _ [_, _] := hO
    obtain ⟨_, h100, r99, hO⟩ := w98.share hO (i := 1) rfl
    have hL := hL.trans h100
    have r42 := r42.le h100
    have r92 := r92.le h100
    have hO : Obs _ _ [_, _] := hO
    obtain ⟨c101, h102, hF⟩ := bind_some hF
    refine zt hO (zmJ r99 h102) rfl fun _ σ _ _ hO h103 h104 => ?_
    have hL := hL.trans h103
    have r42 := r42.le h103
    have r92 := r92.le h103
    have r99 := r99.le h103
    obtain ⟨v105, o108, rfl, rfl, w109⟩ := h104
    obtain ⟨A106, c107, rfl, -⟩ := w109.form
    have hO : Obs _ _ [_, _, _] := hO
    refine za hO [] [(4, .slice A106 c101.length c107), (5, znX 0)] znI fun j => ?_
    refine zo ?_
    injection hF with hF
    subst hF
    have hO := hO.sel [2] (by decide)
    exact hQ _ _ _ _ _ rfl hO hL ⟨_, _, rfl, rfl, w109⟩
theorem zmt {τ : Hp} {v0 : Value} {p0 : (List UInt8)} {p1 : Int} (r0 : RdT Ty.u8 τ v0 p0) {rr : Int × Int × Int} (hF : zcW p0 p1 = some rr) :
  Ctr Try.prog 66 #[v0, .int .i64 p1] τ [] (fun v τ' vs' => v = .tuple #[.int .i64 rr.1, .int .i64 rr.2.1, .int .i64 rr.2.2] ∧ vs' = []) := by
 obtain ⟨A0, c0, rfl, -⟩ := r0.form
 refine zu (args := [.slice A0 p0.length c0, .int .i64 p1]) hm Try.func66 s66 rfl fun w0 σ hO Q hQ => ?_
 unfold zcW at hF
 have hL := Hp.le.refl τ
 show wpn _ _ a66.body _ _ _
 unfold a66
 dsimp only
 refine za hO [] [(0, .slice A0 p0.length c0), (1, znX p1), (4, znX 0)] znJ fun j => ?_
 refine zc hO 2 [] [(4, znX 0), (11, .slice A0 p0.length c0), (12, znX p1)] znJ fun j => ?_
 obtain ⟨c3, h4, hF⟩ := bind_some hF
 refine zt hO (zil r0 h4) rfl fun _ σ _ _ hO h5 h6 => ?_
 have hL := hL.trans h5
 have r0 := r0.le h5
 obtain ⟨v7, rfl, rfl, r10⟩ := h6
 obtain ⟨A8, c9, rfl, -⟩ := r10.form
 have hO : Obs _ _ [] := hO
 refine za hO [] [(4, znX 0), (5, znX c3.2.1), (6, znX c3.2.2), (7, .slice A8 c3.1.length c9)] znK fun j => ?_
 refine zf (za hO [] [(4, znX 0), (5, znX c3.2.1), (6, znX c3.2.2), (17, .slice A8 c3.1.length c9), (18, znX (c3.1.length : Int)), (19, znX 0)] znM fun j => ?_)
 refine zX (zb0 (fun (n : Nat) e' σ' => ∃ (x18 : Int) (x20 : Int) (τ' : Hp), agr [(4, znX x18), (5, znX c3.2.1), (6, znX c3.2.2), (17, .slice A8 c3.1.length c9), (18, znX (c3.1.length : Int)), (19, znX x20)] e' ∧ Obs τ' σ' [] ∧ Hp.le τ τ' ∧ RdT Ty.u8 τ' (.slice A8 c3.1.length c9) c3.1 ∧ zdL c3 n x18 x20 = some rr) big ⟨0, 0, _, znW znL, hO, hL, r10, hF⟩ ?_)
 clear hF hO hL
 rintro n27 e σ ⟨x18, x20, _, hA, hO, hL, r19, hF⟩
 rw [← zG _ _ hA]
 cases n27 with
 | zero => exact nomatch (show none = some rr from hF)
 | succ n27 =>
  replace hF : zgm (zdL c3 n27) c3 x18 x20 = some rr := hF
  unfold zgm at hF
  refine za hO [] [(4, znX x18), (5, znX c3.2.1), (6, znX c3.2.2), (17, .slice A8 c3.1.length c9), (18, znX (c3.1.length : Int)), (19, znX x20), (20, .bool (decide (x20 < (c3.1.length : Int))))] znN fun j => ?_
  rcases zi hF with ⟨hb28, hF⟩ | ⟨hb28, hF⟩
  ·refine zm (congrArg Value.bool hb28) ?_
   refine zv (zX ?_)
   obtain ⟨y29, g30, hF⟩ := bind_some hF
   refine zct (T := Ty.u8) r19 hO.base rfl rfl g30 (by decide) fun a31 _ k32 m33 => ?_
   obtain rfl : _ = ([.int .u8 y29.toNat] : List Value) := k32
   refine zO rfl (m33.le hO.base).fst ?_
   refine za hO [] [(4, znX x18), (5, znX c3.2.1), (6, znX c3.2.2), (9, .int .u8 (y29.toNat : Int)), (17, .slice A8 c3.1.length c9), (18, znX (c3.1.length : Int)), (19, znX x20)] znN fun j => ?_
   refine zT (za hO [] [(4, znX (orI .i64 (zbM .i64 x18 8) (IntKind.i64.wrap (y29.toNat : Int)))), (5, znX c3.2.1), (6, znX c3.2.2), (17, .slice A8 c3.1.length c9), (18, znX (c3.1.length : Int)), (19, znX x20)] znM fun j => ?_)
   refine zk (zV (zs (zT (za hO [] [(4, znX (orI .i64 (zbM .i64 x18 8) (IntKind.i64.wrap (y29.toNat : Int)))), (5, znX c3.2.1), (6, znX c3.2.2), (17, .slice A8 c3.1.length c9), (18, znX (c3.1.length : Int)), (19, znX (IntKind.i64.wrap (x20 + 1)))] znM fun j => ?_))))
   refine zk (zs ?_)
   exact ⟨n27, Nat.lt_succ_self _, (orI .i64 (zbM .i64 x18 8) (IntKind.i64.wrap (y29.toNat : Int))), (IntKind.i64.wrap (x20 + 1)), _, znW znL, hO, hL, r19, hF⟩
  ·refine zj (congrArg Value.bool hb28) ?_
   refine zbV (zbZ (zb2 (zs (za hO [] [(4, znX x18), (5, znX c3.2.1), (6, znX c3.2.2)] znJ fun j => ?_))))
   refine zo ?_
   injection hF with hF
   subst hF
   exact hQ _ _ _ _ _ rfl hO hL ⟨rfl, rfl⟩
theorem zkm {τ : Hp} {v0 : Value} {p0 : (List UInt8)} {p1 : Int} {q2 : zb} {bm2 : Nat} (r0 : RdT Ty.u8 τ v0 p0) {rr : Int × Bool × zb} (hF : zeG p0 p1 q2 = some rr) :
  Ctr Try.prog 65 #[v0, .int .i64 p1, .pointer (some ⟨bm2, 0, none⟩)] τ [some (bm2, ⟨[.int .u8 q2.Kind.toNat, .int .u8 q2.Op.toNat, .int .i64 q2.R, .int .i64 q2.S, .int .i64 q2.T, .int .i64 q2.N, .int .i64 q2.M], 25, 7, true⟩)] (fun v τ' vs' => v = .tuple #[.int .i64 rr.1, .bool rr.2.1] ∧ vs' = [some (bm2, ⟨[.int .u8 rr.2.2.Kind.toNat, .int .u8 rr.2.2.Op.toNat, .int .i64 rr.2.2.R, .int .i64 rr.2.2.S, .int .i64 rr.2.2.T, .int .i64 rr.2.2.N, .int .i64 rr.2.2.M], 25, 7, true⟩)]) := by
 obtain ⟨A0, c0, rfl, -⟩ := r0.form
 refine zu (args := [.slice A0 p0.length c0, .int .i64 p1, .pointer (some ⟨bm2, 0, none⟩)]) hm Try.func65 s65 rfl fun w0 σ hO Q hQ => ?_
 unfold zeG at hF
 have hL := Hp.le.refl τ
 show wpn _ _ a65.body _ _ _
 unfold a65
 dsimp only
 refine za hO [] [(0, .slice A0 p0.length c0), (1, znX p1), (2, znY bm2)] znJ fun j => ?_
 refine zc hO 2 [] [(2, znY bm2), (12, .slice A0 p0.length c0), (13, znX p1)] znJ fun j => ?_
 obtain ⟨c4, h5, hF⟩ := bind_some hF
 refine zt hO (zmt r0 h5) rfl fun _ σ _ _ hO h6 h7 => ?_
 have hL := hL.trans h6
 have r0 := r0.le h6
 obtain ⟨rfl, rfl⟩ := h7
 have hO : Obs _ _ [_] := hO
 refine za hO [] [(2, znY bm2), (8, znX c4.1), (9, znX c4.2.1), (10, znX c4.2.2)] znK fun j => ?_
 refine zc hO 4 [] [(2, znY bm2), (9, znX c4.2.1), (10, znX c4.2.2), (19, znX c4.1), (21, .pointer (some ⟨bm2, 5, none⟩))] znL fun j => ?_
 refine zB hO (i := 0) rfl (off := 5) rfl rfl rfl rfl (Nat.le_of_ble_eq_true rfl) rfl fun σ hO => ?_
 have hO : Obs _ _ [_] := hO
 refine zg (za hO [] [(2, znY bm2), (6, znX c4.2.1), (7, .bool (c4.2.2 == 0))] znJ fun j => ?_)
 refine zo ?_
 injection hF with hF
 subst hF
 exact hQ _ _ _ _ _ rfl hO hL ⟨rfl, rfl⟩
theorem ziO {τ : Hp}   {rr : zn} (hF : zgn  = some rr) :
  Ctr Try.prog 31 #[] τ [] (fun v τ' vs' => ∃ (f0_0 : Fn) (a0_0 c0_0 : Array Value) (f0_1 : Fn) (a0_1 c0_1 : Array Value) (f0_2 : Fn) (a0_2 c0_2 : Array Value), v = .agg #[.func f0_0 a0_0 c0_0, .func f0_1 a0_1 c0_1, .func f0_2 a0_2 c0_2] ∧ vs' = [] ∧ zbe τ' rr (.func f0_0 a0_0 c0_0) (.func f0_1 a0_1 c0_1) (.func f0_2 a0_2 c0_2)) := by
 refine zu (args := []) hm Try.func31 s31 rfl fun w0 σ hO Q hQ => ?_
 unfold zgn at hF
 have hL := Hp.le.refl τ
 show wpn _ _ a31.body _ _ _
 unfold a31
 dsimp only
 refine z5 hO fun b1 σ hO => ?_
 have hO : Obs _ _ [_] := hO
 refine zg (zc hO 1 [] [(0, znY b1), (1, .agg #[(.func (.func 62) #[] #[]), (.func (.func 63) #[] #[]), (.func (.func 65) #[] #[])])] znI fun j => ?_)
 refine zB hO (i := 0) rfl (off := 0) rfl rfl rfl rfl (Nat.le_of_ble_eq_true rfl) rfl fun σ hO => ?_
 have hO : Obs _ _ [_] := hO
 refine zg (zo ?_)
 injection hF with hF
 subst hF
 have hV0 := hO.val (i := 0) rfl (off := 0) (agg := true) (n := 3) rfl
 have hO := hO.sel [] (by decide)
 exact hQ _ _ _ _ _ (z8 rfl (hV0) rfl) hO hL ⟨_, _, _, _, _, _, _, _, _, rfl, rfl, ⟨rfl, rfl, rfl⟩⟩
theorem zl5 {τ : Hp} {q0 : zb} {bm0 : Nat}  {rr : Bool × zb} (hF : zfO q0 = some rr) :
  Ctr Try.prog 67 #[.pointer (some ⟨bm0, 0, none⟩)] τ [some (bm0, ⟨[.int .u8 q0.Kind.toNat, .int .u8 q0.Op.toNat, .int .i64 q0.R, .int .i64 q0.S, .int .i64 q0.T, .int .i64 q0.N, .int .i64 q0.M], 25, 7, true⟩)] (fun v τ' vs' => v = .bool rr.1 ∧ vs' = [some (bm0, ⟨[.int .u8 rr.2.Kind.toNat, .int .u8 rr.2.Op.toNat, .int .i64 rr.2.R, .int .i64 rr.2.S, .int .i64 rr.2.T, .int .i64 rr.2.N, .int .i64 rr.2.M], 25, 7, true⟩)]) := by
 refine zu (args := [.pointer (some ⟨bm0, 0, none⟩)]) hm Try.func67 s67 rfl fun w0 σ hO Q hQ => ?_
 unfold zfO at hF
 have hL := Hp.le.refl τ
 show wpn _ _ a67.body _ _ _
 unfold a67
 dsimp only
 refine za hO [] [(0, znY bm0)] znH fun j => ?_
 refine za hO [0, 0] [(0, znY bm0), (2, .bool ((decide (q0.N ≥ 2)) && (decide (q0.N ≤ 4))))] (And.intro (And.intro rfl rfl) (And.intro (And.intro rfl rfl) (And.intro (And.intro rfl rfl) (fun _ => znW znH)))) fun j => ?_
 refine zo ?_
 injection hF with hF
 subst hF
 exact hQ _ _ _ _ _ rfl hO hL ⟨rfl, rfl⟩
theorem zng {τ : Hp} {q0 : zb} {bm0 : Nat}  {rr : Int × zb} (hF : zgA q0 = some rr) :
  Ctr Try.prog 68 #[.pointer (some ⟨bm0, 0, none⟩)] τ [some (bm0, ⟨[.int .u8 q0.Kind.toNat, .int .u8 q0.Op.toNat, .int .i64 q0.R, .int .i64 q0.S, .int .i64 q0.T, .int .i64 q0.N, .int .i64 q0.M], 25, 7, true⟩)] (fun v τ' vs' => v = .int .u8 rr.1 ∧ vs' = [some (bm0, ⟨[.int .u8 rr.2.Kind.toNat, .int .u8 rr.2.Op.toNat, .int .i64 rr.2.R, .int .i64 rr.2.S, .int .i64 rr.2.T, .int .i64 rr.2.N, .int .i64 rr.2.M], 25, 7, true⟩)]) := by
 refine zu (args := [.pointer (some ⟨bm0, 0, none⟩)]) hm Try.func68 s68 rfl fun w0 σ hO Q hQ => ?_
 unfold zgA at hF
 have hL := Hp.le.refl τ
 show wpn _ _ a68.body _ _ _
 unfold a68
 dsimp only
 refine za hO [] [(0, znY bm0)] znH fun j => ?_
 refine za hO [0] [(0, znY bm0), (2, .int .u8 (IntKind.u8.wrap q0.N))] (And.intro (And.intro rfl rfl) znI) fun j => ?_
 refine zo ?_
 injection hF with hF
 subst hF
 exact hQ _ _ _ _ _ rfl hO hL ⟨rfl, rfl⟩
theorem znk {τ : Hp} {q0 : zb} {bm0 : Nat} {p1 : Int}  {rr : zb} (hF : zeK q0 p1 = some rr) :
  Ctr Try.prog 69 #[.pointer (some ⟨bm0, 0, none⟩), .int .u8 p1] τ [some (bm0, ⟨[.int .u8 q0.Kind.toNat, .int .u8 q0.Op.toNat, .int .i64 q0.R, .int .i64 q0.S, .int .i64 q0.T, .int .i64 q0.N, .int .i64 q0.M], 25, 7, true⟩)] (fun v τ' vs' => v = .tuple #[] ∧ vs' = [some (bm0, ⟨[.int .u8 rr.Kind.toNat, .int .u8 rr.Op.toNat, .int .i64 rr.R, .int .i64 rr.S, .int .i64 rr.T, .int .i64 rr.N, .int .i64 rr.M], 25, 7, true⟩)]) := by
 refine zej (args := [.pointer (some ⟨bm0, 0, none⟩), .int .u8 p1]) hm Try.func69 s69 rfl fun w0 σ hO Q hQ => ?_
 unfold zeK at hF
 have hL := Hp.le.refl τ
 show wpn _ _ a69.body _ _ _
 unfold a69
 dsimp only
 refine zT (zc hO 5 [] [(0, znY bm0), (6, znX (IntKind.i64.wrap p1)), (8, .pointer (some ⟨bm0, 5, none⟩))] znJ fun j => ?_)
 refine zB hO (i := 0) rfl (off := 5) rfl rfl rfl rfl (Nat.le_of_ble_eq_true rfl) rfl fun σ hO => ?_
 have hO : Obs _ _ [_] := hO
 refine zg (zk ?_)
 injection hF with hF
 subst hF
 exact (hQ _ _ _ _ _ rfl hO hL ⟨rfl, rfl⟩).2
theorem zkJ {τ : Hp}   {rr : zn} (hF : zhZ  = some rr) :
  Ctr Try.prog 37 #[.func (.func 67) #[] #[], .func (.func 68) #[] #[], .func (.func 69) #[] #[]] τ [] (fun v τ' vs' => ∃ (f0_0 : Fn) (a0_0 c0_0 : Array Value) (f0_1 : Fn) (a0_1 c0_1 : Array Value) (f0_2 : Fn) (a0_2 c0_2 : Array Value), v = .agg #[.func f0_0 a0_0 c0_0, .func f0_1 a0_1 c0_1, .func f0_2 a0_2 c0_2] ∧ vs' = [] ∧ zbe τ' rr (.func f0_0 a0_0 c0_0) (.func f0_1 a0_1 c0_1) (.func f0_2 a0_2 c0_2)) := by
 refine zu (args := [.func (.func 67) #[] #[], .func (.func 68) #[] #[], .func (.func 69) #[] #[]]) hm Try.func37 s37 rfl fun w0 σ hO Q hQ => ?_
 unfold zhZ at hF
 have hL := Hp.le.refl τ
 show wpn _ _ a37.body _ _ _
 unfold a37
 dsimp only
 refine zbd (n := 1) hO rfl rfl fun b4 σ hO => ?_
 have hO : Obs _ _ [_] := hO
 refine zbd (n := 1) hO rfl rfl fun b5 σ hO => ?_
 have hO : Obs _ _ [_, _] := hO
 refine z5 hO fun b6 σ hO => ?_
 have hO : Obs _ _ [_, _, _] := hO
 refine zg (zc hO 4 [] [(6, znY b6), (10, .agg #[(.func (.func 67) #[] #[]), (.func (.func 77) #[] #[(.pointer (some ⟨b4, 0, none⟩))]), (.func (.func 78) #[] #[(.pointer (some ⟨b5, 0, none⟩))])])] znI fun j => ?_)
 refine zB hO (i := 2) rfl (off := 0) rfl rfl rfl rfl (Nat.le_of_ble_eq_true rfl) rfl fun σ hO => ?_
 have hO : Obs _ _ [_, _, _] := hO
 refine zg (zo ?_)
 obtain ⟨_, h8, m7, hO⟩ := hO.shareV (i := 0) rfl
 have hL := hL.trans h8
 have hO : Obs _ _ [_, _, _] := hO
 obtain ⟨_, h10, m9, hO⟩ := hO.shareV (i := 1) rfl
 have hL := hL.trans h10
 have m7 := m7.le h10
 have hO : Obs _ _ [_, _, _] := hO
 injection hF with hF
 subst hF
 have hV0 := hO.val (i := 2) rfl (off := 0) (agg := true) (n := 3) rfl
 have hO := hO.sel [] (by decide)
 exact hQ _ _ _ _ _ (z8 rfl (hV0) rfl) hO hL ⟨_, _, _, _, _, _, _, _, _, rfl, rfl, ⟨(⟨b4, 0, none⟩ : Addr), (⟨b5, 0, none⟩ : Addr), rfl, rfl, rfl, m7, m9⟩⟩
theorem znC {τ : Hp}   {rr : zn} (hF : zg5  = some rr) :
  Ctr Try.prog 32 #[] τ [] (fun v τ' vs' => ∃ (f0_0 : Fn) (a0_0 c0_0 : Array Value) (f0_1 : Fn) (a0_1 c0_1 : Array Value) (f0_2 : Fn) (a0_2 c0_2 : Array Value), v = .agg #[.func f0_0 a0_0 c0_0, .func f0_1 a0_1 c0_1, .func f0_2 a0_2 c0_2] ∧ vs' = [] ∧ zbe τ' rr (.func f0_0 a0_0 c0_0) (.func f0_1 a0_1 c0_1) (.func f0_2 a0_2 c0_2)) := by
 refine zu (args := []) hm Try.func32 s32 rfl fun w0 σ hO Q hQ => ?_
 unfold zg5 at hF
 have hL := Hp.le.refl τ
 show wpn _ _ a32.body _ _ _
 unfold a32
 dsimp only
 refine z5 hO fun b1 σ hO => ?_
 have hO : Obs _ _ [_] := hO
 refine zg ?_
 obtain ⟨c2, h3, hF⟩ := bind_some hF
 refine zt hO (zkJ h3) rfl fun _ σ _ _ hO h4 h5 => ?_
 have hL := hL.trans h4
 obtain ⟨f7, a8, c9, f10, a11, c12, f13, a14, c15, rfl, rfl, r6⟩ := h5
 have hO : Obs _ _ [_] := hO
 refine zB hO (i := 0) rfl (off := 0) rfl rfl rfl rfl (Nat.le_of_ble_eq_true rfl) rfl fun σ hO => ?_
 have hO : Obs _ _ [_] := hO
 refine zg (zo ?_)
 injection hF with hF
 subst hF
 have hV0 := hO.val (i := 0) rfl (off := 0) (agg := true) (n := 3) rfl
 have hO := hO.sel [] (by decide)
 exact hQ _ _ _ _ _ (z8 rfl (hV0) rfl) hO hL ⟨_, _, _, _, _, _, _, _, _, rfl, rfl, r6⟩
theorem zmA {τ : Hp}   {rr : zn} (hF : zhg  = some rr) :
  Ctr Try.prog 25 #[.func (.func 23) #[] #[]] τ [] (fun v τ' vs' => ∃ (f0_0 : Fn) (a0_0 c0_0 : Array Value) (f0_1 : Fn) (a0_1 c0_1 : Array Value) (f0_2 : Fn) (a0_2 c0_2 : Array Value), v = .agg #[.func f0_0 a0_0 c0_0, .func f0_1 a0_1 c0_1, .func f0_2 a0_2 c0_2] ∧ vs' = [] ∧ zbe τ' rr (.func f0_0 a0_0 c0_0) (.func f0_1 a0_1 c0_1) (.func f0_2 a0_2 c0_2)) := by
 refine zu (args := [.func (.func 23) #[] #[]]) hm Try.func25 s25 rfl fun w0 σ hO Q hQ => ?_
 unfold zhg at hF
 have hL := Hp.le.refl τ
 show wpn _ _ a25.body _ _ _
 unfold a25
 dsimp only
 refine z5 hO fun b2 σ hO => ?_
 have hO : Obs _ _ [_] := hO
 refine zg (zc hO 2 [] [(2, znY b2), (4, .agg #[(.func (.func 23) #[] #[]), (.func (.func 42) #[] #[]), (.func (.func 44) #[] #[])])] znI fun j => ?_)
 refine zB hO (i := 0) rfl (off := 0) rfl rfl rfl rfl (Nat.le_of_ble_eq_true rfl) rfl fun σ hO => ?_
 have hO : Obs _ _ [_] := hO
 refine zg (zo ?_)
 injection hF with hF
 subst hF
 have hV0 := hO.val (i := 0) rfl (off := 0) (agg := true) (n := 3) rfl
 have hO := hO.sel [] (by decide)
 exact hQ _ _ _ _ _ (z8 rfl (hV0) rfl) hO hL ⟨_, _, _, _, _, _, _, _, _, rfl, rfl, ⟨rfl, rfl, rfl⟩⟩
theorem zhy {τ : Hp}   {rr : zn} (hF : zfa  = some rr) :
  Ctr Try.prog 25 #[.func (.func 29) #[] #[]] τ [] (fun v τ' vs' => ∃ (f0_0 : Fn) (a0_0 c0_0 : Array Value) (f0_1 : Fn) (a0_1 c0_1 : Array Value) (f0_2 : Fn) (a0_2 c0_2 : Array Value), v = .agg #[.func f0_0 a0_0 c0_0, .func f0_1 a0_1 c0_1, .func f0_2 a0_2 c0_2] ∧ vs' = [] ∧ zbe τ' rr (.func f0_0 a0_0 c0_0) (.func f0_1 a0_1 c0_1) (.func f0_2 a0_2 c0_2)) := by
 refine zu (args := [.func (.func 29) #[] #[]]) hm Try.func25 s25 rfl fun w0 σ hO Q hQ => ?_
 unfold zfa at hF
 have hL := Hp.le.refl τ
 show wpn _ _ a25.body _ _ _
 unfold a25
 dsimp only
 refine z5 hO fun b2 σ hO => ?_
 have hO : Obs _ _ [_] := hO
 refine zg (zc hO 2 [] [(2, znY b2), (4, .agg #[(.func (.func 29) #[] #[]), (.func (.func 42) #[] #[]), (.func (.func 44) #[] #[])])] znI fun j => ?_)
 refine zB hO (i := 0) rfl (off := 0) rfl rfl rfl rfl (Nat.le_of_ble_eq_true rfl) rfl fun σ hO => ?_
 have hO : Obs _ _ [_] := hO
 refine zg (zo ?_)
 injection hF with hF
 subst hF
 have hV0 := hO.val (i := 0) rfl (off := 0) (agg := true) (n := 3) rfl
 have hO := hO.sel [] (by decide)
 exact hQ _ _ _ _ _ (z8 rfl (hV0) rfl) hO hL ⟨_, _, _, _, _, _, _, _, _, rfl, rfl, ⟨rfl, rfl, rfl⟩⟩
theorem zi9 {τ : Hp} {p0 : Int}  {rr : (List zn) × Bool} (hF : zdM p0 = some rr) :
  Ctr Try.prog 18 #[.int .u8 p0] τ [] (fun v τ' vs' => ∃ (v0 : Value) (o0 : Ob), v = .tuple #[v0, .bool rr.2] ∧ vs' = [o0] ∧ zd zbA 56 τ' v0 rr.1 o0) := by
 refine zu (args := [.int .u8 p0]) hm Try.func18 s18 rfl fun w0 σ hO Q hQ => ?_
 unfold zdM at hF
 have hL := Hp.le.refl τ
 show wpn _ _ a18.body _ _ _
 unfold a18
 dsimp only
 refine za hO [] [(0, .int .u8 p0)] znH fun j => ?_
 refine za hO [] [(0, .int .u8 p0), (4, .func (.func 23) #[] #[])] znI fun j => ?_
 refine zf (za hO [] [(4, .func (.func 23) #[] #[]), (5, .int .u8 p0)] znI fun j => ?_)
 refine zX (zf (za hO [] [(4, .func (.func 23) #[] #[]), (5, .int .u8 p0), (6, .bool (p0 == 1))] znJ fun j => ?_))
 refine zbx (fun e' σ' => ∃ (x3 : Bool) (τ' : Hp), agr [(4, .func (.func 23) #[] #[]), (5, .int .u8 p0), (6, .bool x3)] e' ∧ Obs τ' σ' [] ∧ Hp.le τ τ' ∧ zei p0 x3 = some rr) ?_ ?_
 ·refine z0 ?_
  rcases zi hF with ⟨hb354, hF⟩ | ⟨hb354, hF⟩
  ·refine zm (congrArg Value.bool hb354) ?_
   refine zv (zk (zs ?_))
   exact ⟨(p0 == 1), _, znW znI, hO, hL, hF⟩
  ·refine zj (congrArg Value.bool hb354) ?_
   refine za hO [] [(4, .func (.func 23) #[] #[]), (5, .int .u8 p0), (6, .bool (p0 == 13))] znJ fun j => ?_
   refine zk (zs ?_)
   exact ⟨(p0 == 13), _, znW znI, hO, hL, hF⟩
 ·rintro e σ ⟨x3, _, hA, hO, hL, hF⟩
  rw [← zG _ _ hA]
  unfold zei at hF
  refine z0 ?_
  rcases zi hF with ⟨hb4, hF⟩ | ⟨hb4, hF⟩
  ·refine zm (congrArg Value.bool hb4) ?_
   refine zf (za hO [] [(2, .slice none 0 0), (3, .bool true)] znI fun j => ?_)
   refine zx (zP (zM ?_))
   have hO := hO.no
   have hO : Obs _ _ [_] := hO
   injection hF with hF
   subst hF
   exact hQ _ _ _ _ _ rfl hO hL ⟨_, _, rfl, rfl, (zd.nil _ _ _)⟩
  ·refine zj (congrArg Value.bool hb4) ?_
   refine zf (za hO [] [(4, .func (.func 23) #[] #[]), (5, .int .u8 p0), (9, .bool (p0 == 2))] znJ fun j => ?_)
   rcases zi hF with ⟨hb5, hF⟩ | ⟨hb5, hF⟩
   ·refine zm (congrArg Value.bool hb5) ?_
    refine zf ?_
    obtain ⟨c6, h7, hF⟩ := bind_some hF
    refine zt hO (zhG h7) rfl fun _ σ _ _ hO h8 h9 => ?_
    have hL := hL.trans h8
    obtain ⟨f11, a12, c13, f14, a15, c16, f17, a18, c19, rfl, rfl, r10⟩ := h9
    have hO : Obs _ _ [] := hO
    refine zc hO 1 [] [(11, .agg #[(.func f11 a12 c13), (.func f14 a15 c16), (.func f17 a18 c19)]), (12, .func (.func 23) #[] #[])] znI fun j => ?_
    obtain ⟨c20, h21, hF⟩ := bind_some hF
    refine zt hO (zmA h21) rfl fun _ σ _ _ hO h22 h23 => ?_
    have hL := hL.trans h22
    have r10 := r10.le h22
    obtain ⟨f25, a26, c27, f28, a29, c30, f31, a32, c33, rfl, rfl, r24⟩ := h23
    have hO : Obs _ _ [] := hO
    refine zbv (T := zbA) (l := ([c6, c20] : List zn)) (cs := [.func f11 a12 c13, .func f14 a15 c16, .func f17 a18 c19, .func f25 a26 c27, .func f28 a29 c30, .func f31 a32 c33]) hO rfl ⟨[.func f11 a12 c13, .func f14 a15 c16, .func f17 a18 c19], _, rfl, ⟨_, _, _, _, _, _, _, _, _, rfl, r10⟩, ⟨[.func f25 a26 c27, .func f28 a29 c30, .func f31 a32 c33], _, rfl, ⟨_, _, _, _, _, _, _, _, _, rfl, r24⟩, rfl⟩⟩ rfl (by decide) fun _ σ o36 w37 hO => ?_
    obtain ⟨A34, c35, rfl, -⟩ := w37.form
    have hO : Obs _ _ [_] := hO
    refine za hO [] [(2, .slice A34 ([c6, c20] : List zn).length c35), (3, .bool true)] znI fun j => ?_
    refine zx (zP (zM ?_))
    injection hF with hF
    subst hF
    exact hQ _ _ _ _ _ rfl hO hL ⟨_, _, rfl, rfl, w37⟩
   ·refine zj (congrArg Value.bool hb5) ?_
    refine zf (za hO [] [(5, .int .u8 p0), (15, .bool (p0 == 3))] znI fun j => ?_)
    rcases zi hF with ⟨hb38, hF⟩ | ⟨hb38, hF⟩
    ·refine zm (congrArg Value.bool hb38) ?_
     refine zf ?_
     obtain ⟨c39, h40, hF⟩ := bind_some hF
     refine zt hO (zeb h40) rfl fun _ σ _ _ hO h41 h42 => ?_
     have hL := hL.trans h41
     obtain ⟨f44, a45, c46, f47, a48, c49, f50, a51, c52, rfl, rfl, r43⟩ := h42
     have hO : Obs _ _ [] := hO
     refine zbv (T := zbA) (l := ([c39] : List zn)) (cs := [.func f44 a45 c46, .func f47 a48 c49, .func f50 a51 c52]) hO rfl ⟨[.func f44 a45 c46, .func f47 a48 c49, .func f50 a51 c52], _, rfl, ⟨_, _, _, _, _, _, _, _, _, rfl, r43⟩, rfl⟩ rfl (by decide) fun _ σ o55 w56 hO => ?_
     obtain ⟨A53, c54, rfl, -⟩ := w56.form
     have hO : Obs _ _ [_] := hO
     refine za hO [] [(2, .slice A53 ([c39] : List zn).length c54), (3, .bool true)] znI fun j => ?_
     refine zx (zP (zM ?_))
     injection hF with hF
     subst hF
     exact hQ _ _ _ _ _ rfl hO hL ⟨_, _, rfl, rfl, w56⟩
    ·refine zj (congrArg Value.bool hb38) ?_
     refine zf (za hO [] [(5, .int .u8 p0), (19, .bool (p0 == 4))] znI fun j => ?_)
     rcases zi hF with ⟨hb57, hF⟩ | ⟨hb57, hF⟩
     ·refine zm (congrArg Value.bool hb57) ?_
      refine zf ?_
      obtain ⟨c58, h59, hF⟩ := bind_some hF
      refine zt hO (zii h59) rfl fun _ σ _ _ hO h60 h61 => ?_
      have hL := hL.trans h60
      obtain ⟨f63, a64, c65, f66, a67, c68, f69, a70, c71, rfl, rfl, r62⟩ := h61
      have hO : Obs _ _ [] := hO
      obtain ⟨c72, h73, hF⟩ := bind_some hF
      refine zt hO (zeb h73) rfl fun _ σ _ _ hO h74 h75 => ?_
      have hL := hL.trans h74
      have r62 := r62.le h74
      obtain ⟨f77, a78, c79, f80, a81, c82, f83, a84, c85, rfl, rfl, r76⟩ := h75
      have hO : Obs _ _ [] := hO
      obtain ⟨c86, h87, hF⟩ := bind_some hF
      refine zt hO (zj2 h87) rfl fun _ σ _ _ hO h88 h89 => ?_
      have hL := hL.trans h88
      have r62 := r62.le h88
      have r76 := r76.le h88
      obtain ⟨f91, a92, c93, f94, a95, c96, f97, a98, c99, rfl, rfl, r90⟩ := h89
      have hO : Obs _ _ [] := hO
      refine zbv (T := zbA) (l := ([c58, c72, c86] : List zn)) (cs := [.func f63 a64 c65, .func f66 a67 c68, .func f69 a70 c71, .func f77 a78 c79, .func f80 a81 c82, .func f83 a84 c85, .func f91 a92 c93, .func f94 a95 c96, .func f97 a98 c99]) hO rfl ⟨[.func f63 a64 c65, .func f66 a67 c68, .func f69 a70 c71], _, rfl, ⟨_, _, _, _, _, _, _, _, _, rfl, r62⟩, ⟨[.func f77 a78 c79, .func f80 a81 c82, .func f83 a84 c85], _, rfl, ⟨_, _, _, _, _, _, _, _, _, rfl, r76⟩, ⟨[.func f91 a92 c93, .func f94 a95 c96, .func f97 a98 c99], _, rfl, ⟨_, _, _, _, _, _, _, _, _, rfl, r90⟩, rfl⟩⟩⟩ rfl (by decide) fun _ σ o102 w103 hO => ?_
      obtain ⟨A100, c101, rfl, -⟩ := w103.form
      have hO : Obs _ _ [_] := hO
      refine za hO [] [(2, .slice A100 ([c58, c72, c86] : List zn).length c101), (3, .bool true)] znI fun j => ?_
      refine zx (zP (zM ?_))
      injection hF with hF
      subst hF
      exact hQ _ _ _ _ _ rfl hO hL ⟨_, _, rfl, rfl, w103⟩
     ·refine zj (congrArg Value.bool hb57) ?_
      refine zf (za hO [] [(5, .int .u8 p0), (25, .bool (p0 == 5))] znI fun j => ?_)
      rcases zi hF with ⟨hb104, hF⟩ | ⟨hb104, hF⟩
      ·refine zm (congrArg Value.bool hb104) ?_
       refine zf ?_
       obtain ⟨c105, h106, hF⟩ := bind_some hF
       refine zt hO (zii h106) rfl fun _ σ _ _ hO h107 h108 => ?_
       have hL := hL.trans h107
       obtain ⟨f110, a111, c112, f113, a114, c115, f116, a117, c118, rfl, rfl, r109⟩ := h108
       have hO : Obs _ _ [] := hO
       obtain ⟨c119, h120, hF⟩ := bind_some hF
       refine zt hO (zeb h120) rfl fun _ σ _ _ hO h121 h122 => ?_
       have hL := hL.trans h121
       have r109 := r109.le h121
       obtain ⟨f124, a125, c126, f127, a128, c129, f130, a131, c132, rfl, rfl, r123⟩ := h122
       have hO : Obs _ _ [] := hO
       refine zbv (T := zbA) (l := ([c105, c119] : List zn)) (cs := [.func f110 a111 c112, .func f113 a114 c115, .func f116 a117 c118, .func f124 a125 c126, .func f127 a128 c129, .func f130 a131 c132]) hO rfl ⟨[.func f110 a111 c112, .func f113 a114 c115, .func f116 a117 c118], _, rfl, ⟨_, _, _, _, _, _, _, _, _, rfl, r109⟩, ⟨[.func f124 a125 c126, .func f127 a128 c129, .func f130 a131 c132], _, rfl, ⟨_, _, _, _, _, _, _, _, _, rfl, r123⟩, rfl⟩⟩ rfl (by decide) fun _ σ o135 w136 hO => ?_
       obtain ⟨A133, c134, rfl, -⟩ := w136.form
       have hO : Obs _ _ [_] := hO
       refine za hO [] [(2, .slice A133 ([c105, c119] : List zn).length c134), (3, .bool true)] znI fun j => ?_
       refine zx (zP (zM ?_))
       injection hF with hF
       subst hF
       exact hQ _ _ _ _ _ rfl hO hL ⟨_, _, rfl, rfl, w136⟩
      ·refine zj (congrArg Value.bool hb104) ?_
       refine zf (zf (za hO [] [(5, .int .u8 p0), (30, .bool (p0 == 6))] znI fun j => ?_))
       refine zbx (fun e' σ' => ∃ (x138 : Bool) (τ' : Hp), agr [(5, .int .u8 p0), (30, .bool x138)] e' ∧ Obs τ' σ' [] ∧ Hp.le τ τ' ∧ zeY p0 x138 = some rr) ?_ ?_
       ·refine z0 ?_
        rcases zi hF with ⟨hb353, hF⟩ | ⟨hb353, hF⟩
        ·refine zm (congrArg Value.bool hb353) ?_
         refine zv (zk (zs ?_))
         exact ⟨(p0 == 6), _, znW znH, hO, hL, hF⟩
        ·refine zj (congrArg Value.bool hb353) ?_
         refine za hO [] [(5, .int .u8 p0), (30, .bool (p0 == 7))] znI fun j => ?_
         refine zk (zs ?_)
         exact ⟨(p0 == 7), _, znW znH, hO, hL, hF⟩
       ·rintro e σ ⟨x138, _, hA, hO, hL, hF⟩
        rw [← zG _ _ hA]
        unfold zeY at hF
        rcases zi hF with ⟨hb139, hF⟩ | ⟨hb139, hF⟩
        ·refine zm (congrArg Value.bool hb139) ?_
         refine zf ?_
         obtain ⟨c140, h141, hF⟩ := bind_some hF
         refine zt hO (zeb h141) rfl fun _ σ _ _ hO h142 h143 => ?_
         have hL := hL.trans h142
         obtain ⟨f145, a146, c147, f148, a149, c150, f151, a152, c153, rfl, rfl, r144⟩ := h143
         have hO : Obs _ _ [] := hO
         obtain ⟨c154, h155, hF⟩ := bind_some hF
         refine zt hO (zhy h155) rfl fun _ σ _ _ hO h156 h157 => ?_
         have hL := hL.trans h156
         have r144 := r144.le h156
         obtain ⟨f159, a160, c161, f162, a163, c164, f165, a166, c167, rfl, rfl, r158⟩ := h157
         have hO : Obs _ _ [] := hO
         refine zbv (T := zbA) (l := ([c140, c154] : List zn)) (cs := [.func f145 a146 c147, .func f148 a149 c150, .func f151 a152 c153, .func f159 a160 c161, .func f162 a163 c164, .func f165 a166 c167]) hO rfl ⟨[.func f145 a146 c147, .func f148 a149 c150, .func f151 a152 c153], _, rfl, ⟨_, _, _, _, _, _, _, _, _, rfl, r144⟩, ⟨[.func f159 a160 c161, .func f162 a163 c164, .func f165 a166 c167], _, rfl, ⟨_, _, _, _, _, _, _, _, _, rfl, r158⟩, rfl⟩⟩ rfl (by decide) fun _ σ o170 w171 hO => ?_
         obtain ⟨A168, c169, rfl, -⟩ := w171.form
         have hO : Obs _ _ [_] := hO
         refine za hO [] [(2, .slice A168 ([c140, c154] : List zn).length c169), (3, .bool true)] znI fun j => ?_
         refine zx (zP (zM ?_))
         injection hF with hF
         subst hF
         exact hQ _ _ _ _ _ rfl hO hL ⟨_, _, rfl, rfl, w171⟩
        ·refine zj (congrArg Value.bool hb139) ?_
         refine zf (zf (za hO [] [(5, .int .u8 p0), (36, .bool (p0 == 8))] znI fun j => ?_))
         refine zbx (fun e' σ' => ∃ (x173 : Bool) (τ' : Hp), agr [(5, .int .u8 p0), (36, .bool x173)] e' ∧ Obs τ' σ' [] ∧ Hp.le τ τ' ∧ zeF p0 x173 = some rr) ?_ ?_
         ·refine z0 ?_
          rcases zi hF with ⟨hb352, hF⟩ | ⟨hb352, hF⟩
          ·refine zm (congrArg Value.bool hb352) ?_
           refine zv (zk (zs ?_))
           exact ⟨(p0 == 8), _, znW znH, hO, hL, hF⟩
          ·refine zj (congrArg Value.bool hb352) ?_
           refine za hO [] [(5, .int .u8 p0), (36, .bool (p0 == 9))] znI fun j => ?_
           refine zk (zs ?_)
           exact ⟨(p0 == 9), _, znW znH, hO, hL, hF⟩
         ·rintro e σ ⟨x173, _, hA, hO, hL, hF⟩
          rw [← zG _ _ hA]
          unfold zeF at hF
          rcases zi hF with ⟨hb174, hF⟩ | ⟨hb174, hF⟩
          ·refine zm (congrArg Value.bool hb174) ?_
           refine zf ?_
           obtain ⟨c175, h176, hF⟩ := bind_some hF
           refine zt hO (zeb h176) rfl fun _ σ _ _ hO h177 h178 => ?_
           have hL := hL.trans h177
           obtain ⟨f180, a181, c182, f183, a184, c185, f186, a187, c188, rfl, rfl, r179⟩ := h178
           have hO : Obs _ _ [] := hO
           obtain ⟨c189, h190, hF⟩ := bind_some hF
           refine zt hO (zj2 h190) rfl fun _ σ _ _ hO h191 h192 => ?_
           have hL := hL.trans h191
           have r179 := r179.le h191
           obtain ⟨f194, a195, c196, f197, a198, c199, f200, a201, c202, rfl, rfl, r193⟩ := h192
           have hO : Obs _ _ [] := hO
           obtain ⟨c203, h204, hF⟩ := bind_some hF
           refine zt hO (zhy h204) rfl fun _ σ _ _ hO h205 h206 => ?_
           have hL := hL.trans h205
           have r179 := r179.le h205
           have r193 := r193.le h205
           obtain ⟨f208, a209, c210, f211, a212, c213, f214, a215, c216, rfl, rfl, r207⟩ := h206
           have hO : Obs _ _ [] := hO
           obtain ⟨c217, h218, hF⟩ := bind_some hF
           refine zt hO (zkT h218) rfl fun _ σ _ _ hO h219 h220 => ?_
           have hL := hL.trans h219
           have r179 := r179.le h219
           have r193 := r193.le h219
           have r207 := r207.le h219
           obtain ⟨f222, a223, c224, f225, a226, c227, f228, a229, c230, rfl, rfl, r221⟩ := h220
           have hO : Obs _ _ [] := hO
           refine zbv (T := zbA) (l := ([c175, c189, c203, c217] : List zn)) (cs := [.func f180 a181 c182, .func f183 a184 c185, .func f186 a187 c188, .func f194 a195 c196, .func f197 a198 c199, .func f200 a201 c202, .func f208 a209 c210, .func f211 a212 c213, .func f214 a215 c216, .func f222 a223 c224, .func f225 a226 c227, .func f228 a229 c230]) hO rfl ⟨[.func f180 a181 c182, .func f183 a184 c185, .func f186 a187 c188], _, rfl, ⟨_, _, _, _, _, _, _, _, _, rfl, r179⟩, ⟨[.func f194 a195 c196, .func f197 a198 c199, .func f200 a201 c202], _, rfl, ⟨_, _, _, _, _, _, _, _, _, rfl, r193⟩, ⟨[.func f208 a209 c210, .func f211 a212 c213, .func f214 a215 c216], _, rfl, ⟨_, _, _, _, _, _, _, _, _, rfl, r207⟩, ⟨[.func f222 a223 c224, .func f225 a226 c227, .func f228 a229 c230], _, rfl, ⟨_, _, _, _, _, _, _, _, _, rfl, r221⟩, rfl⟩⟩⟩⟩ rfl (by decide) fun _ σ o233 w234 hO => ?_
           obtain ⟨A231, c232, rfl, -⟩ := w234.form
           have hO : Obs _ _ [_] := hO
           refine za hO [] [(2, .slice A231 ([c175, c189, c203, c217] : List zn).length c232), (3, .bool true)] znI fun j => ?_
           refine zx (zP (zM ?_))
           injection hF with hF
           subst hF
           exact hQ _ _ _ _ _ rfl hO hL ⟨_, _, rfl, rfl, w234⟩
          ·refine zj (congrArg Value.bool hb174) ?_
           refine zf (zf (za hO [] [(5, .int .u8 p0), (44, .bool (p0 == 10))] znI fun j => ?_))
           refine zbx (fun e' σ' => ∃ (x236 : Bool) (τ' : Hp), agr [(5, .int .u8 p0), (44, .bool x236)] e' ∧ Obs τ' σ' [] ∧ Hp.le τ τ' ∧ ze2 p0 x236 = some rr) ?_ ?_
           ·refine z0 ?_
            rcases zi hF with ⟨hb351, hF⟩ | ⟨hb351, hF⟩
            ·refine zm (congrArg Value.bool hb351) ?_
             refine zv (zk (zs ?_))
             exact ⟨(p0 == 10), _, znW znH, hO, hL, hF⟩
            ·refine zj (congrArg Value.bool hb351) ?_
             refine za hO [] [(5, .int .u8 p0), (44, .bool (p0 == 12))] znI fun j => ?_
             refine zk (zs ?_)
             exact ⟨(p0 == 12), _, znW znH, hO, hL, hF⟩
           ·rintro e σ ⟨x236, _, hA, hO, hL, hF⟩
            rw [← zG _ _ hA]
            unfold ze2 at hF
            rcases zi hF with ⟨hb237, hF⟩ | ⟨hb237, hF⟩
            ·refine zm (congrArg Value.bool hb237) ?_
             refine zf ?_
             obtain ⟨c238, h239, hF⟩ := bind_some hF
             refine zt hO (ziO h239) rfl fun _ σ _ _ hO h240 h241 => ?_
             have hL := hL.trans h240
             obtain ⟨f243, a244, c245, f246, a247, c248, f249, a250, c251, rfl, rfl, r242⟩ := h241
             have hO : Obs _ _ [] := hO
             refine zbv (T := zbA) (l := ([c238] : List zn)) (cs := [.func f243 a244 c245, .func f246 a247 c248, .func f249 a250 c251]) hO rfl ⟨[.func f243 a244 c245, .func f246 a247 c248, .func f249 a250 c251], _, rfl, ⟨_, _, _, _, _, _, _, _, _, rfl, r242⟩, rfl⟩ rfl (by decide) fun _ σ o254 w255 hO => ?_
             obtain ⟨A252, c253, rfl, -⟩ := w255.form
             have hO : Obs _ _ [_] := hO
             refine za hO [] [(2, .slice A252 ([c238] : List zn).length c253), (3, .bool true)] znI fun j => ?_
             refine zx (zP (zM ?_))
             injection hF with hF
             subst hF
             exact hQ _ _ _ _ _ rfl hO hL ⟨_, _, rfl, rfl, w255⟩
            ·refine zj (congrArg Value.bool hb237) ?_
             refine zf (za hO [] [(5, .int .u8 p0), (49, .bool (p0 == 11))] znI fun j => ?_)
             rcases zi hF with ⟨hb256, hF⟩ | ⟨hb256, hF⟩
             ·refine zm (congrArg Value.bool hb256) ?_
              refine zf ?_
              obtain ⟨c257, h258, hF⟩ := bind_some hF
              refine zt hO (zhG h258) rfl fun _ σ _ _ hO h259 h260 => ?_
              have hL := hL.trans h259
              obtain ⟨f262, a263, c264, f265, a266, c267, f268, a269, c270, rfl, rfl, r261⟩ := h260
              have hO : Obs _ _ [] := hO
              obtain ⟨c271, h272, hF⟩ := bind_some hF
              refine zt hO (ziO h272) rfl fun _ σ _ _ hO h273 h274 => ?_
              have hL := hL.trans h273
              have r261 := r261.le h273
              obtain ⟨f276, a277, c278, f279, a280, c281, f282, a283, c284, rfl, rfl, r275⟩ := h274
              have hO : Obs _ _ [] := hO
              refine zbv (T := zbA) (l := ([c257, c271] : List zn)) (cs := [.func f262 a263 c264, .func f265 a266 c267, .func f268 a269 c270, .func f276 a277 c278, .func f279 a280 c281, .func f282 a283 c284]) hO rfl ⟨[.func f262 a263 c264, .func f265 a266 c267, .func f268 a269 c270], _, rfl, ⟨_, _, _, _, _, _, _, _, _, rfl, r261⟩, ⟨[.func f276 a277 c278, .func f279 a280 c281, .func f282 a283 c284], _, rfl, ⟨_, _, _, _, _, _, _, _, _, rfl, r275⟩, rfl⟩⟩ rfl (by decide) fun _ σ o287 w288 hO => ?_
              obtain ⟨A285, c286, rfl, -⟩ := w288.form
              have hO : Obs _ _ [_] := hO
              refine za hO [] [(2, .slice A285 ([c257, c271] : List zn).length c286), (3, .bool true)] znI fun j => ?_
              refine zx (zP (zM ?_))
              injection hF with hF
              subst hF
              exact hQ _ _ _ _ _ rfl hO hL ⟨_, _, rfl, rfl, w288⟩
             ·refine zj (congrArg Value.bool hb256) ?_
              refine zf (za hO [] [(5, .int .u8 p0), (54, .bool (p0 == 14))] znI fun j => ?_)
              rcases zi hF with ⟨hb289, hF⟩ | ⟨hb289, hF⟩
              ·refine zm (congrArg Value.bool hb289) ?_
               refine zf ?_
               obtain ⟨c290, h291, hF⟩ := bind_some hF
               refine zt hO (zhy h291) rfl fun _ σ _ _ hO h292 h293 => ?_
               have hL := hL.trans h292
               obtain ⟨f295, a296, c297, f298, a299, c300, f301, a302, c303, rfl, rfl, r294⟩ := h293
               have hO : Obs _ _ [] := hO
               refine zbv (T := zbA) (l := ([c290] : List zn)) (cs := [.func f295 a296 c297, .func f298 a299 c300, .func f301 a302 c303]) hO rfl ⟨[.func f295 a296 c297, .func f298 a299 c300, .func f301 a302 c303], _, rfl, ⟨_, _, _, _, _, _, _, _, _, rfl, r294⟩, rfl⟩ rfl (by decide) fun _ σ o306 w307 hO => ?_
               obtain ⟨A304, c305, rfl, -⟩ := w307.form
               have hO : Obs _ _ [_] := hO
               refine za hO [] [(2, .slice A304 ([c290] : List zn).length c305), (3, .bool true)] znI fun j => ?_
               refine zx (zP (zM ?_))
               injection hF with hF
               subst hF
               exact hQ _ _ _ _ _ rfl hO hL ⟨_, _, rfl, rfl, w307⟩
              ·refine zj (congrArg Value.bool hb289) ?_
               refine zf (zf (za hO [] [(5, .int .u8 p0), (58, .bool (p0 == 15))] znI fun j => ?_))
               refine zbx (fun e' σ' => ∃ (x310 : Bool) (τ' : Hp), agr [(5, .int .u8 p0), (58, .bool x310)] e' ∧ Obs τ' σ' [] ∧ Hp.le τ τ' ∧ zdH p0 x310 = some rr) ?_ ?_
               ·refine z0 ?_
                rcases zi hF with ⟨hb349, hF⟩ | ⟨hb349, hF⟩
                ·refine zm (congrArg Value.bool hb349) ?_
                 refine zv (zk (zs ?_))
                 exact ⟨(p0 == 15), _, znW znH, hO, hL, hF⟩
                ·refine zj (congrArg Value.bool hb349) ?_
                 refine zf (za hO [] [(5, .int .u8 p0), (58, .bool (p0 == 16))] znI fun j => ?_)
                 rcases zi hF with ⟨hb350, hF⟩ | ⟨hb350, hF⟩
                 ·refine zm (congrArg Value.bool hb350) ?_
                  refine zv (zk (zs ?_))
                  exact ⟨(p0 == 16), _, znW znH, hO, hL, hF⟩
                 ·refine zj (congrArg Value.bool hb350) ?_
                  refine za hO [] [(5, .int .u8 p0), (58, .bool (p0 == 17))] znI fun j => ?_
                  refine zk (zs ?_)
                  exact ⟨(p0 == 17), _, znW znH, hO, hL, hF⟩
               ·rintro e σ ⟨x310, _, hA, hO, hL, hF⟩
                rw [← zG _ _ hA]
                unfold zdH at hF
                rcases zi hF with ⟨hb311, hF⟩ | ⟨hb311, hF⟩
                ·refine zm (congrArg Value.bool hb311) ?_
                 refine zf ?_
                 obtain ⟨c312, h313, hF⟩ := bind_some hF
                 refine zt hO (zhG h313) rfl fun _ σ _ _ hO h314 h315 => ?_
                 have hL := hL.trans h314
                 obtain ⟨f317, a318, c319, f320, a321, c322, f323, a324, c325, rfl, rfl, r316⟩ := h315
                 have hO : Obs _ _ [] := hO
                 refine zbv (T := zbA) (l := ([c312] : List zn)) (cs := [.func f317 a318 c319, .func f320 a321 c322, .func f323 a324 c325]) hO rfl ⟨[.func f317 a318 c319, .func f320 a321 c322, .func f323 a324 c325], _, rfl, ⟨_, _, _, _, _, _, _, _, _, rfl, r316⟩, rfl⟩ rfl (by decide) fun _ σ o328 w329 hO => ?_
                 obtain ⟨A326, c327, rfl, -⟩ := w329.form
                 have hO : Obs _ _ [_] := hO
                 refine za hO [] [(2, .slice A326 ([c312] : List zn).length c327), (3, .bool true)] znI fun j => ?_
                 refine zx (zP (zM ?_))
                 injection hF with hF
                 subst hF
                 exact hQ _ _ _ _ _ rfl hO hL ⟨_, _, rfl, rfl, w329⟩
                ·refine zj (congrArg Value.bool hb311) ?_
                 refine zf (za hO [] [(64, .bool (p0 == 18))] znH fun j => ?_)
                 rcases zi hF with ⟨hb330, hF⟩ | ⟨hb330, hF⟩
                 ·refine zm (congrArg Value.bool hb330) ?_
                  refine zf ?_
                  obtain ⟨c331, h332, hF⟩ := bind_some hF
                  refine zt hO (znC h332) rfl fun _ σ _ _ hO h333 h334 => ?_
                  have hL := hL.trans h333
                  obtain ⟨f336, a337, c338, f339, a340, c341, f342, a343, c344, rfl, rfl, r335⟩ := h334
                  have hO : Obs _ _ [] := hO
                  refine zbv (T := zbA) (l := ([c331] : List zn)) (cs := [.func f336 a337 c338, .func f339 a340 c341, .func f342 a343 c344]) hO rfl ⟨[.func f336 a337 c338, .func f339 a340 c341, .func f342 a343 c344], _, rfl, ⟨_, _, _, _, _, _, _, _, _, rfl, r335⟩, rfl⟩ rfl (by decide) fun _ σ o347 w348 hO => ?_
                  obtain ⟨A345, c346, rfl, -⟩ := w348.form
                  have hO : Obs _ _ [_] := hO
                  refine za hO [] [(2, .slice A345 ([c331] : List zn).length c346), (3, .bool true)] znI fun j => ?_
                  refine zx (zP (zM ?_))
                  injection hF with hF
                  subst hF
                  exact hQ _ _ _ _ _ rfl hO hL ⟨_, _, rfl, rfl, w348⟩
                 ·refine zj (congrArg Value.bool hb330) ?_
                  refine zv (zk (zV (zs (za hO [] [(2, .slice none 0 0), (3, .bool false)] znI fun j => ?_))))
                  refine zo ?_
                  have hO := hO.no
                  have hO : Obs _ _ [_] := hO
                  injection hF with hF
                  subst hF
                  exact hQ _ _ _ _ _ rfl hO hL ⟨_, _, rfl, rfl, (zd.nil _ _ _)⟩
theorem zme {τ : Hp} {q0 : zb} {bm0 : Nat} {qf0 : Int} {af0 : Addr} {qf1 : Int} {af1 : Addr} (mf0 : At τ af0 [.int .u8 qf0]) (mf1 : At τ af1 [.int .u8 qf1]) {rr : Bool × zb} (hF : zgw q0 qf0 qf1 = some rr) :
  Ctr Try.prog 51 #[.pointer (some ⟨bm0, 0, none⟩), .pointer (some af0), .pointer (some af1)] τ [some (bm0, ⟨[.int .u8 q0.Kind.toNat, .int .u8 q0.Op.toNat, .int .i64 q0.R, .int .i64 q0.S, .int .i64 q0.T, .int .i64 q0.N, .int .i64 q0.M], 25, 7, true⟩)] (fun v τ' vs' => v = .bool rr.1 ∧ vs' = [some (bm0, ⟨[.int .u8 rr.2.Kind.toNat, .int .u8 rr.2.Op.toNat, .int .i64 rr.2.R, .int .i64 rr.2.S, .int .i64 rr.2.T, .int .i64 rr.2.N, .int .i64 rr.2.M], 25, 7, true⟩)]) := by
 refine zu (args := [.pointer (some ⟨bm0, 0, none⟩), .pointer (some af0), .pointer (some af1)]) hm Try.func51 s51 rfl fun w0 σ hO Q hQ => ?_
 unfold zgw at hF
 have hL := Hp.le.refl τ
 show wpn _ _ a51.body _ _ _
 unfold a51
 dsimp only
 refine za hO [] [(0, znY bm0), (1, .pointer (some af0)), (2, .pointer (some af1))] znJ fun j => ?_
 refine zbB (zc hO 4 [0] [(0, znY bm0), (1, .pointer (some af0)), (2, .pointer (some af1)), (8, .int .u8 (q0.Op.toNat : Int))] (And.intro (And.intro rfl rfl) znK) fun j => ?_)
 refine zO rfl (mf0.le hO.base).fst ?_
 refine zc hO 2 [] [(0, znY bm0), (2, .pointer (some af1)), (11, .bool (decide ((q0.Op.toNat : Int) ≥ qf0)))] znJ fun j => ?_
 obtain ⟨c2, h3, hF⟩ := bind_some hF
 refine ziI 2 [(18, .bool c2), (0, znY bm0)] (fun Q hQ => ?_) fun j => ?_
 ·have hF := h3
  rcases zi hF with ⟨hb4, hF⟩ | ⟨hb4, hF⟩
  ·refine zb9 (congrArg (fun x => isB (.bool x) true) hb4) ?_
   refine zc hO 4 [0] [(0, znY bm0), (2, .pointer (some af1)), (11, .bool (decide ((q0.Op.toNat : Int) ≥ qf0))), (15, .int .u8 (q0.Op.toNat : Int))] (And.intro (And.intro rfl rfl) znK) fun j => ?_
   refine zO rfl (mf1.le hO.base).fst ?_
   refine zc hO 1 [] [(0, znY bm0), (11, .bool (decide ((q0.Op.toNat : Int) ≥ qf0))), (17, .bool (decide ((q0.Op.toNat : Int) ≤ qf1)))] znJ fun j => ?_
   refine z9 (congrArg Value.bool hb4) ?_
   refine zg ?_
   injection hF with hF
   subst hF
   refine zk ?_
   exact hQ _ znI
  ·refine zb7 (congrArg (fun x => isB (.bool x) true) hb4) ?_
   refine z9 (congrArg Value.bool hb4) ?_
   refine zg ?_
   injection hF with hF
   subst hF
   refine zk ?_
   exact hQ _ znI
 ·refine za hO [] [(0, znY bm0), (4, .bool c2)] znI fun j => ?_
  refine zo ?_
  injection hF with hF
  subst hF
  exact hQ _ _ _ _ _ rfl hO hL ⟨rfl, rfl⟩
theorem zmn {τ : Hp} {x : zn} {u0 u1 u2 : Value} (hx : zbe τ x u0 u1 u2) {q0 : zb} {bm0 : Nat}  {rr : Bool × zb} (hF : zfC x q0 = some rr) :
  FnC Try.prog u0 #[.pointer (some ⟨bm0, 0, none⟩)] τ [some (bm0, ⟨[.int .u8 q0.Kind.toNat, .int .u8 q0.Op.toNat, .int .i64 q0.R, .int .i64 q0.S, .int .i64 q0.T, .int .i64 q0.N, .int .i64 q0.M], 25, 7, true⟩)] (fun v τ' vs' => v = .bool rr.1 ∧ vs' = [some (bm0, ⟨[.int .u8 rr.2.Kind.toNat, .int .u8 rr.2.Op.toNat, .int .i64 rr.2.R, .int .i64 rr.2.S, .int .i64 rr.2.T, .int .i64 rr.2.N, .int .i64 rr.2.M], 25, 7, true⟩)]) := by
 cases x with
 | c_one_1 => obtain ⟨a1_0, a2_0, rfl, rfl, rfl, m0, m1⟩ := hx; exact ⟨38, #[], #[], _, rfl, by kernel_rfl, rfl, zkk  hF⟩
 | c_both_1 => obtain ⟨a1_0, a2_0, rfl, rfl, rfl, m0, m1⟩ := hx; exact ⟨46, #[], #[], _, rfl, by kernel_rfl, rfl, zk6  hF⟩
 | c_op_1 x0 x1 => obtain ⟨a0_0, a0_1, a1_0, a2_0, rfl, rfl, rfl, m0, m1, m2, m3⟩ := hx; exact ⟨51, #[], #[.pointer (some a0_0), .pointer (some a0_1)], _, rfl, by kernel_rfl, rfl, zme m0 m1 hF⟩
 | c_third_1 => obtain ⟨a1_0, a2_0, rfl, rfl, rfl, m0, m1⟩ := hx; exact ⟨54, #[], #[], _, rfl, by kernel_rfl, rfl, znq  hF⟩
 | c_bound_1 => obtain ⟨rfl, rfl, rfl⟩ := hx; exact ⟨57, #[], #[], _, rfl, by kernel_rfl, rfl, zlK  hF⟩
 | c_to_1 => obtain ⟨rfl, rfl, rfl⟩ := hx; exact ⟨62, #[], #[], _, rfl, by kernel_rfl, rfl, zll  hF⟩
 | c_how_1 => obtain ⟨a1_0, a2_0, rfl, rfl, rfl, m0, m1⟩ := hx; exact ⟨67, #[], #[], _, rfl, by kernel_rfl, rfl, zl5  hF⟩
 | c_parts_1 => obtain ⟨rfl, rfl, rfl⟩ := hx; exact ⟨23, #[], #[], _, rfl, by kernel_rfl, rfl, zmk  hF⟩
 | c_within => obtain ⟨rfl, rfl, rfl⟩ := hx; exact ⟨29, #[], #[], _, rfl, by kernel_rfl, rfl, zla  hF⟩
theorem zmx {τ : Hp} {v0 : Value} {p0 : (List UInt8)} {o0 : Ob} {q1 : zb} {bm1 : Nat} {af0 : Addr} (wp0 : zd Ty.u8 5 τ v0 p0 o0) (mf0 : At τ af0 [.func (.func 40) #[] #[]]) {rr : (List UInt8) × zb} (hF : zfR p0 q1 = some rr) :
  Ctr Try.prog 77 #[v0, .pointer (some ⟨bm1, 0, none⟩), .pointer (some af0)] τ [o0, some (bm1, ⟨[.int .u8 q1.Kind.toNat, .int .u8 q1.Op.toNat, .int .i64 q1.R, .int .i64 q1.S, .int .i64 q1.T, .int .i64 q1.N, .int .i64 q1.M], 25, 7, true⟩)] (fun v τ' vs' => ∃ (v0 : Value) (o0 : Ob), v = v0 ∧ vs' = [o0, some (bm1, ⟨[.int .u8 rr.2.Kind.toNat, .int .u8 rr.2.Op.toNat, .int .i64 rr.2.R, .int .i64 rr.2.S, .int .i64 rr.2.T, .int .i64 rr.2.N, .int .i64 rr.2.M], 25, 7, true⟩)] ∧ zd Ty.u8 5 τ' v0 rr.1 o0) := by
 obtain ⟨A0, c0, rfl, -⟩ := wp0.form
 refine zu (args := [.slice A0 p0.length c0, .pointer (some ⟨bm1, 0, none⟩), .pointer (some af0)]) hm Try.func77 s77 rfl fun w0 σ hO Q hQ => ?_
 unfold zfR at hF
 have hL := Hp.le.refl τ
 show wpn _ _ a77.body _ _ _
 unfold a77
 dsimp only
 refine za hO [] [(0, .slice A0 p0.length c0), (1, znY bm1), (2, .pointer (some af0))] znJ fun j => ?_
 refine zc hO 1 [] [(1, znY bm1), (2, .pointer (some af0)), (6, .slice A0 p0.length c0)] znJ fun j => ?_
 refine zO rfl (mf0.le hO.base).fst ?_
 refine zc hO 1 [] [(1, znY bm1), (6, .slice A0 p0.length c0), (7, .func (.func 40) #[] #[]), (8, znY bm1)] znK fun j => ?_
 obtain ⟨c3, h4, hF⟩ := bind_some hF
 refine zch (hs := [_]) (vs := [_]) rfl (by kernel_rfl) hO (zls (q0 := (⟨q1.Kind, q1.Op, q1.R, q1.S, q1.T, q1.N, q1.M⟩ : zb)) h4) rfl fun _ σ _ _ hO h5 h6 => ?_
 have hL := hL.trans h5
 have wp0 := wp0.le h5
 obtain ⟨rfl, rfl⟩ := h6
 have hO : Obs _ _ [_, _] := hO
 obtain ⟨z7, hz7, hF⟩ := bind_some hF
 obtain ⟨_, hr12, hF⟩ := bind_some hF
 refine zcv (T := Ty.u8) (y := z7) hO wp0 (i := 0) rfl rfl (fun _ => rfl) rfl (u8R hz7) rfl hr12 (by decide) fun u _ σ o10 w11 hO => ?_
 obtain ⟨A8, c9, rfl, -⟩ := w11.form
 have hO : Obs _ _ [_, _] := hO
 refine za hO [] [(1, znY bm1), (5, .slice A8 (p0 ++ [z7]).length c9)] znI fun j => ?_
 refine zo ?_
 injection hF with hF
 subst hF
 exact hQ _ _ _ _ _ rfl hO hL ⟨_, _, rfl, rfl, w11⟩
end Go.Proofs.Ytgkllgoelpfdkaa
