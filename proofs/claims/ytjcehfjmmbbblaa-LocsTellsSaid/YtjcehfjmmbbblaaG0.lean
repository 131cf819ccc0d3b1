import Derived.Test.YtjcehfjmmbbblaaF
import Derived.Test.YtjcehfjmmbbblaaM00
import Derived.Test.YtjcehfjmmbbblaaM01
namespace Go.Proofs.Ytjcehfjmmbbblaa
open Go.Ab Go.RowKit
set_option linter.unusedVariables false
set_option linter.unusedSimpArgs false
set_option maxRecDepth 10000
set_option maxHeartbeats 1000000
theorem zi7 {τ : Hp} {B : Value} {p0 : (List za)} (z : RdT zk τ B p0) {rr : Bool} (hF : zef p0 = some rr) :
  Ctr Try.prog 8 #[B] τ [] (fun v τ' vs' => v = .bool rr ∧ vs' = []) := by
 obtain ⟨h, q, rfl, -⟩ := z.form
 refine zN (args := [.slice h p0.length q]) hm Try.func8 s8 rfl fun w0 σ hO Q hQ => ?_
 unfold zef at hF
 have hL := Hp.le.refl τ
 show wpn _ _ a8.body _ _ _
 unfold a8
 dsimp only
 refine zc hO [] [] [0] zkc fun j => ?_
 refine zc hO [] [(3, zks 0)] [0] zkd fun j => ?_
 refine zh (zc hO [] [(4, zks 0)] [0, 3] zke fun j => ?_)
 refine zx (z2 (fun (n : Nat) e' σ' => ∃ (c b : Int) (τ' : Hp), agr [(0, zkz h p0 q), (3, zks c), (4, zks b)] e' ∧ Obs τ' σ' [] ∧ Hp.le τ τ' ∧ zdi p0 n c b = some rr) big ⟨0, 0, _, zkr zkd, hO, hL, hF⟩ ?_)
 clear hF hO hL
 rintro g e σ ⟨c, b, _, hA, hO, hL, hF⟩
 rw [← zD _ _ hA]
 cases g with
 | zero => exact nomatch (show none = some rr from hF)
 | succ g =>
 replace hF : zdK (zdi p0 g) p0 c b = some rr := hF
 unfold zdK at hF
 refine zh (zc hO [] [(12, .bool ((decide (b < (p0.length : Int))) && (decide (b ≤ 5000))))] [0, 3, 4] (And.intro (And.intro rfl rfl) (fun _ => zkr zke)) fun j => ?_)
 refine zp hF rfl (fun hF => ?_) fun hF => ?_
 ·refine zo (zx (zb hO 3 [] [(15, zks c), (16, zkz h p0 q), (17, zks b)] [0, 4] zkg fun j => ?_))
  obtain ⟨w, D, hF⟩ := zky hF
  refine zF (T := zk) (z.le hL) hO.base rfl rfl D (by decide) fun a48 _ E G => ?_
  obtain ⟨W, rfl, I⟩ := E
  obtain ⟨X, Y, rfl, -⟩ := I.form
  refine zb hO 1 [] [(19, .pointer (some (a48.add 2)))] [0, 4, 15] zkf fun j => ?_
  refine zs rfl ((G.le hO.base).one 2 rfl) ?_
  refine zc hO [] [(3, zks (IntKind.i64.wrap (c + (zW (w.At.length : Int) 1000))))] [0, 4] zke fun j => ?_
  refine zb hO 2 [] [(24, zkz h p0 q), (25, zks b)] [0, 3, 4] zkg fun j => ?_
  obtain ⟨J, R, hF⟩ := zky hF
  refine zF (T := zk) (z.le hL) hO.base rfl rfl R (by decide) fun a57 _ S U => ?_
  obtain ⟨Z, rfl, V⟩ := S
  obtain ⟨b0, b1, rfl, -⟩ := V.form
  refine zb hO 1 [] [(27, .pointer (some (a57.add 2)))] [0, 3, 4] zkf fun j => ?_
  refine zs rfl ((U.le hO.base).one 2 rfl) ?_
  refine zc hO [] [(30, .bool (decide ((J.At.length : Int) > 1000)))] [0, 3, 4] zkf fun j => ?_
  refine zba (zp hF rfl (fun hF => ?_) fun hF => ?_)
  ·refine zh (zi hO [] [(2, .bool true)] zkc fun j => ?_)
   refine zB (zE (zr (zr (zE (zr ?_)))))
   cases hF
   exact hQ _ _ _ _ _ rfl hO hL ⟨rfl, rfl⟩
  refine zo (zf (zM (zg (zy (zc hO [] [(4, zks (IntKind.i64.wrap (b + 1)))] [0, 3] zke fun j => ?_)))))
  refine zf (zg ?_)
  exact ⟨g, Nat.lt_succ_self _, (IntKind.i64.wrap (c + (zW (w.At.length : Int) 1000))), (IntKind.i64.wrap (b + 1)), _, zkr zkd, hO, hL, hF⟩
 refine z0 (z3 (z1 (zg (zi hO [] [(2, .bool ((decide ((p0.length : Int) > 5000)) || (decide (c > 20000))))] (And.intro (And.intro rfl rfl) (fun _ => zkr trivial)) fun j => ?_))))
 refine zJ ?_
 cases hF
 exact hQ _ _ _ _ _ rfl hO hL ⟨rfl, rfl⟩
theorem zjk {τ : Hp} {p0 : zd}  {rr : z4 × Bool} (hF : zgx p0 = some rr) :
  Ctr Try.prog 60 #[.agg #[.int .u8 p0.Kind.toNat, .int .i64 p0.N]] τ [] (fun v τ' vs' => v = .tuple #[zbG rr.1, .bool rr.2] ∧ vs' = []) := by
 refine zN (args := [.agg #[.int .u8 p0.Kind.toNat, .int .i64 p0.N]]) hm Try.func60 s60 rfl fun w0 σ hO Q hQ => ?_
 unfold zgx at hF
 have hL := Hp.le.refl τ
 show wpn _ _ a60.body _ _ _
 unfold a60
 dsimp only
 refine zb7 (n := 2) hO rfl rfl fun b σ hO => ?_
 have hO := zkx1 hO
 refine zc hO [] [] [1] zkc fun j => ?_
 refine zh (zc hO [0] [(5, .int .u8 (p0.Kind.toNat : Int))] [1] (And.intro (And.intro rfl rfl) zkd) fun j => ?_)
 refine zx (zc hO [] [(6, .bool ((p0.Kind.toNat : Int) == 1))] [1, 5] zke fun j => ?_)
 refine zba (zp hF rfl (fun hF => ?_) fun hF => ?_)
 ·refine zh (zi hO [0] [(2, .iface 94 (.int .i64 p0.N)), (3, .bool true)] (And.intro (And.intro rfl rfl) zkd) fun j => ?_)
  refine zB (zE (zr ?_))
  cases hF
  have hO := hO.sel []
  exact hQ _ _ _ _ _ rfl hO hL ⟨rfl, rfl⟩
 refine zh (zc hO [] [(11, .bool ((p0.Kind.toNat : Int) == 2))] [1, 5] zke fun j => ?_)
 refine zp hF rfl (fun hF => ?_) fun hF => ?_
 ·refine zh (zbn (zi hO [0, 0, 0] [(2, .iface 95 (.int .i64 p0.N)), (3, .bool ((decide (p0.N ≥ 0)) && (decide (p0.N < 16))))] (And.intro (And.intro rfl rfl) (And.intro (And.intro rfl rfl) (And.intro (And.intro rfl rfl) (And.intro (And.intro rfl rfl) (fun _ => zkr zkc))))) fun j => ?_))
  refine zB (zE (zr ?_))
  cases hF
  have hO := hO.sel []
  exact hQ _ _ _ _ _ rfl hO hL ⟨rfl, rfl⟩
 refine zh (zc hO [] [(24, .bool ((p0.Kind.toNat : Int) == 3))] [1, 5] zke fun j => ?_)
 refine zp hF rfl (fun hF => ?_) fun hF => ?_
 ·refine zh (zi hO [0] [(2, .iface 96 (.int .i64 p0.N)), (3, .bool true)] (And.intro (And.intro rfl rfl) zkd) fun j => ?_)
  refine zB (zE (zr ?_))
  cases hF
  have hO := hO.sel []
  exact hQ _ _ _ _ _ rfl hO hL ⟨rfl, rfl⟩
 refine zh (zc hO [] [(29, .bool ((p0.Kind.toNat : Int) == 4))] [1, 5] zke fun j => ?_)
 refine zp hF rfl (fun hF => ?_) fun hF => ?_
 ·refine zh (zbn (zi hO [0] [(2, .iface 98 (.agg #[])), (3, .bool (p0.N == 0))] (And.intro (And.intro rfl rfl) zkd) fun j => ?_))
  refine zB (zE (zr ?_))
  cases hF
  have hO := hO.sel []
  exact hQ _ _ _ _ _ rfl hO hL ⟨rfl, rfl⟩
 refine zh (zc hO [] [(36, .bool ((p0.Kind.toNat : Int) == 5))] [1, 5] zke fun j => ?_)
 refine zp hF rfl (fun hF => ?_) fun hF => ?_
 ·refine zh (zbn (zi hO [0] [(2, .iface 99 (.agg #[])), (3, .bool (p0.N == 0))] (And.intro (And.intro rfl rfl) zkd) fun j => ?_))
  refine zB (zE (zr ?_))
  cases hF
  have hO := hO.sel []
  exact hQ _ _ _ _ _ rfl hO hL ⟨rfl, rfl⟩
 refine zh (zc hO [] [(43, .bool ((p0.Kind.toNat : Int) == 6))] [1] zkd fun j => ?_)
 refine zp hF rfl (fun hF => ?_) fun hF => ?_
 ·refine zh (zbn (zi hO [0] [(2, .iface 100 (.agg #[])), (3, .bool (p0.N == 0))] (And.intro (And.intro rfl rfl) zkd) fun j => ?_))
  refine zB (zE (zr ?_))
  cases hF
  have hO := hO.sel []
  exact hQ _ _ _ _ _ rfl hO hL ⟨rfl, rfl⟩
 refine zo (zf (zM (zg (zi hO [] [(2, .nilIface), (3, .bool false)] zkd fun j => ?_))))
 refine zJ ?_
 cases hF
 have hO := hO.sel []
 exact hQ _ _ _ _ _ rfl hO hL ⟨rfl, rfl⟩
theorem zja {τ : Hp} {p0 : Int}  {rr : Int} (hF : zgm p0 = some rr) :
  Ctr Try.prog 86 #[.int .i64 p0] τ [] (fun v τ' vs' => v = .int .i64 rr ∧ vs' = []) := by
 refine zN (args := [.int .i64 p0]) hm Try.func86 s86 rfl fun w0 σ hO Q hQ => ?_
 unfold zgm at hF
 have hL := Hp.le.refl τ
 show wpn _ _ a86.body _ _ _
 unfold a86
 dsimp only
 refine zi hO [] [] (trivial) fun j => ?_
 refine zi hO [] [(2, zks 0)] zkc fun j => ?_
 refine zJ ?_
 cases hF
 exact hQ _ _ _ _ _ rfl hO hL ⟨rfl, rfl⟩
theorem zh9 {τ : Hp} {p0 : Int}  {rr : Int} (hF : zfF p0 = some rr) :
  Ctr Try.prog 88 #[.int .i64 p0] τ [] (fun v τ' vs' => v = .int .i64 rr ∧ vs' = []) := by
 refine zN (args := [.int .i64 p0]) hm Try.func88 s88 rfl fun w0 σ hO Q hQ => ?_
 unfold zfF at hF
 have hL := Hp.le.refl τ
 show wpn _ _ a88.body _ _ _
 unfold a88
 dsimp only
 refine zi hO [] [] (trivial) fun j => ?_
 refine zi hO [] [(2, zks 0)] zkc fun j => ?_
 refine zJ ?_
 cases hF
 exact hQ _ _ _ _ _ rfl hO hL ⟨rfl, rfl⟩
theorem zjC {τ : Hp} {p0 : Int}  {rr : Int} (hF : zfQ p0 = some rr) :
  Ctr Try.prog 90 #[.int .i64 p0] τ [] (fun v τ' vs' => v = .int .i64 rr ∧ vs' = []) := by
 refine zN (args := [.int .i64 p0]) hm Try.func90 s90 rfl fun w0 σ hO Q hQ => ?_
 unfold zfQ at hF
 have hL := Hp.le.refl τ
 show wpn _ _ a90.body _ _ _
 unfold a90
 dsimp only
 refine zi hO [] [] (trivial) fun j => ?_
 refine zi hO [] [(2, zks 0)] zkc fun j => ?_
 refine zJ ?_
 cases hF
 exact hQ _ _ _ _ _ rfl hO hL ⟨rfl, rfl⟩
theorem ziB {τ : Hp} {p0 : zfa}  {rr : Int} (hF : zfE p0 = some rr) :
  Ctr Try.prog 92 #[.agg #[]] τ [] (fun v τ' vs' => v = .int .i64 rr ∧ vs' = []) := by
 refine zN (args := [.agg #[]]) hm Try.func92 s92 rfl fun w0 σ hO Q hQ => ?_
 unfold zfE at hF
 have hL := Hp.le.refl τ
 show wpn _ _ a92.body _ _ _
 unfold a92
 dsimp only
 refine zb7 (n := 0) hO rfl rfl fun b σ hO => ?_
 have hO := zkx1 hO
 refine zi hO [] [] (trivial) fun j => ?_
 refine zi hO [] [(2, zks 1)] zkc fun j => ?_
 refine zJ ?_
 cases hF
 have hO := hO.sel []
 exact hQ _ _ _ _ _ rfl hO hL ⟨rfl, rfl⟩
theorem zj8 {τ : Hp} {p0 : zeG}  {rr : Int} (hF : zgC p0 = some rr) :
  Ctr Try.prog 94 #[.agg #[]] τ [] (fun v τ' vs' => v = .int .i64 rr ∧ vs' = []) := by
 refine zN (args := [.agg #[]]) hm Try.func94 s94 rfl fun w0 σ hO Q hQ => ?_
 unfold zgC at hF
 have hL := Hp.le.refl τ
 show wpn _ _ a94.body _ _ _
 unfold a94
 dsimp only
 refine zb7 (n := 0) hO rfl rfl fun b σ hO => ?_
 have hO := zkx1 hO
 refine zi hO [] [] (trivial) fun j => ?_
 refine zi hO [] [(2, zks 2)] zkc fun j => ?_
 refine zJ ?_
 cases hF
 have hO := hO.sel []
 exact hQ _ _ _ _ _ rfl hO hL ⟨rfl, rfl⟩
theorem ziI {τ : Hp} {p0 : ze8}  {rr : Int} (hF : zfN p0 = some rr) :
  Ctr Try.prog 96 #[.agg #[]] τ [] (fun v τ' vs' => v = .int .i64 rr ∧ vs' = []) := by
 refine zN (args := [.agg #[]]) hm Try.func96 s96 rfl fun w0 σ hO Q hQ => ?_
 unfold zfN at hF
 have hL := Hp.le.refl τ
 show wpn _ _ a96.body _ _ _
 unfold a96
 dsimp only
 refine zb7 (n := 0) hO rfl rfl fun b σ hO => ?_
 have hO := zkx1 hO
 refine zi hO [] [] (trivial) fun j => ?_
 refine zi hO [] [(2, zks 1)] zkc fun j => ?_
 refine zJ ?_
 cases hF
 have hO := hO.sel []
 exact hQ _ _ _ _ _ rfl hO hL ⟨rfl, rfl⟩
theorem zhR {τ : Hp} {x : z4}   {rr : Int} (hF : zfH x  = some rr) :
  zgG Try.prog (zbG x) "theodolite/expr.takes" #[] τ [] (fun v τ' vs' => v = .int .i64 rr ∧ vs' = []) := by
 cases x with
 | nil => exact nomatch (show none = some rr from hF)
 | c_number a => exact ⟨94, _, 86, rfl, fun w => by kernel_rfl, by kernel_rfl, zja (p0 := a)  hF⟩
 | c_reg a => exact ⟨95, _, 88, rfl, fun w => by kernel_rfl, by kernel_rfl, zh9 (p0 := a)  hF⟩
 | c_base a => exact ⟨96, _, 90, rfl, fun w => by kernel_rfl, by kernel_rfl, zjC (p0 := a)  hF⟩
 | c_word a => exact ⟨98, _, 92, rfl, fun w => by kernel_rfl, by kernel_rfl, ziB (p0 := a)  hF⟩
 | c_add a => exact ⟨99, _, 94, rfl, fun w => by kernel_rfl, by kernel_rfl, zj8 (p0 := a)  hF⟩
 | c_neg a => exact ⟨100, _, 96, rfl, fun w => by kernel_rfl, by kernel_rfl, ziI (p0 := a)  hF⟩
theorem ziM {τ : Hp} {V : Value} {p0 : (List zd)} (r0 : RdT zw τ V p0) {rr : (List z4) × Bool} (hF : zgz p0 = some rr) :
  Ctr Try.prog 52 #[V] τ [] (fun v τ' vs' => ∃ (V : Value) (o0 : Ob), v = .tuple #[V, .bool rr.2] ∧ vs' = [o0] ∧ zj zeq 85 τ' V rr.1 o0) := by
 obtain ⟨I, J, rfl, -⟩ := r0.form
 refine zN (args := [.slice I p0.length J]) hm Try.func52 s52 rfl fun w0 σ hO Q hQ => ?_
 unfold zgz at hF
 have hL := Hp.le.refl τ
 show wpn _ _ a52.body _ _ _
 unfold a52
 dsimp only
 refine zc hO [] [] [0] zkc fun j => ?_
 refine zc hO [] [(4, .slice none 0 0)] [0] zkd fun j => ?_
 refine zc hO [] [(5, zks 0)] [0, 4] zke fun j => ?_
 refine zh (zc hO [] [(10, zkz I p0 J), (11, zks (p0.length : Int)), (12, zks 0)] [0, 4, 5] zkh fun j => ?_)
 refine zx ?_
 have hO := hO.no
 have hO := zkx1 hO
 refine z2 (fun (n : Nat) e' σ' => ∃ (w : Option Addr) (z : Nat) (R : Ob) (c : List z4) (g B : Int) (τ' : Hp), agr [(0, zkz I p0 J), (4, zkz w c z), (5, zks g), (10, zkz I p0 J), (11, zks (p0.length : Int)), (12, zks B)] e' ∧ Obs τ' σ' [R] ∧ Hp.le τ τ' ∧ zj zeq 85 τ' (zkz w c z) c R ∧ zeX p0 n c g B = some rr) big ⟨none, 0, [], [], 0, 0, _, zkr zkg, hO, hL, zj.nil _ _ _, hF⟩ ?_
 clear hF hO hL
 rintro S e σ ⟨w, z, R, c, g, B, _, hA, hO, hL, h, hF⟩
 rw [← zD _ _ hA]
 cases S with
 | zero => exact nomatch (show none = some rr from hF)
 | succ S =>
 replace hF : zf8 (zeX p0 S) p0 c g B = some rr := hF
 unfold zf8 at hF
 refine zc hO [] [(13, .bool (decide (B < (p0.length : Int))))] [0, 4, 5, 10, 11, 12] zki fun j => ?_
 refine zp hF rfl (fun hF => ?_) fun hF => ?_
 ·refine zo (zx ?_)
  obtain ⟨G, b8, hF⟩ := zky hF
  refine zF (T := zw) (r0.le hL) hO.base rfl rfl b8 (by decide) fun a80 _ b9 c1 => ?_
  obtain rfl : _ = ([.int .u8 G.Kind.toNat, .int .i64 G.N] : List Value) := b9
  refine zs rfl ((c1.le hO.base).all rfl) ?_
  refine z6 hO fun d5 σ hO => ?_
  have hO := zkx2 hO
  refine zU hO (i := 1) rfl (off := 0) rfl rfl rfl rfl (Nat.le_of_ble_eq_true rfl) rfl fun σ hO => ?_
  have hO := zkx2 hO
  refine ze (zb hO 1 [1] [(17, .agg #[(.int .u8 (G.Kind.toNat : Int)), (.int .i64 G.N)])] [0, 4, 5, 10, 11, 12] (And.intro (And.intro rfl rfl) zki) fun j => ?_)
  obtain ⟨q, c2, hF⟩ := zky hF
  refine zu hO (zjk (p0 := (⟨G.Kind, G.N⟩ : zd)) c2) rfl fun _ σ _ _ hO b1 c3 => ?_
  have hL := hL.trans b1
  have h := h.le b1
  obtain ⟨rfl, rfl⟩ := c3
  have hO := zkx2 hO
  refine zc hO [] [(8, zbG q.1), (9, .bool q.2)] [0, 4, 5, 10, 11, 12] zkj fun j => ?_
  refine zh (zb hO 3 [] [(23, .bool (!q.2))] [0, 4, 5, 8, 10, 11, 12] zkj fun j => ?_)
  have hO := hO.sel [0]
  have hO := zkx1 hO
  obtain ⟨c4, c5, hF⟩ := zky hF
  refine zbr 2 (fun e' σ' => ∃ (τ' : Hp), agr [(28, .bool c4), (0, zkz I p0 J), (4, zkz w c z), (5, zks g), (8, zbG q.1), (10, zkz I p0 J), (11, zks (p0.length : Int)), (12, zks B)] e' ∧ Obs τ' σ' [R] ∧ Hp.le τ τ' ∧ zj zeq 85 τ' (zkz w c z) c R) ?_ ?_
  ·have hF := c5
   rcases zY hF with ⟨E, hF⟩ | ⟨E, hF⟩
   ·refine zQ (zkv E) ?_
    refine zq (zku E) ?_
    refine ze ?_
    cases hF
    refine zf ?_
    exact ⟨rfl, _, zkr zki, hO, hL, h⟩
   refine zP (zkv E) ?_
   refine zb hO 1 [] [(24, zbG q.1)] [0, 4, 5, 8, 10, 11, 12, 23] zkk fun j => ?_
   obtain ⟨c6, c7, hF⟩ := zky hF
   refine zgT rfl hO (zhR c7) rfl fun _ σ _ _ hO b2 c8 => ?_
   have hL := hL.trans b2
   have h := h.le b2
   obtain ⟨rfl, rfl⟩ := c8
   have hO := zkx1 hO
   refine zb hO 2 [] [(27, .bool (decide (c6 > g)))] [0, 4, 5, 8, 10, 11, 12, 23] zkk fun j => ?_
   refine zq (zku E) ?_
   refine ze ?_
   cases hF
   refine zf ?_
   exact ⟨rfl, _, zkr zki, hO, hL, h⟩
  rintro e σ ⟨_, hA, hO, hL, h⟩
  rw [← zD _ _ hA]
  refine ze (zp hF rfl (fun hF => ?_) fun hF => ?_)
  ·refine zh (zi hO [] [(2, .slice none 0 0), (3, .bool false)] zkd fun j => ?_)
   refine zB (zE (zr (zr (zE (zr ?_)))))
   have hO := hO.no
   have hO := zkx2 hO
   cases hF
   have hO := hO.sel [1]
   exact hQ _ _ _ _ _ rfl hO hL ⟨_, _, rfl, rfl, (zj.nil _ _ _)⟩
  refine zo (zb hO 2 [] [(29, zks g), (30, zbG q.1)] [0, 4, 8, 10, 11, 12] zkj fun j => ?_)
  obtain ⟨U, c9, hF⟩ := zky hF
  refine zgT rfl hO (zhR c9) rfl fun _ σ _ _ hO b3 d0 => ?_
  have hL := hL.trans b3
  have h := h.le b3
  obtain ⟨rfl, rfl⟩ := d0
  have hO := zkx1 hO
  refine zc hO [] [(5, zks (IntKind.i64.wrap (g + (IntKind.i64.wrap (1 - U)))))] [0, 4, 8, 10, 11, 12] zki fun j => ?_
  refine zh (zc hO [] [(35, .bool (decide ((IntKind.i64.wrap (g + (IntKind.i64.wrap (1 - U)))) > 8)))] [0, 4, 5, 8, 10, 11, 12] zkj fun j => ?_)
  refine zp hF rfl (fun hF => ?_) fun hF => ?_
  ·refine zh (zi hO [] [(2, .slice none 0 0), (3, .bool false)] zkd fun j => ?_)
   refine zB (zE (zr (zr (zE (zr ?_)))))
   have hO := hO.no
   have hO := zkx2 hO
   cases hF
   have hO := hO.sel [1]
   exact hQ _ _ _ _ _ rfl hO hL ⟨_, _, rfl, rfl, (zj.nil _ _ _)⟩
  refine zo (zy (zb hO 2 [] [(36, zkz w c z), (37, zbG q.1)] [0, 5, 10, 11, 12] zki fun j => ?_))
  obtain ⟨_, b0, hF⟩ := zky hF
  refine zbz (T := zeq) (y := q.1) hO h (i := 0) rfl rfl (fun _ => rfl) (show (zbG q.1).cells.toList = _ from zjV _) (show _ = _ from rfl) rfl b0 (by decide) fun u _ σ b4 W hO => ?_
  obtain ⟨X, Y, rfl, -⟩ := W.form
  have hO := zkx1 hO
  refine zi hO [] [(0, zkz I p0 J), (4, zkz X (c ++ [q.1]) Y), (5, zks (IntKind.i64.wrap (g + (IntKind.i64.wrap (1 - U))))), (10, zkz I p0 J), (11, zks (p0.length : Int)), (12, zks B)] zkh fun j => ?_
  refine zf (zM (zg (zy (zc hO [] [(12, zks (IntKind.i64.wrap (B + 1)))] [0, 4, 5, 10, 11] zkh fun j => ?_))))
  refine zf (zg ?_)
  exact ⟨S, Nat.lt_succ_self _, X, Y, b4, (c ++ [q.1]), (IntKind.i64.wrap (g + (IntKind.i64.wrap (1 - U)))), (IntKind.i64.wrap (B + 1)), _, zkr zkg, hO, hL, W, hF⟩
 refine z0 (z3 (z1 (zg (zb hO 5 [] [(41, zkz w c z), (45, .bool (decide ((p0.length : Int) ≤ 16)))] [0, 5] zkf fun j => ?_))))
 obtain ⟨Z, b5, hF⟩ := zky hF
 refine zb4 4 [(53, .bool Z), (41, zkz w c z)] (fun Q hQ => ?_) fun j => ?_
 ·have hF := b5
  rcases zY hF with ⟨b, hF⟩ | ⟨b, hF⟩
  ·refine zP (zkw b) ?_
   refine zb hO 4 [] [(49, .bool ((p0.length : Int) == 0))] [5, 41, 45] zkf fun j => ?_
   rcases zY hF with ⟨D, hF⟩ | ⟨D, hF⟩
   ·refine zQ (zkv D) ?_
    refine zP (zkw b) ?_
    refine zq (zku D) ?_
    refine zq (zku b) ?_
    refine ze ?_
    cases hF
    refine zf ?_
    exact hQ _ zkd
   refine zP (zkv D) ?_
   refine zb hO 2 [] [(51, .bool (g == 1))] [41, 45, 49] zkf fun j => ?_
   refine zP (zkw b) ?_
   refine zq (zku D) ?_
   refine zq (zku b) ?_
   refine ze ?_
   cases hF
   refine zf ?_
   exact hQ _ zkd
  refine zQ (zkw b) ?_
  refine zQ rfl ?_
  refine zQ (zkw b) ?_
  refine zq (zku b) ?_
  refine ze ?_
  cases hF
  refine zf ?_
  exact hQ _ zkd
 refine zi hO [] [(2, zkz w c z), (3, .bool Z)] zkd fun j => ?_
 refine zJ ?_
 cases hF
 exact hQ _ _ _ _ _ rfl hO hL ⟨_, _, rfl, rfl, h⟩
theorem zfU {τ : Hp} {b : Value} {p0 : (List zd)} (c : RdT zw τ b p0) {rr : Bool} (hF : zea p0 = some rr) :
  Ctr Try.prog 35 #[b] τ [] (fun v τ' vs' => v = .bool rr ∧ vs' = []) := by
 obtain ⟨g, h, rfl, -⟩ := c.form
 refine zN (args := [.slice g p0.length h]) hm Try.func35 s35 rfl fun w0 σ hO Q hQ => ?_
 unfold zea at hF
 have hL := Hp.le.refl τ
 show wpn _ _ a35.body _ _ _
 unfold a35
 dsimp only
 refine zc hO [] [] [0] zkc fun j => ?_
 refine zZ hO 1 [] [(6, zkz g p0 h)] zkc fun j => ?_
 obtain ⟨q, z, hF⟩ := zky hF
 refine zu hO (ziM (c.le hL) z) rfl fun _ σ _ _ hO B D => ?_
 have hL := hL.trans B
 obtain ⟨E, G, rfl, rfl, w⟩ := D
 obtain ⟨I, J, rfl, -⟩ := w.form
 have hO := zkx1 hO
 refine zi hO [] [(4, .bool q.2)] zkc fun j => ?_
 refine zi hO [] [(2, .bool q.2)] zkc fun j => ?_
 refine zJ ?_
 cases hF
 have hO := hO.sel []
 exact hQ _ _ _ _ _ rfl hO hL ⟨rfl, rfl⟩
theorem zgs {τ : Hp} {J : Value} {p0 : (List za)} (R : RdT zk τ J p0) {rr : Bool} (hF : zdz p0 = some rr) :
  Ctr Try.prog 17 #[J] τ [] (fun v τ' vs' => v = .bool rr ∧ vs' = []) := by
 obtain ⟨z, B, rfl, -⟩ := R.form
 refine zN (args := [.slice z p0.length B]) hm Try.func17 s17 rfl fun w0 σ hO Q hQ => ?_
 unfold zdz at hF
 have hL := Hp.le.refl τ
 show wpn _ _ a17.body _ _ _
 unfold a17
 dsimp only
 refine zc hO [] [] [0] zkc fun j => ?_
 refine zc hO [] [(3, zks 0)] [0] zkd fun j => ?_
 refine zh (zc hO [] [(6, zkz z p0 B), (7, zks (p0.length : Int)), (8, zks 0)] [0, 3] zkg fun j => ?_)
 refine zx (z2 (fun (n : Nat) e' σ' => ∃ (q c : Int) (τ' : Hp), agr [(0, zkz z p0 B), (3, zks q), (6, zkz z p0 B), (7, zks (p0.length : Int)), (8, zks c)] e' ∧ Obs τ' σ' [] ∧ Hp.le τ τ' ∧ zfc p0 n q c = some rr) big ⟨0, 0, _, zkr zkf, hO, hL, hF⟩ ?_)
 clear hF hO hL
 rintro w e σ ⟨q, c, _, hA, hO, hL, hF⟩
 rw [← zD _ _ hA]
 cases w with
 | zero => exact nomatch (show none = some rr from hF)
 | succ w =>
 replace hF : zfo (zfc p0 w) p0 q c = some rr := hF
 unfold zfo at hF
 refine zc hO [] [(9, .bool (decide (c < (p0.length : Int))))] [0, 3, 6, 7, 8] zkh fun j => ?_
 refine zp hF rfl (fun hF => ?_) fun hF => ?_
 ·refine zo (zx ?_)
  obtain ⟨b, S, hF⟩ := zky hF
  refine zF (T := zk) (R.le hL) hO.base rfl rfl S (by decide) fun a46 _ U V => ?_
  obtain ⟨b1, rfl, g⟩ := U
  obtain ⟨D, E, rfl, -⟩ := g.form
  refine zs rfl ((V.le hO.base).all rfl) ?_
  refine z6 hO fun G σ hO => ?_
  have hO := zkx1 hO
  refine zU hO (i := 0) rfl (off := 0) rfl rfl rfl rfl (Nat.le_of_ble_eq_true rfl) rfl fun σ hO => ?_
  have hO := zkx1 hO
  refine ze (zh (zb hO 14 [0, 0, 0, 0, 0] [(34, .bool ((((decide (b.From < q)) || (decide (b.To ≤ b.From))) || (decide (b.To > 16777216))) || ((b.At.length : Int) == 0)))] [0, 5, 6, 7, 8] (And.intro (And.intro rfl rfl) (And.intro (And.intro rfl rfl) (And.intro (And.intro rfl rfl) (And.intro (And.intro rfl rfl) (fun _ => And.intro (And.intro rfl rfl) (And.intro (And.intro rfl rfl) (fun _ => And.intro (And.intro rfl rfl) (And.intro (And.intro rfl rfl) (fun _ => zkr zkg))))))))) fun j => ?_))
  obtain ⟨W, X, hF⟩ := zky hF
  refine zbr 2 (fun e' σ' => ∃ (τ' : Hp), agr [(39, .bool W), (0, zkz z p0 B), (5, zkt G), (6, zkz z p0 B), (7, zks (p0.length : Int)), (8, zks c)] e' ∧ Obs τ' σ' [zbT G b.From b.To (zkz D b.At E)] ∧ Hp.le τ τ' ∧ RdT zw τ' (zkz D b.At E) b.At) ?_ ?_
  ·have hF := X
   rcases zY hF with ⟨h, hF⟩ | ⟨h, hF⟩
   ·refine zQ (zkv h) ?_
    refine zq (zku h) ?_
    refine ze ?_
    cases hF
    refine zf ?_
    exact ⟨rfl, _, zkr zkg, hO, hL, g⟩
   refine zP (zkv h) ?_
   refine zb hO 2 [0] [(36, zkz D b.At E)] [0, 5, 6, 7, 8, 34] (And.intro (And.intro rfl rfl) zki) fun j => ?_
   obtain ⟨Y, Z, hF⟩ := zky hF
   refine zu hO (zfU g Z) rfl fun _ σ _ _ hO I b0 => ?_
   have hL := hL.trans I
   have g := g.le I
   obtain ⟨rfl, rfl⟩ := b0
   have hO := zkx1 hO
   refine zb hO 1 [] [(38, .bool (!Y))] [0, 5, 6, 7, 8, 34] zki fun j => ?_
   refine zq (zku h) ?_
   refine ze ?_
   cases hF
   refine zf ?_
   exact ⟨rfl, _, zkr zkg, hO, hL, g⟩
  rintro e σ ⟨_, hA, hO, hL, g⟩
  rw [← zD _ _ hA]
  refine ze (zp hF rfl (fun hF => ?_) fun hF => ?_)
  ·refine zh (zi hO [] [(2, .bool false)] zkc fun j => ?_)
   refine zB (zE (zr (zr (zE (zr ?_)))))
   cases hF
   have hO := hO.sel []
   exact hQ _ _ _ _ _ rfl hO hL ⟨rfl, rfl⟩
  refine zo (zy (zc hO [0] [(3, zks b.To)] [0, 6, 7, 8] (And.intro (And.intro rfl rfl) zkg) fun j => ?_))
  refine zf (zM (zg (zy (zc hO [] [(8, zks (IntKind.i64.wrap (c + 1)))] [0, 3, 6, 7] zkg fun j => ?_))))
  refine zf (zg ?_)
  have hO := hO.sel []
  exact ⟨w, Nat.lt_succ_self _, b.To, (IntKind.i64.wrap (c + 1)), _, zkr zkf, hO, hL, hF⟩
 refine z0 (z3 (z1 (zg (zi hO [] [(2, .bool (decide ((p0.length : Int) ≤ 4000)))] zkc fun j => ?_))))
 refine zJ ?_
 cases hF
 exact hQ _ _ _ _ _ rfl hO hL ⟨rfl, rfl⟩
theorem zgK {τ : Hp} {c : Value} {p0 : (List UInt8)} (h : RdT Ty.u8 τ c p0) {rr : (List UInt8)} (hF : zem p0 = some rr) :
  Ctr Try.prog 46 #[c] τ [] (fun v τ' vs' => ∃ (c : Value) (q : Ob), v = c ∧ vs' = [q] ∧ zj Ty.u8 5 τ' c rr q) := by
 obtain ⟨b, g, rfl, -⟩ := h.form
 refine zN (args := [.slice b p0.length g]) hm Try.func46 s46 rfl fun w0 σ hO Q hQ => ?_
 unfold zem at hF
 obtain ⟨_, hr, hF⟩ := zky hF
 injection hF with hF
 subst hF
 have hL := Hp.le.refl τ
 show wpn _ _ a46.body _ _ _
 unfold a46
 dsimp only
 refine zi hO [] [(0, zkz b p0 g)] zkc fun j => ?_
 refine zh (zi hO [] [(0, zkz b p0 g), (4, .bool b.isNone)] zkd fun j => ?_)
 rcases (Bool.eq_false_or_eq_true b.isNone).symm with hA | hA
 ·refine zbM (zku hA) ?_
  refine zo (zbJ (T := Ty.u8) (l := []) (cs := []) hO rfl rfl rfl (by decide) fun _ σ o1 w1 hO => ?_)
  obtain ⟨w, z, rfl, -⟩ := w1.form
  refine zZ hO 1 [] [(5, .slice w 0 z), (6, zkz b p0 g)] zkd fun j => ?_
  refine zc3 (T := Ty.u8) hO w1 (i := 0) rfl rfl rfl h (by simpa using hr) (by decide) fun _ σ o2 B hO => ?_
  refine zi hO [] [(2, _)] zkc fun j => ?_
  refine zJ ?_
  exact hQ _ _ _ _ _ rfl hO hL ⟨_, _, rfl, rfl, B⟩
 refine zbO (zku hA) ?_
 have := h.empty (by decide) hA
 subst this
 refine zh (zi hO [] [(2, .slice none 0 0)] zkc fun j => ?_)
 refine zB ?_
 have hO := hO.no
 exact hQ _ _ _ _ _ rfl hO hL ⟨_, _, rfl, rfl, zj.nil _ _ _⟩
theorem zdL {τ : Hp} {w : Value} {p0 : (List UInt8)} {B : Int} (X : RdT Ty.u8 τ w p0) {rr : (List UInt8)} (hF : zcP p0 B = some rr) :
  Ctr Try.prog 31 #[w, .int .u64 B] τ [] (fun v τ' vs' => ∃ (w : Value) (Y : Ob), v = w ∧ vs' = [Y] ∧ zj Ty.u8 5 τ' w rr Y) := by
 obtain ⟨Z, c0, rfl, -⟩ := X.form
 refine zN (args := [.slice Z p0.length c0, .int .u64 B]) hm Try.func31 s31 rfl fun w0 σ hO Q hQ => ?_
 unfold zcP at hF
 have hL := Hp.le.refl τ
 show wpn _ _ a31.body _ _ _
 unfold a31
 dsimp only
 refine zc hO [] [] [0, 1] zkd fun j => ?_
 refine zb hO 1 [] [(6, zkz Z p0 c0)] [1] zkd fun j => ?_
 obtain ⟨c3, h4, hF⟩ := zky hF
 refine zu hO (zgK (X.le hL) h4) rfl fun _ σ _ _ hO h5 h6 => ?_
 have hL := hL.trans h5
 obtain ⟨v7, b2, rfl, rfl, D⟩ := h6
 obtain ⟨A8, c9, rfl, -⟩ := D.form
 have hO := zkx1 hO
 refine zc hO [] [(5, zkz A8 c3 c9)] [1] zkd fun j => ?_
 refine zx (z2 (fun (n : Nat) e' σ' => ∃ (c : Int) (g : Option Addr) (h : Nat) (z : Ob) (b : List UInt8) (τ' : Hp), agr [(1, .int .u64 c), (5, zkz g b h)] e' ∧ Obs τ' σ' [z] ∧ Hp.le τ τ' ∧ zj Ty.u8 5 τ' (zkz g b h) b z ∧ ze0  n c b = some rr) big ⟨B, A8, c9, b2, c3, _, zkr zkc, hO, hL, D, hF⟩ ?_)
 clear hF hO hL
 rintro q e σ ⟨c, g, h, z, b, _, hA, hO, hL, E, hF⟩
 rw [← zD _ _ hA]
 cases q with
 | zero => exact nomatch (show none = some rr from hF)
 | succ q =>
 replace hF : zf0 (ze0  q) c b = some rr := hF
 unfold zf0 at hF
 refine zh (zc hO [] [(9, .bool (decide (c > 127)))] [1, 5] zke fun j => ?_)
 refine zp hF rfl (fun hF => ?_) fun hF => ?_
 ·refine zo (zcp (zx (zb hO 4 [] [(10, zkz g b h), (13, .int .u8 (orI .u8 (IntKind.u8.wrap c) 128))] [1] zke fun j => ?_)))
  obtain ⟨z51, S, hF⟩ := zky hF
  obtain ⟨_, U, hF⟩ := zky hF
  refine zbz (T := Ty.u8) (y := z51) hO E (i := 0) rfl rfl (fun _ => rfl) rfl (u8R S) rfl U (by decide) fun u _ σ b5 G hO => ?_
  obtain ⟨I, J, rfl, -⟩ := G.form
  have hO := zkx1 hO
  refine zc hO [] [(5, zkz I (b ++ [z51]) J)] [1] zkd fun j => ?_
  refine zy (zc hO [] [(1, .int .u64 (zch .u64 c 7))] [5] zkd fun j => ?_)
  refine zf (zM (zg (zf (zg ?_))))
  exact ⟨q, Nat.lt_succ_self _, (zch .u64 c 7), I, J, b5, (b ++ [z51]), _, zkr zkc, hO, hL, G, hF⟩
 refine z0 (z3 (z1 (zg (zZ hO 3 [] [(18, zkz g b h), (20, .int .u8 (IntKind.u8.wrap c))] zkd fun j => ?_))))
 obtain ⟨z57, V, hF⟩ := zky hF
 obtain ⟨_, W, hF⟩ := zky hF
 refine zbz (T := Ty.u8) (y := z57) hO E (i := 0) rfl rfl (fun _ => rfl) rfl (u8R V) rfl W (by decide) fun u _ σ c2 R hO => ?_
 obtain ⟨b6, b7, rfl, -⟩ := R.form
 have hO := zkx1 hO
 refine zi hO [] [(4, zkz b6 (b ++ [z57]) b7)] zkc fun j => ?_
 refine zJ ?_
 cases hF
 exact hQ _ _ _ _ _ rfl hO hL ⟨_, _, rfl, rfl, R⟩
theorem zgQ {τ : Hp} {p0 : Int}  {rr : Bool} (hF : zeo p0 = some rr) :
  Ctr Try.prog 47 #[.int .u8 p0] τ [] (fun v τ' vs' => v = .bool rr ∧ vs' = []) := by
 refine zN (args := [.int .u8 p0]) hm Try.func47 s47 rfl fun w0 σ hO Q hQ => ?_
 unfold zeo at hF
 have hL := Hp.le.refl τ
 show wpn _ _ a47.body _ _ _
 unfold a47
 dsimp only
 refine zc hO [] [] [0] zkc fun j => ?_
 refine zi hO [] [(2, .bool ((decide (p0 ≥ 1)) && (decide (p0 ≤ 3))))] (And.intro (And.intro rfl rfl) (fun _ => zkr trivial)) fun j => ?_
 refine zJ ?_
 cases hF
 exact hQ _ _ _ _ _ rfl hO hL ⟨rfl, rfl⟩
theorem zhP {τ : Hp} {w : Value} {p0 : (List UInt8)} {B : Int} (X : RdT Ty.u8 τ w p0) {rr : (List UInt8)} (hF : zeT p0 B = some rr) :
  Ctr Try.prog 48 #[w, .int .i64 B] τ [] (fun v τ' vs' => ∃ (w : Value) (Y : Ob), v = w ∧ vs' = [Y] ∧ zj Ty.u8 5 τ' w rr Y) := by
 obtain ⟨Z, c0, rfl, -⟩ := X.form
 refine zN (args := [.slice Z p0.length c0, .int .i64 B]) hm Try.func48 s48 rfl fun w0 σ hO Q hQ => ?_
 unfold zeT at hF
 have hL := Hp.le.refl τ
 show wpn _ _ a48.body _ _ _
 unfold a48
 dsimp only
 refine zc hO [] [] [0, 1] zkd fun j => ?_
 refine zb hO 1 [] [(6, zkz Z p0 c0)] [1] zkd fun j => ?_
 obtain ⟨c3, h4, hF⟩ := zky hF
 refine zu hO (zgK (X.le hL) h4) rfl fun _ σ _ _ hO h5 h6 => ?_
 have hL := hL.trans h5
 obtain ⟨v7, b2, rfl, rfl, D⟩ := h6
 obtain ⟨A8, c9, rfl, -⟩ := D.form
 have hO := zkx1 hO
 refine zc hO [] [(5, zkz A8 c3 c9)] [1] zkd fun j => ?_
 refine zx (z2 (fun (n : Nat) e' σ' => ∃ (c : Int) (g : Option Addr) (h : Nat) (z : Ob) (b : List UInt8) (τ' : Hp), agr [(1, zks c), (5, zkz g b h)] e' ∧ Obs τ' σ' [z] ∧ Hp.le τ τ' ∧ zj Ty.u8 5 τ' (zkz g b h) b z ∧ zev  n c b = some rr) big ⟨B, A8, c9, b2, c3, _, zkr zkc, hO, hL, D, hF⟩ ?_)
 clear hF hO hL
 rintro q e σ ⟨c, g, h, z, b, _, hA, hO, hL, E, hF⟩
 rw [← zD _ _ hA]
 cases q with
 | zero => exact nomatch (show none = some rr from hF)
 | succ q =>
 replace hF : zfi (zev  q) c b = some rr := hF
 unfold zfi at hF
 refine zh (zc hO [] [(13, .bool ((decide (c > 63)) || (decide (c < (-64)))))] [1, 5] (And.intro (And.intro rfl rfl) (fun _ => zkr zkd)) fun j => ?_)
 refine zp hF rfl (fun hF => ?_) fun hF => ?_
 ·refine zo (zcp (zx (zb hO 4 [] [(14, zkz g b h), (17, .int .u8 (orI .u8 (IntKind.u8.wrap c) 128))] [1] zke fun j => ?_)))
  obtain ⟨z51, S, hF⟩ := zky hF
  obtain ⟨_, U, hF⟩ := zky hF
  refine zbz (T := Ty.u8) (y := z51) hO E (i := 0) rfl rfl (fun _ => rfl) rfl (u8R S) rfl U (by decide) fun u _ σ b5 G hO => ?_
  obtain ⟨I, J, rfl, -⟩ := G.form
  have hO := zkx1 hO
  refine zc hO [] [(5, zkz I (b ++ [z51]) J)] [1] zkd fun j => ?_
  refine zy (zc hO [] [(1, zks (zch .i64 c 7))] [5] zkd fun j => ?_)
  refine zf (zM (zg (zf (zg ?_))))
  exact ⟨q, Nat.lt_succ_self _, (zch .i64 c 7), I, J, b5, (b ++ [z51]), _, zkr zkc, hO, hL, G, hF⟩
 refine z0 (z3 (z1 (zg (zZ hO 4 [] [(22, zkz g b h), (25, .int .u8 (zeK .u8 (IntKind.u8.wrap c) 127))] zkd fun j => ?_))))
 obtain ⟨z57, V, hF⟩ := zky hF
 obtain ⟨_, W, hF⟩ := zky hF
 refine zbz (T := Ty.u8) (y := z57) hO E (i := 0) rfl rfl (fun _ => rfl) rfl (u8R V) rfl W (by decide) fun u _ σ c2 R hO => ?_
 obtain ⟨b6, b7, rfl, -⟩ := R.form
 have hO := zkx1 hO
 refine zi hO [] [(4, zkz b6 (b ++ [z57]) b7)] zkc fun j => ?_
 refine zJ ?_
 cases hF
 exact hQ _ _ _ _ _ rfl hO hL ⟨_, _, rfl, rfl, R⟩
theorem ziT {τ : Hp} {E : Value} {p0 : (List UInt8)} {v1 : Value} {h : (List zd)} (r0 : RdT Ty.u8 τ E p0) (r1 : RdT zw τ v1 h) {rr : (List UInt8) × Int} (hF : zfu p0 h = some rr) :
  Ctr Try.prog 32 #[E, v1] τ [] (fun v τ' vs' => ∃ (E : Value) (o0 : Ob), v = .tuple #[E, .int .i64 rr.2] ∧ vs' = [o0] ∧ zj Ty.u8 5 τ' E rr.1 o0) := by
 obtain ⟨A0, c0, rfl, -⟩ := r0.form
 obtain ⟨X, Y, rfl, -⟩ := r1.form
 refine zN (args := [.slice A0 p0.length c0, .slice X h.length Y]) hm Try.func32 s32 rfl fun w0 σ hO Q hQ => ?_
 unfold zfu at hF
 have hL := Hp.le.refl τ
 show wpn _ _ a32.body _ _ _
 unfold a32
 dsimp only
 refine zc hO [] [] [0, 1] zkd fun j => ?_
 refine zh (zb hO 1 [] [(9, zkz X h Y)] [0, 1] zke fun j => ?_)
 obtain ⟨c3, h4, hF⟩ := zky hF
 refine zu hO (zfU (r1.le hL) h4) rfl fun _ σ _ _ hO h5 h6 => ?_
 have hL := hL.trans h5
 obtain ⟨rfl, rfl⟩ := h6
 have hO : Obs _ _ [] := hO
 refine zc hO [] [(11, .bool (!c3))] [0, 1] zke fun j => ?_
 refine zp hF rfl (fun hF => ?_) fun hF => ?_
 ·refine zh (zi hO [] [(4, .slice none 0 0), (5, zks 1)] zkd fun j => ?_)
  refine zB ?_
  have hO := hO.no
  have hO := zkx1 hO
  cases hF
  exact hQ _ _ _ _ _ rfl hO hL ⟨_, _, rfl, rfl, (zj.nil _ _ _)⟩
 refine zo (zb hO 4 [] [(12, zkz A0 p0 c0), (15, .int .u64 (IntKind.u64.wrap (h.length : Int)))] [1] zke fun j => ?_)
 obtain ⟨c8, h9, hF⟩ := zky hF
 refine zu hO (zdL (r0.le hL) h9) rfl fun _ σ _ _ hO d5 d6 => ?_
 have hL := hL.trans d5
 obtain ⟨f9, d7, rfl, rfl, Z⟩ := d6
 obtain ⟨b0, b1, rfl, -⟩ := Z.form
 have hO := zkx1 hO
 refine zc hO [] [(6, zkz b0 c8 b1)] [1] zkd fun j => ?_
 refine zh (zc hO [] [(17, zkz X h Y), (18, zks (h.length : Int)), (19, zks 0)] [6] zkf fun j => ?_)
 refine zx (z2 (fun (n : Nat) e' σ' => ∃ (q : Option Addr) (w : Nat) (G : Ob) (b : List UInt8) (c : Int) (τ' : Hp), agr [(6, zkz q b w), (17, zkz X h Y), (18, zks (h.length : Int)), (19, zks c)] e' ∧ Obs τ' σ' [G] ∧ Hp.le τ τ' ∧ zj Ty.u8 5 τ' (zkz q b w) b G ∧ zfg h n b c = some rr) big ⟨b0, b1, d7, c8, 0, _, zkr zke, hO, hL, Z, hF⟩ ?_)
 clear hF hO hL
 rintro z e σ ⟨q, w, G, b, c, _, hA, hO, hL, b2, hF⟩
 rw [← zD _ _ hA]
 cases z with
 | zero => exact nomatch (show none = some rr from hF)
 | succ z =>
 replace hF : zgA (zfg h z) h b c = some rr := hF
 unfold zgA at hF
 refine zc hO [] [(20, .bool (decide (c < (h.length : Int))))] [6, 17, 18, 19] zkg fun j => ?_
 refine zp hF rfl (fun hF => ?_) fun hF => ?_
 ·refine zo (zx ?_)
  obtain ⟨g, d8, hF⟩ := zky hF
  refine zF (T := zw) (r1.le hL) hO.base rfl rfl d8 (by decide) fun a88 _ d9 f0 => ?_
  obtain rfl : _ = ([.int .u8 g.Kind.toNat, .int .i64 g.N] : List Value) := d9
  refine zs rfl ((f0.le hO.base).all rfl) ?_
  refine z6 hO fun g0 σ hO => ?_
  have hO := zkx2 hO
  refine zU hO (i := 1) rfl (off := 0) rfl rfl rfl rfl (Nat.le_of_ble_eq_true rfl) rfl fun σ hO => ?_
  have hO := zkx2 hO
  refine ze (zb hO 3 [1] [(23, zkz q b w), (25, .int .u8 (g.Kind.toNat : Int))] [8, 17, 18, 19] (And.intro (And.intro rfl rfl) zkh) fun j => ?_)
  obtain ⟨_, b5, hF⟩ := zky hF
  refine zbz (T := Ty.u8) (y := g.Kind) hO b2 (i := 0) rfl rfl (fun _ => rfl) rfl rfl rfl b5 (by decide) fun u _ σ f1 B hO => ?_
  obtain ⟨I, J, rfl, -⟩ := B.form
  have hO := zkx2 hO
  refine zc hO [] [(6, zkz I (b ++ [g.Kind]) J)] [8, 17, 18, 19] zkg fun j => ?_
  refine zb hO 2 [1] [(29, .int .u8 (g.Kind.toNat : Int))] [6, 8, 17, 18, 19] (And.intro (And.intro rfl rfl) zkh) fun j => ?_
  obtain ⟨g1, f2, hF⟩ := zky hF
  refine zu hO (zgQ f2) rfl fun _ σ _ _ hO b3 b6 => ?_
  have hL := hL.trans b3
  have B := B.le b3
  obtain ⟨rfl, rfl⟩ := b6
  have hO := zkx2 hO
  refine ze (zba (zp hF rfl (fun hF => ?_) fun hF => ?_))
  ·refine zb hO 3 [1] [(31, zkz I (b ++ [g.Kind]) J), (33, zks g.N)] [17, 18, 19] (And.intro (And.intro rfl rfl) zkg) fun j => ?_
   obtain ⟨_, b7, D, hO⟩ := B.share hO (i := 0) rfl
   have hL := hL.trans b7
   have hO := zkx2 hO
   obtain ⟨R, b8, hF⟩ := zky hF
   refine zu hO (zhP D b8) rfl fun _ σ _ _ hO S b9 => ?_
   have hL := hL.trans S
   have D := D.le S
   obtain ⟨f8, c2, rfl, rfl, U⟩ := b9
   obtain ⟨V, W, rfl, -⟩ := U.form
   have hO := zkx3 hO
   refine zc hO [] [(6, zkz V R W)] [17, 18, 19] zkf fun j => ?_
   refine zf (zM (zg (zy (zc hO [] [(19, zks (IntKind.i64.wrap (c + 1)))] [6, 17, 18] zkf fun j => ?_))))
   refine zf (zg ?_)
   have hO := hO.sel [2]
   exact ⟨z, Nat.lt_succ_self _, V, W, c2, R, (IntKind.i64.wrap (c + 1)), _, zkr zke, hO, hL, U, hF⟩
  refine zo (zf (zM (zg (zy (zc hO [] [(19, zks (IntKind.i64.wrap (c + 1)))] [6, 17, 18] zkf fun j => ?_)))))
  refine zf (zg ?_)
  have hO := hO.sel [0]
  exact ⟨z, Nat.lt_succ_self _, I, J, f1, (b ++ [g.Kind]), (IntKind.i64.wrap (c + 1)), _, zkr zke, hO, hL, B, hF⟩
 refine z0 (z3 (z1 (zg (zi hO [] [(4, zkz q b w), (5, zks 0)] zkd fun j => ?_))))
 refine zJ ?_
 cases hF
 exact hQ _ _ _ _ _ rfl hO hL ⟨_, _, rfl, rfl, b2⟩
theorem zj7 {τ : Hp} {V : Value} {p0 : (List UInt8)} {v1 : Value} {h : (List za)} (r0 : RdT Ty.u8 τ V p0) (r1 : RdT zk τ v1 h) {rr : (List UInt8) × Int} (hF : zf6 p0 h = some rr) :
  Ctr Try.prog 12 #[V, v1] τ [] (fun v τ' vs' => ∃ (V : Value) (o0 : Ob), v = .tuple #[V, .int .i64 rr.2] ∧ vs' = [o0] ∧ zj Ty.u8 5 τ' V rr.1 o0) := by
 obtain ⟨A0, c0, rfl, -⟩ := r0.form
 obtain ⟨A1, c1, rfl, -⟩ := r1.form
 refine zN (args := [.slice A0 p0.length c0, .slice A1 h.length c1]) hm Try.func12 s12 rfl fun w0 σ hO Q hQ => ?_
 unfold zf6 at hF
 have hL := Hp.le.refl τ
 show wpn _ _ a12.body _ _ _
 unfold a12
 dsimp only
 refine zc hO [] [] [0, 1] zkd fun j => ?_
 refine zh (zb hO 1 [] [(10, zkz A1 h c1)] [0, 1] zke fun j => ?_)
 obtain ⟨c3, h4, hF⟩ := zky hF
 refine zu hO (zgs (r1.le hL) h4) rfl fun _ σ _ _ hO h5 h6 => ?_
 have hL := hL.trans h5
 obtain ⟨rfl, rfl⟩ := h6
 have hO : Obs _ _ [] := hO
 refine zc hO [] [(12, .bool (!c3))] [0, 1] zke fun j => ?_
 refine zp hF rfl (fun hF => ?_) fun hF => ?_
 ·refine zh (zi hO [] [(4, .slice none 0 0), (5, zks 1)] zkd fun j => ?_)
  refine zB ?_
  have hO := hO.no
  have hO := zkx1 hO
  cases hF
  exact hQ _ _ _ _ _ rfl hO hL ⟨_, _, rfl, rfl, (zj.nil _ _ _)⟩
 refine zo (zb hO 4 [] [(13, zkz A0 p0 c0), (16, .int .u64 (IntKind.u64.wrap (h.length : Int)))] [1] zke fun j => ?_)
 obtain ⟨c8, h9, hF⟩ := zky hF
 refine zu hO (zdL (r0.le hL) h9) rfl fun _ σ _ _ hO g2 g3 => ?_
 have hL := hL.trans g2
 obtain ⟨i3, g4, rfl, rfl, c4⟩ := g3
 obtain ⟨c5, c6, rfl, -⟩ := c4.form
 have hO := zkx1 hO
 refine zc hO [] [(6, zkz c5 c8 c6)] [1] zkd fun j => ?_
 refine zc hO [] [(7, zks 0)] [1, 6] zke fun j => ?_
 refine zh (zc hO [] [(18, zkz A1 h c1), (19, zks (h.length : Int)), (20, zks 0)] [6, 7] zkg fun j => ?_)
 refine zx (z2 (fun (n : Nat) e' σ' => ∃ (D : Option Addr) (E : Nat) (W : Ob) (q : List UInt8) (G w : Int) (τ' : Hp), agr [(6, zkz D q E), (7, zks G), (18, zkz A1 h c1), (19, zks (h.length : Int)), (20, zks w)] e' ∧ Obs τ' σ' [W] ∧ Hp.le τ τ' ∧ zj Ty.u8 5 τ' (zkz D q E) q W ∧ ze6 h n q G w = some rr) big ⟨c5, c6, g4, c8, 0, 0, _, zkr zkf, hO, hL, c4, hF⟩ ?_)
 clear hF hO hL
 rintro z e σ ⟨D, E, W, q, G, w, _, hA, hO, hL, c7, hF⟩
 rw [← zD _ _ hA]
 cases z with
 | zero => exact nomatch (show none = some rr from hF)
 | succ z =>
 replace hF : zfr (ze6 h z) h q G w = some rr := hF
 unfold zfr at hF
 refine zc hO [] [(21, .bool (decide (w < (h.length : Int))))] [6, 7, 18, 19, 20] zkh fun j => ?_
 refine zp hF rfl (fun hF => ?_) fun hF => ?_
 ·refine zo (zx ?_)
  obtain ⟨c, d0, hF⟩ := zky hF
  refine zF (T := zk) (r1.le hL) hO.base rfl rfl d0 (by decide) fun a121 _ d5 d6 => ?_
  obtain ⟨h0, rfl, b⟩ := d5
  obtain ⟨d7, d8, rfl, -⟩ := b.form
  refine zs rfl ((d6.le hO.base).all rfl) ?_
  refine z6 hO fun X σ hO => ?_
  have hO := zkx2 hO
  refine zU hO (i := 1) rfl (off := 0) rfl rfl rfl rfl (Nat.le_of_ble_eq_true rfl) rfl fun σ hO => ?_
  have hO := zkx2 hO
  refine ze (zbn (zb hO 12 [1, 1, 1] [(24, zkz D q E), (29, .int .u64 (IntKind.u64.wrap (IntKind.i64.wrap (c.From - G)))), (31, .pointer (some ⟨X, 1, none⟩)), (32, zks c.To), (33, zkt X), (34, zks c.From), (36, .int .u64 (IntKind.u64.wrap (IntKind.i64.wrap (c.To - c.From))))] [9, 18, 19, 20] (And.intro (And.intro rfl rfl) (And.intro (And.intro rfl rfl) (And.intro (And.intro rfl rfl) zkm))) fun j => ?_))
  refine z8 ?_
  obtain ⟨_, Y, g, hO⟩ := c7.share hO (i := 0) rfl
  have hL := hL.trans Y
  have b := b.le Y
  have hO := zkx2 hO
  obtain ⟨h1, d9, hF⟩ := zky hF
  refine zu hO (zdL g d9) rfl fun _ σ _ _ hO I f0 => ?_
  have hL := hL.trans I
  have g := g.le I
  have b := b.le I
  obtain ⟨h2, h3, rfl, rfl, Z⟩ := f0
  obtain ⟨h7, h8, rfl, -⟩ := Z.form
  have hO := zkx3 hO
  refine ze (z7 ⟨(zT rfl (hO.val (i := 1) (off := 0) (agg := false) (n := 1) rfl rfl) rfl), (zT rfl (hO.val (i := 1) (off := 1) (agg := false) (n := 1) rfl rfl) rfl), trivial⟩ ?_)
  obtain ⟨_, J, R, hO⟩ := Z.share hO (i := 2) rfl
  have hL := hL.trans J
  have g := g.le J
  have b := b.le J
  have hO := zkx3 hO
  obtain ⟨b0, f1, hF⟩ := zky hF
  refine zu hO (zdL R f1) rfl fun _ σ _ _ hO B f2 => ?_
  have hL := hL.trans B
  have g := g.le B
  have R := R.le B
  have b := b.le B
  obtain ⟨i0, i1, rfl, rfl, b1⟩ := f2
  obtain ⟨b2, b3, rfl, -⟩ := b1.form
  have hO := zkx4 hO
  refine zc hO [] [(6, zkz b2 b0 b3)] [9, 18, 19, 20] zkg fun j => ?_
  refine zb hO 3 [1] [(39, zkz b2 b0 b3), (41, zkz d7 c.At d8)] [9, 18, 19, 20] (And.intro (And.intro rfl rfl) zkh) fun j => ?_
  obtain ⟨_, b4, S, hO⟩ := b1.share hO (i := 3) rfl
  have hL := hL.trans b4
  have b := b.le b4
  have hO := zkx4 hO
  obtain ⟨b5, f3, hF⟩ := zky hF
  refine zu hO (ziT S b f3) rfl fun _ σ _ _ hO U f4 => ?_
  have hL := hL.trans U
  have S := S.le U
  have b := b.le U
  obtain ⟨i2, f5, rfl, rfl, b6⟩ := f4
  obtain ⟨b7, b8, rfl, -⟩ := b6.form
  have hO := zkx5 hO
  refine zc hO [] [(6, zkz b7 b5.1 b8)] [9, 18, 19, 20] zkg fun j => ?_
  refine zy (zc hO [1] [(7, zks c.To)] [6, 18, 19, 20] (And.intro (And.intro rfl rfl) zkg) fun j => ?_)
  refine zf (zM (zg (zy (zc hO [] [(20, zks (IntKind.i64.wrap (w + 1)))] [6, 7, 18, 19] zkg fun j => ?_))))
  refine zf (zg ?_)
  have hO := hO.sel [4]
  exact ⟨z, Nat.lt_succ_self _, b7, b8, f5, b5.1, c.To, (IntKind.i64.wrap (w + 1)), _, zkr zkf, hO, hL, b6, hF⟩
 refine z0 (z3 (z1 (zg (zi hO [] [(4, zkz D q E), (5, zks 0)] zkd fun j => ?_))))
 refine zJ ?_
 cases hF
 exact hQ _ _ _ _ _ rfl hO hL ⟨_, _, rfl, rfl, c7⟩
theorem zga {τ : Hp} {E : Value} {p0 : (List zd)} {G : Value} {c : (List zd)} (I : RdT zw τ E p0) (J : RdT zw τ G c) {rr : Bool} (hF : zcI p0 c = some rr) :
  Ctr Try.prog 25 #[E, G] τ [] (fun v τ' vs' => v = .bool rr ∧ vs' = []) := by
 obtain ⟨w, z, rfl, -⟩ := I.form
 obtain ⟨B, D, rfl, -⟩ := J.form
 refine zN (args := [.slice w p0.length z, .slice B c.length D]) hm Try.func25 s25 rfl fun w0 σ hO Q hQ => ?_
 unfold zcI at hF
 have hL := Hp.le.refl τ
 show wpn _ _ a25.body _ _ _
 unfold a25
 dsimp only
 refine zc hO [] [] [0, 1] zkd fun j => ?_
 refine zh (zc hO [] [(10, .bool ((p0.length : Int) != (c.length : Int)))] [0, 1] zke fun j => ?_)
 refine zp hF rfl (fun hF => ?_) fun hF => ?_
 ·refine zh (zi hO [] [(4, .bool false)] zkc fun j => ?_)
  refine zB ?_
  cases hF
  exact hQ _ _ _ _ _ rfl hO hL ⟨rfl, rfl⟩
 refine zo (zh (zc hO [] [(5, zks 0)] [0, 1] zke fun j => ?_))
 refine zx (z2 (fun (n : Nat) e' σ' => ∃ (b : Int) (τ' : Hp), agr [(0, zkz w p0 z), (1, zkz B c D), (5, zks b)] e' ∧ Obs τ' σ' [] ∧ Hp.le τ τ' ∧ zdP p0 c n b = some rr) big ⟨0, _, zkr zkd, hO, hL, hF⟩ ?_)
 clear hF hO hL
 rintro g e σ ⟨b, _, hA, hO, hL, hF⟩
 rw [← zD _ _ hA]
 cases g with
 | zero => exact nomatch (show none = some rr from hF)
 | succ g =>
 replace hF : zdo (zdP p0 c g) p0 c b = some rr := hF
 unfold zdo at hF
 refine zh (zc hO [] [(14, .bool (decide (b < (p0.length : Int))))] [0, 1, 5] zkf fun j => ?_)
 refine zp hF rfl (fun hF => ?_) fun hF => ?_
 ·refine zo (zx (zbn (zb hO 2 [] [(17, zkz w p0 z), (18, zks b)] [0, 1, 5] zkg fun j => ?_)))
  obtain ⟨h, R, hF⟩ := zky hF
  refine zF (T := zw) (I.le hL) hO.base rfl rfl R (by decide) fun a33 _ S U => ?_
  obtain rfl : _ = ([.int .u8 h.Kind.toNat, .int .i64 h.N] : List Value) := S
  refine zs rfl ((U.le hO.base).all rfl) ?_
  refine zb hO 2 [] [(21, zkz B c D), (22, zks b)] [0, 1, 5, 20] zkh fun j => ?_
  obtain ⟨q, V, hF⟩ := zky hF
  refine zF (T := zw) (J.le hL) hO.base rfl rfl V (by decide) fun a38 _ W X => ?_
  obtain rfl : _ = ([.int .u8 q.Kind.toNat, .int .i64 q.N] : List Value) := W
  refine zs rfl ((X.le hO.base).all rfl) ?_
  refine zc hO [] [(25, .bool (!(( (h.Kind.toNat : Int) == (q.Kind.toNat : Int)) && (( h.N == q.N) && true))))] [0, 1, 5] zkf fun j => ?_
  refine zba (zp hF rfl (fun hF => ?_) fun hF => ?_)
  ·refine zh (zi hO [] [(4, .bool false)] zkc fun j => ?_)
   refine zB (zE (zr (zr (zE (zr ?_)))))
   cases hF
   exact hQ _ _ _ _ _ rfl hO hL ⟨rfl, rfl⟩
  refine zo (zf (zM (zg (zy (zc hO [] [(5, zks (IntKind.i64.wrap (b + 1)))] [0, 1] zke fun j => ?_)))))
  refine zf (zg ?_)
  exact ⟨g, Nat.lt_succ_self _, (IntKind.i64.wrap (b + 1)), _, zkr zkd, hO, hL, hF⟩
 refine z0 (z3 (z1 (zg (zi hO [] [(4, .bool true)] zkc fun j => ?_))))
 refine zJ ?_
 cases hF
 exact hQ _ _ _ _ _ rfl hO hL ⟨rfl, rfl⟩
theorem zej {τ : Hp} {v0 : Value} {p0 : (List za)} {v1 : Value} {c : (List za)} (W : RdT zk τ v0 p0) (X : RdT zk τ v1 c) {rr : Bool} (hF : zbI p0 c = some rr) :
  Ctr Try.prog 16 #[v0, v1] τ [] (fun v τ' vs' => v = .bool rr ∧ vs' = []) := by
 obtain ⟨q, w, rfl, -⟩ := W.form
 obtain ⟨z, B, rfl, -⟩ := X.form
 refine zN (args := [.slice q p0.length w, .slice z c.length B]) hm Try.func16 s16 rfl fun w0 σ hO Q hQ => ?_
 unfold zbI at hF
 have hL := Hp.le.refl τ
 show wpn _ _ a16.body _ _ _
 unfold a16
 dsimp only
 refine zc hO [] [] [0, 1] zkd fun j => ?_
 refine zh (zc hO [] [(10, .bool ((p0.length : Int) != (c.length : Int)))] [0, 1] zke fun j => ?_)
 refine zp hF rfl (fun hF => ?_) fun hF => ?_
 ·refine zh (zi hO [] [(4, .bool false)] zkc fun j => ?_)
  refine zB ?_
  cases hF
  exact hQ _ _ _ _ _ rfl hO hL ⟨rfl, rfl⟩
 refine zo (zh (zc hO [] [(5, zks 0)] [0, 1] zke fun j => ?_))
 refine zx (z2 (fun (n : Nat) e' σ' => ∃ (b : Int) (τ' : Hp), agr [(0, zkz q p0 w), (1, zkz z c B), (5, zks b)] e' ∧ Obs τ' σ' [] ∧ Hp.le τ τ' ∧ zdC p0 c n b = some rr) big ⟨0, _, zkr zkd, hO, hL, hF⟩ ?_)
 clear hF hO hL
 rintro D e σ ⟨b, _, hA, hO, hL, hF⟩
 rw [← zD _ _ hA]
 cases D with
 | zero => exact nomatch (show none = some rr from hF)
 | succ D =>
 replace hF : zdR (zdC p0 c D) p0 c b = some rr := hF
 unfold zdR at hF
 refine zh (zc hO [] [(14, .bool (decide (b < (p0.length : Int))))] [0, 1, 5] zkf fun j => ?_)
 refine zp hF rfl (fun hF => ?_) fun hF => ?_
 ·refine zo (zx (zbn (zb hO 2 [] [(17, zkz q p0 w), (18, zks b)] [0, 1, 5] zkg fun j => ?_)))
  obtain ⟨S, Y, hF⟩ := zky hF
  refine zF (T := zk) (W.le hL) hO.base rfl rfl Y (by decide) fun a141 _ Z b0 => ?_
  obtain ⟨f4, rfl, b1⟩ := Z
  obtain ⟨f5, f6, rfl, -⟩ := b1.form
  refine zb hO 1 [] [(20, .pointer (some a141))] [0, 1, 5] zkf fun j => ?_
  refine zs rfl (b0.le hO.base).fst ?_
  refine zb hO 2 [] [(22, zkz z c B), (23, zks b)] [0, 1, 5, 21] zkh fun j => ?_
  obtain ⟨U, b2, hF⟩ := zky hF
  refine zF (T := zk) (X.le hL) hO.base rfl rfl b2 (by decide) fun a150 _ b3 b4 => ?_
  obtain ⟨f7, rfl, b5⟩ := b3
  obtain ⟨f8, f9, rfl, -⟩ := b5.form
  refine zb hO 1 [] [(25, .pointer (some a150))] [0, 1, 5, 21] zkg fun j => ?_
  refine zs rfl (b4.le hO.base).fst ?_
  refine zb hO 2 [] [(28, .bool (S.From != U.From))] [0, 1, 5] zkf fun j => ?_
  obtain ⟨J, b6, hF⟩ := zky hF
  refine zb4 2 [(40, .bool J), (0, zkz q p0 w), (1, zkz z c B), (5, zks b)] (fun Q hQ => ?_) fun j => ?_
  ·have hF := b6
   rcases zY hF with ⟨g, hF⟩ | ⟨g, hF⟩
   ·refine zQ (zkv g) ?_
    refine zq (zku g) ?_
    refine ze ?_
    cases hF
    refine zf ?_
    exact hQ _ zkf
   refine zP (zkv g) ?_
   refine zb hO 2 [] [(29, zkz q p0 w), (30, zks b)] [0, 1, 5, 28] zkh fun j => ?_
   obtain ⟨V, b7, hF⟩ := zky hF
   refine zF (T := zk) (W.le hL) hO.base rfl rfl b7 (by decide) fun a162 _ b8 b9 => ?_
   obtain ⟨g0, rfl, c2⟩ := b8
   obtain ⟨g1, g2, rfl, -⟩ := c2.form
   refine zb hO 1 [] [(32, .pointer (some (a162.add 1)))] [0, 1, 5, 28] zkg fun j => ?_
   refine zs rfl ((b9.le hO.base).one 1 rfl) ?_
   refine zZ hO 2 [] [(0, zkz q p0 w), (1, zkz z c B), (5, zks b), (28, .bool (S.From != U.From)), (33, zks V.To), (34, zkz z c B), (35, zks b)] zki fun j => ?_
   obtain ⟨c3, c4, hF⟩ := zky hF
   refine zF (T := zk) (X.le hL) hO.base rfl rfl c4 (by decide) fun a171 _ c5 c6 => ?_
   obtain ⟨g3, rfl, c7⟩ := c5
   obtain ⟨g4, g5, rfl, -⟩ := c7.form
   refine zb hO 1 [] [(37, .pointer (some (a171.add 1)))] [0, 1, 5, 28, 33] zkh fun j => ?_
   refine zs rfl ((c6.le hO.base).one 1 rfl) ?_
   refine zb hO 1 [] [(39, .bool (V.To != c3.To))] [0, 1, 5, 28] zkg fun j => ?_
   refine zq (zku g) ?_
   refine ze ?_
   cases hF
   refine zf ?_
   exact hQ _ zkf
  refine zb hO 1 [] [(41, .bool J)] [0, 1, 5] zkf fun j => ?_
  obtain ⟨c8, c9, hF⟩ := zky hF
  refine zbr 2 (fun e' σ' => ∃ (τ' : Hp), agr [(54, .bool c8), (0, zkz q p0 w), (1, zkz z c B), (5, zks b)] e' ∧ Obs τ' σ' [] ∧ Hp.le τ τ') ?_ ?_
  ·have hF := c9
   rcases zY hF with ⟨h, hF⟩ | ⟨h, hF⟩
   ·refine zQ (zkv h) ?_
    refine zq (zku h) ?_
    refine ze ?_
    cases hF
    refine zf ?_
    exact ⟨rfl, _, zkr zke, hO, hL⟩
   refine zP (zkv h) ?_
   refine zb hO 2 [] [(42, zkz q p0 w), (43, zks b)] [0, 1, 5, 41] zkh fun j => ?_
   obtain ⟨g6, d0, hF⟩ := zky hF
   refine zF (T := zk) (W.le hL) hO.base rfl rfl d0 (by decide) fun a183 _ d5 d6 => ?_
   obtain ⟨g7, rfl, E⟩ := d5
   obtain ⟨g8, g9, rfl, -⟩ := E.form
   refine zZ hO 1 [] [(0, zkz q p0 w), (1, zkz z c B), (5, zks b), (41, .bool J), (45, .pointer (some (a183.add 2)))] zkg fun j => ?_
   refine zs rfl ((d6.le hO.base).one 2 rfl) ?_
   refine zb hO 2 [] [(47, zkz z c B), (48, zks b)] [0, 1, 5, 41, 46] zki fun j => ?_
   obtain ⟨h0, d7, hF⟩ := zky hF
   refine zF (T := zk) (X.le hL) hO.base rfl rfl d7 (by decide) fun a192 _ d8 R => ?_
   obtain ⟨h1, rfl, G⟩ := d8
   obtain ⟨h2, h3, rfl, -⟩ := G.form
   refine zb hO 1 [] [(50, .pointer (some (a192.add 2)))] [0, 1, 5, 41, 46] zkh fun j => ?_
   refine zs rfl ((R.le hO.base).one 2 rfl) ?_
   obtain ⟨d9, f0, hF⟩ := zky hF
   refine zu hO (zga E G f0) rfl fun _ σ _ _ hO I f1 => ?_
   have hL := hL.trans I
   have E := E.le I
   have R := R.le I
   have G := G.le I
   obtain ⟨rfl, rfl⟩ := f1
   have hO : Obs _ _ [] := hO
   refine zb hO 1 [] [(53, .bool (!d9))] [0, 1, 5, 41] zkg fun j => ?_
   refine zq (zku h) ?_
   refine ze ?_
   cases hF
   refine zf ?_
   exact ⟨rfl, _, zkr zke, hO, hL⟩
  rintro e σ ⟨_, hA, hO, hL⟩
  rw [← zD _ _ hA]
  refine ze (zba (zp hF rfl (fun hF => ?_) fun hF => ?_))
  ·refine zh (zi hO [] [(4, .bool false)] zkc fun j => ?_)
   refine zB (zE (zr (zr (zE (zr ?_)))))
   cases hF
   exact hQ _ _ _ _ _ rfl hO hL ⟨rfl, rfl⟩
  refine zo (zf (zM (zg (zy (zc hO [] [(5, zks (IntKind.i64.wrap (b + 1)))] [0, 1] zke fun j => ?_)))))
  refine zf (zg ?_)
  exact ⟨D, Nat.lt_succ_self _, (IntKind.i64.wrap (b + 1)), _, zkr zkd, hO, hL, hF⟩
 refine z0 (z3 (z1 (zg (zi hO [] [(4, .bool true)] zkc fun j => ?_))))
 refine zJ ?_
 cases hF
 exact hQ _ _ _ _ _ rfl hO hL ⟨rfl, rfl⟩
theorem zhO {τ : Hp} {E : Value} {p0 : (List UInt8)} (D : RdT Ty.u8 τ E p0) {rr : Int × Int} (hF : zeD p0 = some rr) :
  Ctr Try.prog 61 #[E] τ [] (fun v τ' vs' => v = .tuple #[.int .u64 rr.1, .int .i64 rr.2] ∧ vs' = []) := by
 obtain ⟨q, w, rfl, -⟩ := D.form
 refine zN (args := [.slice q p0.length w]) hm Try.func61 s61 rfl fun w0 σ hO Q hQ => ?_
 unfold zeD at hF
 have hL := Hp.le.refl τ
 show wpn _ _ a61.body _ _ _
 unfold a61
 dsimp only
 refine zc hO [] [(2, .int .u64 0)] [0] zkd fun j => ?_
 refine zh (zc hO [] [(7, zks (zW (p0.length : Int) 10)), (8, zks 0)] [0, 2] zkf fun j => ?_)
 refine zx (z2 (fun (n : Nat) e' σ' => ∃ (c b : Int) (τ' : Hp), agr [(0, zkz q p0 w), (2, .int .u64 c), (7, zks (zW (p0.length : Int) 10)), (8, zks b)] e' ∧ Obs τ' σ' [] ∧ Hp.le τ τ' ∧ zeL p0 n c b = some rr) big ⟨0, 0, _, zkr zke, hO, hL, hF⟩ ?_)
 clear hF hO hL
 rintro g e σ ⟨c, b, _, hA, hO, hL, hF⟩
 rw [← zD _ _ hA]
 cases g with
 | zero => exact nomatch (show none = some rr from hF)
 | succ g =>
 replace hF : zfj (zeL p0 g) p0 c b = some rr := hF
 unfold zfj at hF
 refine zc hO [] [(9, .bool (decide (b < (zW (p0.length : Int) 10))))] [0, 2, 7, 8] zkg fun j => ?_
 refine zp hF rfl (fun hF => ?_) fun hF => ?_
 ·refine zo (zx (zc hO [] [(4, zks b)] [0, 2, 7, 8] zkg fun j => ?_))
  refine zb hO 3 [] [(11, .int .u64 c), (12, zkz q p0 w), (13, zks b)] [0, 4, 7, 8] zki fun j => ?_
  obtain ⟨z, G, hF⟩ := zky hF
  refine zF (T := Ty.u8) (D.le hL) hO.base rfl rfl G (by decide) fun a36 _ I J => ?_
  obtain rfl : _ = ([.int .u8 z.toNat] : List Value) := I
  refine zs rfl (J.le hO.base).fst ?_
  refine zb hO 4 [] [(17, .int .u64 (IntKind.u64.wrap (zeK .u8 (z.toNat : Int) 127))), (19, zks (IntKind.i64.wrap (7 * b)))] [0, 4, 7, 8, 11] zki fun j => ?_
  obtain ⟨h, R, hF⟩ := zky hF
  refine zfB (zgO R) ?_
  refine zc hO [] [(2, .int .u64 (orI .u64 c h))] [0, 4, 7, 8] zkg fun j => ?_
  refine zb hO 2 [] [(22, zkz q p0 w), (23, zks b)] [0, 2, 4, 7, 8] zki fun j => ?_
  obtain ⟨B, S, hF⟩ := zky hF
  refine zF (T := Ty.u8) (D.le hL) hO.base rfl rfl S (by decide) fun a43 _ U V => ?_
  obtain rfl : _ = ([.int .u8 B.toNat] : List Value) := U
  refine zs rfl (V.le hO.base).fst ?_
  refine zc hO [] [(26, .bool (decide ((B.toNat : Int) < 128)))] [0, 2, 4, 7, 8] zkh fun j => ?_
  refine zba (zp hF rfl (fun hF => ?_) fun hF => ?_)
  ·refine zh (zi hO [] [(2, .int .u64 (orI .u64 c h)), (3, zks (IntKind.i64.wrap (b + 1)))] zkd fun j => ?_)
   refine zB (zE (zr (zr (zE (zr ?_)))))
   cases hF
   exact hQ _ _ _ _ _ rfl hO hL ⟨rfl, rfl⟩
  refine zo (zf (zM (zg (zy (zc hO [] [(8, zks (IntKind.i64.wrap (b + 1)))] [0, 2, 7] zkf fun j => ?_)))))
  refine zf (zg ?_)
  exact ⟨g, Nat.lt_succ_self _, (orI .u64 c h), (IntKind.i64.wrap (b + 1)), _, zkr zke, hO, hL, hF⟩
 refine z0 (z3 (z1 (zg (zi hO [] [(2, .int .u64 0), (3, zks 0)] zkd fun j => ?_))))
 refine zJ ?_
 cases hF
 exact hQ _ _ _ _ _ rfl hO hL ⟨rfl, rfl⟩
theorem zha {τ : Hp} {E : Value} {p0 : (List UInt8)} {G : Value} {c : (List UInt8)} (I : RdT Ty.u8 τ E p0) (J : RdT Ty.u8 τ G c) {rr : Bool} (hF : zeh p0 c = some rr) :
  Ctr Try.prog 62 #[E, G] τ [] (fun v τ' vs' => v = .bool rr ∧ vs' = []) := by
 obtain ⟨w, z, rfl, -⟩ := I.form
 obtain ⟨B, D, rfl, -⟩ := J.form
 refine zN (args := [.slice w p0.length z, .slice B c.length D]) hm Try.func62 s62 rfl fun w0 σ hO Q hQ => ?_
 unfold zeh at hF
 have hL := Hp.le.refl τ
 show wpn _ _ a62.body _ _ _
 unfold a62
 dsimp only
 refine zc hO [] [] [0, 1] zkd fun j => ?_
 refine zh (zc hO [] [(10, .bool ((p0.length : Int) != (c.length : Int)))] [0, 1] zke fun j => ?_)
 refine zp hF rfl (fun hF => ?_) fun hF => ?_
 ·refine zh (zi hO [] [(4, .bool false)] zkc fun j => ?_)
  refine zB ?_
  cases hF
  exact hQ _ _ _ _ _ rfl hO hL ⟨rfl, rfl⟩
 refine zo (zh (zc hO [] [(12, zks (p0.length : Int)), (13, zks 0)] [0, 1] zkf fun j => ?_))
 refine zx (z2 (fun (n : Nat) e' σ' => ∃ (b : Int) (τ' : Hp), agr [(0, zkz w p0 z), (1, zkz B c D), (12, zks (p0.length : Int)), (13, zks b)] e' ∧ Obs τ' σ' [] ∧ Hp.le τ τ' ∧ zeu p0 c n b = some rr) big ⟨0, _, zkr zke, hO, hL, hF⟩ ?_)
 clear hF hO hL
 rintro g e σ ⟨b, _, hA, hO, hL, hF⟩
 rw [← zD _ _ hA]
 cases g with
 | zero => exact nomatch (show none = some rr from hF)
 | succ g =>
 replace hF : zgH (zeu p0 c g) p0 c b = some rr := hF
 unfold zgH at hF
 refine zc hO [] [(14, .bool (decide (b < (p0.length : Int))))] [0, 1, 12, 13] zkg fun j => ?_
 refine zp hF rfl (fun hF => ?_) fun hF => ?_
 ·refine zo (zx (zc hO [] [(5, zks b)] [0, 1, 12, 13] zkg fun j => ?_))
  refine zbn (zb hO 2 [] [(16, zkz w p0 z), (17, zks b)] [0, 1, 5, 12, 13] zki fun j => ?_)
  obtain ⟨h, R, hF⟩ := zky hF
  refine zF (T := Ty.u8) (I.le hL) hO.base rfl rfl R (by decide) fun a33 _ S U => ?_
  obtain rfl : _ = ([.int .u8 h.toNat] : List Value) := S
  refine zs rfl (U.le hO.base).fst ?_
  refine zb hO 2 [] [(20, zkz B c D), (21, zks b)] [0, 1, 12, 13, 19] zki fun j => ?_
  obtain ⟨q, V, hF⟩ := zky hF
  refine zF (T := Ty.u8) (J.le hL) hO.base rfl rfl V (by decide) fun a38 _ W X => ?_
  obtain rfl : _ = ([.int .u8 q.toNat] : List Value) := W
  refine zs rfl (X.le hO.base).fst ?_
  refine zc hO [] [(24, .bool ((h.toNat : Int) != (q.toNat : Int)))] [0, 1, 12, 13] zkg fun j => ?_
  refine zba (zp hF rfl (fun hF => ?_) fun hF => ?_)
  ·refine zh (zi hO [] [(4, .bool false)] zkc fun j => ?_)
   refine zB (zE (zr (zr (zE (zr ?_)))))
   cases hF
   exact hQ _ _ _ _ _ rfl hO hL ⟨rfl, rfl⟩
  refine zo (zf (zM (zg (zy (zc hO [] [(13, zks (IntKind.i64.wrap (b + 1)))] [0, 1, 12] zkf fun j => ?_)))))
  refine zf (zg ?_)
  exact ⟨g, Nat.lt_succ_self _, (IntKind.i64.wrap (b + 1)), _, zkr zke, hO, hL, hF⟩
 refine z0 (z3 (z1 (zg (zi hO [] [(4, .bool true)] zkc fun j => ?_))))
 refine zJ ?_
 cases hF
 exact hQ _ _ _ _ _ rfl hO hL ⟨rfl, rfl⟩
theorem ziL {τ : Hp} {p0 b : Int}  {rr : Int} (hF : zf7 p0 b = some rr) :
  Ctr Try.prog 54 #[.int .u64 p0, .int .i64 b] τ [] (fun v τ' vs' => v = .int .u64 rr ∧ vs' = []) := by
 refine zN (args := [.int .u64 p0, .int .i64 b]) hm Try.func54 s54 rfl fun w0 σ hO Q hQ => ?_
 unfold zf7 at hF
 have hL := Hp.le.refl τ
 show wpn _ _ a54.body _ _ _
 unfold a54
 dsimp only
 refine zc hO [] [] [0] zkc fun j => ?_
 refine zi hO [] [(4, .int .u64 p0)] zkc fun j => ?_
 refine zJ ?_
 cases hF
 exact hQ _ _ _ _ _ rfl hO hL ⟨rfl, rfl⟩
theorem zjD {τ : Hp} {U : Value} {p0 : (List UInt8)} {g : Int} (J : RdT Ty.u8 τ U p0) {rr : Int × Int × Int} (hF : zgD p0 g = some rr) :
  Ctr Try.prog 53 #[U, .int .i64 g, .func (.func 54) #[] #[], .func (.func 31) #[] #[]] τ [] (fun v τ' vs' => v = .tuple #[.int .u64 rr.1, .int .i64 rr.2.1, .int .i64 rr.2.2] ∧ vs' = []) := by
 obtain ⟨R, S, rfl, -⟩ := J.form
 refine zN (args := [.slice R p0.length S, .int .i64 g, .func (.func 54) #[] #[], .func (.func 31) #[] #[]]) hm Try.func53 s53 rfl fun w0 σ hO Q hQ => ?_
 unfold zgD at hF
 have hL := Hp.le.refl τ
 show wpn _ _ a53.body _ _ _
 unfold a53
 dsimp only
 refine zc hO [] [] [0, 1, 2, 3] zkf fun j => ?_
 refine zh (zc hO [] [(21, .bool ((decide (g < 0)) || (decide (g > (p0.length : Int)))))] [0, 1, 2, 3] (And.intro (And.intro rfl rfl) (fun _ => zkr zkf)) fun j => ?_)
 refine zp hF rfl (fun hF => ?_) fun hF => ?_
 ·refine zh (zi hO [] [(8, .int .u64 0), (9, zks 0), (10, zks 1)] zke fun j => ?_)
  refine zB ?_
  cases hF
  exact hQ _ _ _ _ _ rfl hO hL ⟨rfl, rfl⟩
 refine zo (zb hO 2 [] [(23, zkz R p0 S), (24, zks g)] [0, 1, 2, 3] zkh fun j => ?_)
 obtain ⟨y6, g7, hF⟩ := zky hF
 refine zeV (T := Ty.u8) (J.le hL) rfl rfl rfl g7 fun _ B => ?_
 obtain ⟨A9, b9, rfl, -⟩ := B.form
 obtain ⟨b, V, hF⟩ := zky hF
 refine zu hO (zhO B V) rfl fun _ σ _ _ hO D W => ?_
 have hL := hL.trans D
 have B := B.le D
 obtain ⟨rfl, rfl⟩ := W
 have hO : Obs _ _ [] := hO
 refine zc hO [] [(11, .int .u64 b.1), (12, zks b.2)] [0, 1, 2, 3] zkh fun j => ?_
 refine zb hO 3 [] [(29, .func (.func 54) #[] #[]), (30, .int .u64 b.1), (31, zks b.2)] [0, 1, 3, 12] zki fun j => ?_
 obtain ⟨q, X, hF⟩ := zky hF
 refine zeC rfl (by kernel_rfl) hO (ziL X) rfl fun _ σ _ _ hO Y Z => ?_
 have hL := hL.trans Y
 obtain ⟨rfl, rfl⟩ := Z
 have hO : Obs _ _ [] := hO
 refine zc hO [] [(13, .int .u64 q)] [0, 1, 3, 12] zkg fun j => ?_
 refine zh (zbn (zb hO 3 [] [(35, .bool (b.2 == 0))] [0, 1, 3, 12, 13] zkh fun j => ?_))
 obtain ⟨b0, b1, hF⟩ := zky hF
 refine zbr 2 (fun e' σ' => ∃ (τ' : Hp), agr [(47, .bool b0), (1, zks g), (12, zks b.2), (13, .int .u64 q)] e' ∧ Obs τ' σ' [] ∧ Hp.le τ τ') ?_ ?_
 ·have hF := b1
  rcases zY hF with ⟨h, hF⟩ | ⟨h, hF⟩
  ·refine zQ (zkv h) ?_
   refine zq (zku h) ?_
   refine ze ?_
   cases hF
   refine zf ?_
   exact ⟨rfl, _, zkr zke, hO, hL⟩
  refine zP (zkv h) ?_
  refine zb hO 7 [] [(36, .func (.func 31) #[] #[]), (37, .int .u64 q), (39, zkz R p0 S), (40, zks g), (43, zks (IntKind.i64.wrap (g + b.2)))] [1, 12, 13, 35] zkk fun j => ?_
  obtain ⟨c1, b2, hF⟩ := zky hF
  refine zeV (T := Ty.u8) (J.le hL) rfl rfl rfl b2 fun _ c => ?_
  obtain ⟨c2, c3, rfl, -⟩ := c.form
  obtain ⟨c4, b3, hF⟩ := zky hF
  refine zeC rfl (by kernel_rfl) hO (zdL (RdT.nil Ty.u8 _) b3) rfl fun _ σ _ _ hO E b4 => ?_
  have hL := hL.trans E
  have c := c.le E
  obtain ⟨c5, c6, rfl, rfl, G⟩ := b4
  obtain ⟨c7, c8, rfl, -⟩ := G.form
  have hO := zkx1 hO
  obtain ⟨_, I, w, hO⟩ := G.share hO (i := 0) rfl
  have hL := hL.trans I
  have c := c.le I
  have hO := zkx1 hO
  obtain ⟨b5, b6, hF⟩ := zky hF
  refine zu hO (zha w c b6) rfl fun _ σ _ _ hO z b7 => ?_
  have hL := hL.trans z
  have w := w.le z
  have c := c.le z
  obtain ⟨rfl, rfl⟩ := b7
  have hO := zkx1 hO
  refine zZ hO 1 [] [(1, zks g), (12, zks b.2), (13, .int .u64 q), (35, .bool (b.2 == 0)), (46, .bool (!b5))] zkg fun j => ?_
  refine zq (zku h) ?_
  refine ze ?_
  cases hF
  refine zf ?_
  have hO := hO.sel []
  exact ⟨rfl, _, zkr zke, hO, hL⟩
 rintro e σ ⟨_, hA, hO, hL⟩
 rw [← zD _ _ hA]
 refine ze (zp hF rfl (fun hF => ?_) fun hF => ?_)
 ·refine zh (zi hO [] [(8, .int .u64 0), (9, zks 0), (10, zks 5)] zke fun j => ?_)
  refine zB ?_
  cases hF
  exact hQ _ _ _ _ _ rfl hO hL ⟨rfl, rfl⟩
 refine zo (zi hO [] [(8, .int .u64 q), (9, zks (IntKind.i64.wrap (g + b.2))), (10, zks 0)] zke fun j => ?_)
 refine zJ ?_
 cases hF
 exact hQ _ _ _ _ _ rfl hO hL ⟨rfl, rfl⟩
theorem zet {τ : Hp} {g : Value} {p0 : (List UInt8)} {b : Int} (h : RdT Ty.u8 τ g p0) {rr : Int × Int × Int} (hF : zcW p0 b = some rr) :
  Ctr Try.prog 38 #[g, .int .i64 b] τ [] (fun v τ' vs' => v = .tuple #[.int .u64 rr.1, .int .i64 rr.2.1, .int .i64 rr.2.2] ∧ vs' = []) := by
 obtain ⟨q, w, rfl, -⟩ := h.form
 refine zN (args := [.slice q p0.length w, .int .i64 b]) hm Try.func38 s38 rfl fun w0 σ hO Q hQ => ?_
 unfold zcW at hF
 have hL := Hp.le.refl τ
 show wpn _ _ a38.body _ _ _
 unfold a38
 dsimp only
 refine zc hO [] [] [0, 1] zkd fun j => ?_
 refine zZ hO 2 [] [(7, zkz q p0 w), (8, zks b)] zkd fun j => ?_
 obtain ⟨c, z, hF⟩ := zky hF
 refine zu hO (zjD (h.le hL) z) rfl fun _ σ _ _ hO B D => ?_
 have hL := hL.trans B
 obtain ⟨rfl, rfl⟩ := D
 have hO : Obs _ _ [] := hO
 refine zi hO [] [(4, .int .u64 c.1), (5, zks c.2.1), (6, zks c.2.2)] zke fun j => ?_
 refine zJ ?_
 cases hF
 exact hQ _ _ _ _ _ rfl hO hL ⟨rfl, rfl⟩
theorem zj2 {τ : Hp} {p0 b : Int}  {rr : Int} (hF : zf3 p0 b = some rr) :
  Ctr Try.prog 68 #[.int .u64 p0, .int .i64 b] τ [] (fun v τ' vs' => v = .int .i64 rr ∧ vs' = []) := by
 refine zN (args := [.int .u64 p0, .int .i64 b]) hm Try.func68 s68 rfl fun w0 σ hO Q hQ => ?_
 unfold zf3 at hF
 have hL := Hp.le.refl τ
 show wpn _ _ a68.body _ _ _
 unfold a68
 dsimp only
 refine zc hO [] [] [0, 1] zkd fun j => ?_
 refine zc hO [] [(5, zks (zS 0 (IntKind.i64.wrap (64 - (IntKind.i64.wrap (7 * b))))))] [0] zkd fun j => ?_
 refine zb hO 2 [] [(10, .int .u64 p0), (11, zks (zS 0 (IntKind.i64.wrap (64 - (IntKind.i64.wrap (7 * b))))))] [5] zke fun j => ?_
 obtain ⟨c, g, hF⟩ := zky hF
 refine zfB (zgO g) ?_
 refine zZ hO 2 [] [(13, zks (IntKind.i64.wrap c)), (14, zks (zS 0 (IntKind.i64.wrap (64 - (IntKind.i64.wrap (7 * b))))))] zkd fun j => ?_
 obtain ⟨h, q, hF⟩ := zky hF
 refine zfB (zjB q) ?_
 refine zi hO [] [(4, zks h)] zkc fun j => ?_
 refine zJ ?_
 cases hF
 exact hQ _ _ _ _ _ rfl hO hL ⟨rfl, rfl⟩
theorem zjN {τ : Hp} {U : Value} {p0 : (List UInt8)} {g : Int} (J : RdT Ty.u8 τ U p0) {rr : Int × Int × Int} (hF : zf1 p0 g = some rr) :
  Ctr Try.prog 67 #[U, .int .i64 g, .func (.func 68) #[] #[], .func (.func 48) #[] #[]] τ [] (fun v τ' vs' => v = .tuple #[.int .i64 rr.1, .int .i64 rr.2.1, .int .i64 rr.2.2] ∧ vs' = []) := by
 obtain ⟨R, S, rfl, -⟩ := J.form
 refine zN (args := [.slice R p0.length S, .int .i64 g, .func (.func 68) #[] #[], .func (.func 48) #[] #[]]) hm Try.func67 s67 rfl fun w0 σ hO Q hQ => ?_
 unfold zf1 at hF
 have hL := Hp.le.refl τ
 show wpn _ _ a67.body _ _ _
 unfold a67
 dsimp only
 refine zc hO [] [] [0, 1, 2, 3] zkf fun j => ?_
 refine zh (zc hO [] [(21, .bool ((decide (g < 0)) || (decide (g > (p0.length : Int)))))] [0, 1, 2, 3] (And.intro (And.intro rfl rfl) (fun _ => zkr zkf)) fun j => ?_)
 refine zp hF rfl (fun hF => ?_) fun hF => ?_
 ·refine zh (zi hO [] [(8, zks 0), (9, zks 0), (10, zks 1)] zke fun j => ?_)
  refine zB ?_
  cases hF
  exact hQ _ _ _ _ _ rfl hO hL ⟨rfl, rfl⟩
 refine zo (zb hO 2 [] [(23, zkz R p0 S), (24, zks g)] [0, 1, 2, 3] zkh fun j => ?_)
 obtain ⟨y6, g7, hF⟩ := zky hF
 refine zeV (T := Ty.u8) (J.le hL) rfl rfl rfl g7 fun _ B => ?_
 obtain ⟨A9, b9, rfl, -⟩ := B.form
 obtain ⟨b, V, hF⟩ := zky hF
 refine zu hO (zhO B V) rfl fun _ σ _ _ hO D W => ?_
 have hL := hL.trans D
 have B := B.le D
 obtain ⟨rfl, rfl⟩ := W
 have hO : Obs _ _ [] := hO
 refine zc hO [] [(11, .int .u64 b.1), (12, zks b.2)] [0, 1, 2, 3] zkh fun j => ?_
 refine zb hO 3 [] [(29, .func (.func 68) #[] #[]), (30, .int .u64 b.1), (31, zks b.2)] [0, 1, 3, 12] zki fun j => ?_
 obtain ⟨q, X, hF⟩ := zky hF
 refine zeC rfl (by kernel_rfl) hO (zj2 X) rfl fun _ σ _ _ hO Y Z => ?_
 have hL := hL.trans Y
 obtain ⟨rfl, rfl⟩ := Z
 have hO : Obs _ _ [] := hO
 refine zc hO [] [(13, zks q)] [0, 1, 3, 12] zkg fun j => ?_
 refine zh (zbn (zb hO 3 [] [(35, .bool (b.2 == 0))] [0, 1, 3, 12, 13] zkh fun j => ?_))
 obtain ⟨b0, b1, hF⟩ := zky hF
 refine zbr 2 (fun e' σ' => ∃ (τ' : Hp), agr [(47, .bool b0), (1, zks g), (12, zks b.2), (13, zks q)] e' ∧ Obs τ' σ' [] ∧ Hp.le τ τ') ?_ ?_
 ·have hF := b1
  rcases zY hF with ⟨h, hF⟩ | ⟨h, hF⟩
  ·refine zQ (zkv h) ?_
   refine zq (zku h) ?_
   refine ze ?_
   cases hF
   refine zf ?_
   exact ⟨rfl, _, zkr zke, hO, hL⟩
  refine zP (zkv h) ?_
  refine zb hO 7 [] [(36, .func (.func 48) #[] #[]), (37, zks q), (39, zkz R p0 S), (40, zks g), (43, zks (IntKind.i64.wrap (g + b.2)))] [1, 12, 13, 35] zkk fun j => ?_
  obtain ⟨c1, b2, hF⟩ := zky hF
  refine zeV (T := Ty.u8) (J.le hL) rfl rfl rfl b2 fun _ c => ?_
  obtain ⟨c2, c3, rfl, -⟩ := c.form
  obtain ⟨c4, b3, hF⟩ := zky hF
  refine zeC rfl (by kernel_rfl) hO (zhP (RdT.nil Ty.u8 _) b3) rfl fun _ σ _ _ hO E b4 => ?_
  have hL := hL.trans E
  have c := c.le E
  obtain ⟨c5, c6, rfl, rfl, G⟩ := b4
  obtain ⟨c7, c8, rfl, -⟩ := G.form
  have hO := zkx1 hO
  obtain ⟨_, I, w, hO⟩ := G.share hO (i := 0) rfl
  have hL := hL.trans I
  have c := c.le I
  have hO := zkx1 hO
  obtain ⟨b5, b6, hF⟩ := zky hF
  refine zu hO (zha w c b6) rfl fun _ σ _ _ hO z b7 => ?_
  have hL := hL.trans z
  have w := w.le z
  have c := c.le z
  obtain ⟨rfl, rfl⟩ := b7
  have hO := zkx1 hO
  refine zZ hO 1 [] [(1, zks g), (12, zks b.2), (13, zks q), (35, .bool (b.2 == 0)), (46, .bool (!b5))] zkg fun j => ?_
  refine zq (zku h) ?_
  refine ze ?_
  cases hF
  refine zf ?_
  have hO := hO.sel []
  exact ⟨rfl, _, zkr zke, hO, hL⟩
 rintro e σ ⟨_, hA, hO, hL⟩
 rw [← zD _ _ hA]
 refine ze (zp hF rfl (fun hF => ?_) fun hF => ?_)
 ·refine zh (zi hO [] [(8, zks 0), (9, zks 0), (10, zks 5)] zke fun j => ?_)
  refine zB ?_
  cases hF
  exact hQ _ _ _ _ _ rfl hO hL ⟨rfl, rfl⟩
 refine zo (zi hO [] [(8, zks q), (9, zks (IntKind.i64.wrap (g + b.2))), (10, zks 0)] zke fun j => ?_)
 refine zJ ?_
 cases hF
 exact hQ _ _ _ _ _ rfl hO hL ⟨rfl, rfl⟩
theorem zj5 {τ : Hp} {g : Value} {p0 : (List UInt8)} {b : Int} (h : RdT Ty.u8 τ g p0) {rr : Int × Int × Int} (hF : zgF p0 b = some rr) :
  Ctr Try.prog 63 #[g, .int .i64 b] τ [] (fun v τ' vs' => v = .tuple #[.int .i64 rr.1, .int .i64 rr.2.1, .int .i64 rr.2.2] ∧ vs' = []) := by
 obtain ⟨q, w, rfl, -⟩ := h.form
 refine zN (args := [.slice q p0.length w, .int .i64 b]) hm Try.func63 s63 rfl fun w0 σ hO Q hQ => ?_
 unfold zgF at hF
 have hL := Hp.le.refl τ
 show wpn _ _ a63.body _ _ _
 unfold a63
 dsimp only
 refine zc hO [] [] [0, 1] zkd fun j => ?_
 refine zZ hO 2 [] [(7, zkz q p0 w), (8, zks b)] zkd fun j => ?_
 obtain ⟨c, z, hF⟩ := zky hF
 refine zu hO (zjN (h.le hL) z) rfl fun _ σ _ _ hO B D => ?_
 have hL := hL.trans B
 obtain ⟨rfl, rfl⟩ := D
 have hO : Obs _ _ [] := hO
 refine zi hO [] [(4, zks c.1), (5, zks c.2.1), (6, zks c.2.2)] zke fun j => ?_
 refine zJ ?_
 cases hF
 exact hQ _ _ _ _ _ rfl hO hL ⟨rfl, rfl⟩
theorem zjv {τ : Hp} {V : Value} {p0 : (List UInt8)} {U : Int} (r0 : RdT Ty.u8 τ V p0) {rr : (List zd) × Int × Int} (hF : zfL p0 U = some rr) :
  Ctr Try.prog 55 #[V, .int .i64 U] τ [] (fun v τ' vs' => ∃ (V : Value), v = .tuple #[V, .int .i64 rr.2.1, .int .i64 rr.2.2] ∧ vs' = [] ∧ RdT zw τ' V rr.1) := by
 obtain ⟨I, J, rfl, -⟩ := r0.form
 refine zN (args := [.slice I p0.length J, .int .i64 U]) hm Try.func55 s55 rfl fun w0 σ hO Q hQ => ?_
 unfold zfL at hF
 have hL := Hp.le.refl τ
 show wpn _ _ a55.body _ _ _
 unfold a55
 dsimp only
 refine zc hO [] [(4, .slice none 0 0)] [0, 1] zke fun j => ?_
 refine zh (zc hO [] [(16, .bool ((decide (U < 0)) || (decide (U > (p0.length : Int)))))] [0, 1, 4] (And.intro (And.intro rfl rfl) (fun _ => zkr zke)) fun j => ?_)
 refine zp hF rfl (fun hF => ?_) fun hF => ?_
 ·refine zh (zi hO [] [(4, .slice none 0 0), (5, zks 0), (6, zks 1)] zke fun j => ?_)
  refine zB ?_
  cases hF
  exact hQ _ _ _ _ _ rfl hO hL ⟨_, rfl, rfl, (RdT.nil _ _)⟩
 refine zo (zb hO 2 [] [(18, zkz I p0 J), (19, zks U)] [0, 4] zkf fun j => ?_)
 obtain ⟨w, h5, hF⟩ := zky hF
 refine zu hO (zet (r0.le hL) h5) rfl fun _ σ _ _ hO h6 h7 => ?_
 have hL := hL.trans h6
 obtain ⟨rfl, rfl⟩ := h7
 have hO : Obs _ _ [] := hO
 refine zc hO [] [(5, zks w.2.1), (6, zks w.2.2), (7, .int .u64 w.1)] [0, 4] zkg fun j => ?_
 refine zh (zc hO [] [(29, .bool ((w.2.2 != 0) || (decide (w.1 > 16))))] [0, 4, 5, 7] (And.intro (And.intro rfl rfl) (fun _ => zkr zkf)) fun j => ?_)
 refine zp hF rfl (fun hF => ?_) fun hF => ?_
 ·refine zh (zi hO [] [(4, .slice none 0 0), (5, zks 0), (6, zks 5)] zke fun j => ?_)
  refine zB ?_
  cases hF
  exact hQ _ _ _ _ _ rfl hO hL ⟨_, rfl, rfl, (RdT.nil _ _)⟩
 refine zo (zh (zc hO [] [(30, .int .u64 w.1), (31, .int .u64 0)] [0, 4, 5] zkg fun j => ?_))
 refine zx ?_
 have hO := hO.no
 have hO := zkx1 hO
 refine z2 (fun (n : Nat) e' σ' => ∃ (z : Option Addr) (B : Nat) (W : Ob) (b : List zd) (h q : Int) (τ' : Hp), agr [(0, zkz I p0 J), (4, zkz z b B), (5, zks h), (30, .int .u64 w.1), (31, .int .u64 q)] e' ∧ Obs τ' σ' [W] ∧ Hp.le τ τ' ∧ zj zw 44 τ' (zkz z b B) b W ∧ zel p0 w n b h q = some rr) big ⟨none, 0, [], [], w.2.1, 0, _, zkr zkf, hO, hL, zj.nil _ _ _, hF⟩ ?_
 clear hF hO hL
 rintro G e σ ⟨z, B, W, b, h, q, _, hA, hO, hL, D, hF⟩
 rw [← zD _ _ hA]
 cases G with
 | zero => exact nomatch (show none = some rr from hF)
 | succ G =>
 replace hF : zfT (zel p0 w G) p0 w b h q = some rr := hF
 unfold zfT at hF
 refine zc hO [] [(32, .bool (decide (q < w.1)))] [0, 4, 5, 30, 31] zkh fun j => ?_
 refine zp hF rfl (fun hF => ?_) fun hF => ?_
 ·refine zo (zx (zh (zc hO [] [(36, .bool (decide (h ≥ (p0.length : Int))))] [0, 4, 5, 30, 31] zkh fun j => ?_)))
  refine zp hF rfl (fun hF => ?_) fun hF => ?_
  ·refine zh (zi hO [] [(4, .slice none 0 0), (5, zks 0), (6, zks 5)] zke fun j => ?_)
   refine zB (zE (zr (zr (zE (zr ?_)))))
   cases hF
   have hO := hO.sel []
   exact hQ _ _ _ _ _ rfl hO hL ⟨_, rfl, rfl, (RdT.nil _ _)⟩
  refine zo (zb hO 2 [] [(37, zkz I p0 J), (38, zks h)] [0, 4, 5, 30, 31] zki fun j => ?_)
  obtain ⟨g, c8, hF⟩ := zky hF
  refine zF (T := Ty.u8) (r0.le hL) hO.base rfl rfl c8 (by decide) fun a91 _ c9 d0 => ?_
  obtain rfl : _ = ([.int .u8 g.toNat] : List Value) := c9
  refine zs rfl (d0.le hO.base).fst ?_
  refine zb hO 1 [] [(41, .agg #[(.int .u8 (g.toNat : Int)), (.int .i64 0)])] [0, 4, 5, 30, 31] zkh fun j => ?_
  refine z6 hO fun b6 σ hO => ?_
  have hO := zkx2 hO
  refine zU hO (i := 1) rfl (off := 0) rfl rfl rfl rfl (Nat.le_of_ble_eq_true rfl) rfl fun σ hO => ?_
  have hO := zkx2 hO
  refine ze (zc hO [] [(5, zks (IntKind.i64.wrap (h + 1)))] [0, 4, 8, 30, 31] zkh fun j => ?_)
  refine zh (zb hO 2 [1] [(45, .int .u8 (g.toNat : Int))] [0, 4, 5, 8, 30, 31] (And.intro (And.intro rfl rfl) zki) fun j => ?_)
  obtain ⟨f0, d5, hF⟩ := zky hF
  refine zu hO (zgQ d5) rfl fun _ σ _ _ hO b7 d6 => ?_
  have hL := hL.trans b7
  have D := D.le b7
  obtain ⟨rfl, rfl⟩ := d6
  have hO := zkx2 hO
  refine ze (zp hF rfl (fun hF => ?_) fun hF => ?_)
  ·refine zh (zb hO 2 [] [(48, zkz I p0 J), (49, zks (IntKind.i64.wrap (h + 1)))] [0, 4, 8, 30, 31] zki fun j => ?_)
   obtain ⟨c, b8, hF⟩ := zky hF
   refine zu hO (zj5 (r0.le hL) b8) rfl fun _ σ _ _ hO X b9 => ?_
   have hL := hL.trans X
   have D := D.le X
   obtain ⟨rfl, rfl⟩ := b9
   have hO := zkx2 hO
   refine zb hO 5 [] [(51, zks c.1), (52, zks c.2.1), (53, zks c.2.2), (54, .pointer (some ⟨b6, 1, none⟩))] [0, 4, 8, 30, 31] zkk fun j => ?_
   refine zU hO (i := 1) rfl (off := 1) rfl rfl rfl rfl (Nat.le_of_ble_eq_true rfl) rfl fun σ hO => ?_
   have hO := zkx2 hO
   refine zi hO [] [(0, zkz I p0 J), (4, zkz z b B), (5, zks c.2.1), (6, zks c.2.2), (8, zkt b6), (30, .int .u64 w.1), (31, .int .u64 q)] zki fun j => ?_
   refine zh (zc hO [] [(56, .bool (c.2.2 != 0))] [0, 4, 5, 8, 30, 31] zki fun j => ?_)
   refine zp hF rfl (fun hF => ?_) fun hF => ?_
   ·refine zh (zi hO [] [(4, .slice none 0 0), (5, zks 0), (6, zks 5)] zke fun j => ?_)
    refine zB (zE (zr (zr (zE (zr ?_)))))
    cases hF
    have hO := hO.sel []
    exact hQ _ _ _ _ _ rfl hO hL ⟨_, rfl, rfl, (RdT.nil _ _)⟩
   refine zo (zy (zb hO 2 [1] [(57, zkz z b B), (58, .agg #[(.int .u8 (g.toNat : Int)), (.int .i64 c.1)])] [0, 5, 30, 31] (And.intro (And.intro rfl rfl) zkh) fun j => ?_))
   obtain ⟨_, b4, hF⟩ := zky hF
   refine zbz (T := zw) (y := (⟨g, c.1⟩ : zd)) hO D (i := 0) rfl rfl (fun _ => rfl) rfl rfl rfl b4 (by decide) fun u _ σ c1 Y hO => ?_
   obtain ⟨Z, b0, rfl, -⟩ := Y.form
   have hO := zkx2 hO
   refine zc hO [] [(4, zkz Z (b ++ [(⟨g, c.1⟩ : zd)]) b0)] [0, 5, 30, 31] zkg fun j => ?_
   refine zf (zM (zg (zy (zc hO [] [(31, .int .u64 (IntKind.u64.wrap (q + 1)))] [0, 4, 5, 30] zkg fun j => ?_))))
   refine zf (zg ?_)
   have hO := hO.sel [0]
   exact ⟨G, Nat.lt_succ_self _, Z, b0, c1, (b ++ [(⟨g, c.1⟩ : zd)]), c.2.1, (IntKind.u64.wrap (q + 1)), _, zkr zkf, hO, hL, Y, hF⟩
  refine zo (zy (zb hO 2 [1] [(57, zkz z b B), (58, .agg #[(.int .u8 (g.toNat : Int)), (.int .i64 0)])] [0, 5, 30, 31] (And.intro (And.intro rfl rfl) zkh) fun j => ?_))
  obtain ⟨_, b5, hF⟩ := zky hF
  refine zbz (T := zw) (y := (⟨g, 0⟩ : zd)) hO D (i := 0) rfl rfl (fun _ => rfl) rfl rfl rfl b5 (by decide) fun u _ σ c2 b1 hO => ?_
  obtain ⟨R, S, rfl, -⟩ := b1.form
  have hO := zkx2 hO
  refine zc hO [] [(4, zkz R (b ++ [(⟨g, 0⟩ : zd)]) S)] [0, 5, 30, 31] zkg fun j => ?_
  refine zf (zM (zg (zy (zi hO [] [(0, zkz I p0 J), (4, zkz R (b ++ [(⟨g, 0⟩ : zd)]) S), (5, zks (IntKind.i64.wrap (h + 1))), (30, .int .u64 w.1), (31, .int .u64 (IntKind.u64.wrap (q + 1)))] zkg fun j => ?_))))
  refine zf (zg ?_)
  have hO := hO.sel [0]
  exact ⟨G, Nat.lt_succ_self _, R, S, c2, (b ++ [(⟨g, 0⟩ : zd)]), (IntKind.i64.wrap (h + 1)), (IntKind.u64.wrap (q + 1)), _, zkr zkf, hO, hL, b1, hF⟩
 refine z0 (z3 (z1 (zg (zh (zb hO 1 [] [(62, zkz z b B)] [4, 5] zke fun j => ?_)))))
 obtain ⟨_, c3, E, hO⟩ := D.share hO (i := 0) rfl
 have hL := hL.trans c3
 have hO := zkx1 hO
 obtain ⟨c5, c6, hF⟩ := zky hF
 refine zu hO (zfU E c6) rfl fun _ σ _ _ hO b2 c7 => ?_
 have hL := hL.trans b2
 have E := E.le b2
 obtain ⟨rfl, rfl⟩ := c7
 have hO := zkx1 hO
 refine zc hO [] [(64, .bool (!c5))] [4, 5] zke fun j => ?_
 refine zp hF rfl (fun hF => ?_) fun hF => ?_
 ·refine zh (zi hO [] [(4, .slice none 0 0), (5, zks 0), (6, zks 5)] zke fun j => ?_)
  refine zB ?_
  cases hF
  have hO := hO.sel []
  exact hQ _ _ _ _ _ rfl hO hL ⟨_, rfl, rfl, (RdT.nil _ _)⟩
 refine zo (zi hO [] [(4, zkz z b B), (5, zks h), (6, zks 0)] zke fun j => ?_)
 refine zJ ?_
 cases hF
 have hO := hO.sel []
 exact hQ _ _ _ _ _ rfl hO hL ⟨_, rfl, rfl, E⟩
theorem ziO {τ : Hp} {S : Value} {p0 : (List UInt8)} {E h : Int} (G : RdT Ty.u8 τ S p0) {rr : za × Int × Bool} (hF : zgu p0 E h = some rr) :
  Ctr Try.prog 39 #[S, .int .i64 E, .int .i64 h] τ [] (fun v τ' vs' => ∃ (w : Value), v = .tuple #[.agg #[.int .i64 rr.1.From, .int .i64 rr.1.To, w], .int .i64 rr.2.1, .bool rr.2.2] ∧ vs' = [] ∧ RdT zw τ' w rr.1.At) := by
 obtain ⟨z, B, rfl, -⟩ := G.form
 refine zN (args := [.slice z p0.length B, .int .i64 E, .int .i64 h]) hm Try.func39 s39 rfl fun w0 σ hO Q hQ => ?_
 unfold zgu at hF
 have hL := Hp.le.refl τ
 show wpn _ _ a39.body _ _ _
 unfold a39
 dsimp only
 refine z6 hO fun D σ hO => ?_
 have hO := zkx1 hO
 refine zc hO [] [] [0, 1, 2, 6] zkf fun j => ?_
 refine zb hO 2 [] [(13, zkz z p0 B), (14, zks E)] [0, 2, 6] zkg fun j => ?_
 obtain ⟨g, h6, hF⟩ := zky hF
 refine zu hO (zet (G.le hL) h6) rfl fun _ σ _ _ hO h7 h8 => ?_
 have hL := hL.trans h7
 obtain ⟨rfl, rfl⟩ := h8
 have hO := zkx1 hO
 refine zc hO [] [(7, zks g.2.1), (9, .int .u64 g.1), (10, zks g.2.2)] [0, 2, 6] zkh fun j => ?_
 refine zh (zc hO [] [(24, .bool ((g.2.2 != 0) || (decide (g.1 > 16777216))))] [0, 2, 6, 7, 9] (And.intro (And.intro rfl rfl) (fun _ => zkr zkg)) fun j => ?_)
 refine zp hF rfl (fun hF => ?_) fun hF => ?_
 ·refine zh (zb hO 1 [0] [(25, .agg #[(.int .i64 0), (.int .i64 0), (.slice none 0 0)])] [6] (And.intro (And.intro rfl rfl) zkd) fun j => ?_)
  refine zU hO (i := 0) rfl (off := 0) rfl rfl rfl rfl (Nat.le_of_ble_eq_true rfl) rfl fun σ hO => ?_
  have hO := zkx1 hO
  refine zc hO [] [(7, zks 0), (8, .bool false)] [6] zke fun j => ?_
  refine zB ?_
  cases hF
  have q := hO.val (i := 0) rfl (off := 0) (agg := true) (n := 3) rfl
  have hO := hO.sel []
  exact hQ _ _ _ _ _ (zds rfl (q) (zc6 (zc6 rfl))) hO hL ⟨_, rfl, rfl, (RdT.nil _ _)⟩
 refine zo (zb hO 2 [] [(27, zkz z p0 B), (28, zks g.2.1)] [0, 2, 6, 9] zkh fun j => ?_)
 obtain ⟨b, U, hF⟩ := zky hF
 refine zu hO (zet (G.le hL) U) rfl fun _ σ _ _ hO V W => ?_
 have hL := hL.trans V
 obtain ⟨rfl, rfl⟩ := W
 have hO := zkx1 hO
 refine zc hO [] [(7, zks b.2.1), (10, zks b.2.2), (11, .int .u64 b.1)] [0, 2, 6, 9] zki fun j => ?_
 refine zh (zc hO [] [(38, .bool ((b.2.2 != 0) || (decide (b.1 > 16777216))))] [0, 2, 6, 7, 9, 11] (And.intro (And.intro rfl rfl) (fun _ => zkr zkh)) fun j => ?_)
 refine zp hF rfl (fun hF => ?_) fun hF => ?_
 ·refine zh (zb hO 1 [0] [(39, .agg #[(.int .i64 0), (.int .i64 0), (.slice none 0 0)])] [6] (And.intro (And.intro rfl rfl) zkd) fun j => ?_)
  refine zU hO (i := 0) rfl (off := 0) rfl rfl rfl rfl (Nat.le_of_ble_eq_true rfl) rfl fun σ hO => ?_
  have hO := zkx1 hO
  refine zi hO [] [(6, zkt D), (7, zks 0), (8, .bool false)] zke fun j => ?_
  refine zB ?_
  cases hF
  have q := hO.val (i := 0) rfl (off := 0) (agg := true) (n := 3) rfl
  have hO := hO.sel []
  exact hQ _ _ _ _ _ (zds rfl (q) (zc6 (zc6 rfl))) hO hL ⟨_, rfl, rfl, (RdT.nil _ _)⟩
 refine zo (zb hO 5 [] [(43, zks (IntKind.i64.wrap (h + (IntKind.i64.wrap g.1)))), (44, zkt D)] [0, 6, 7, 11] zkh fun j => ?_)
 refine zU hO (i := 0) rfl (off := 0) rfl rfl rfl rfl (Nat.le_of_ble_eq_true rfl) rfl fun σ hO => ?_
 have hO := zkx1 hO
 refine ze (zZ hO 6 [0] [(0, zkz z p0 B), (6, zkt D), (7, zks b.2.1), (49, zks (IntKind.i64.wrap ((IntKind.i64.wrap (h + (IntKind.i64.wrap g.1))) + (IntKind.i64.wrap b.1)))), (50, .pointer (some ⟨D, 1, none⟩))] (And.intro (And.intro rfl rfl) zkg) fun j => ?_)
 refine zU hO (i := 0) rfl (off := 1) rfl rfl rfl rfl (Nat.le_of_ble_eq_true rfl) rfl fun σ hO => ?_
 have hO := zkx1 hO
 refine ze (zb hO 2 [] [(52, zkz z p0 B), (53, zks b.2.1)] [6] zke fun j => ?_)
 obtain ⟨c, X, hF⟩ := zky hF
 refine zu hO (zjv (G.le hL) X) rfl fun _ σ _ _ hO Y Z => ?_
 have hL := hL.trans Y
 obtain ⟨b3, rfl, rfl, I⟩ := Z
 obtain ⟨J, R, rfl, -⟩ := I.form
 have hO := zkx1 hO
 refine zb hO 5 [] [(55, zkz J c.1 R), (56, zks c.2.1), (57, zks c.2.2), (58, .pointer (some ⟨D, 2, none⟩))] [6] zkg fun j => ?_
 refine zU hO (i := 0) rfl (off := 2) rfl rfl rfl rfl (Nat.le_of_ble_eq_true rfl) rfl fun σ hO => ?_
 have hO := zkx1 hO
 refine zc hO [] [(7, zks c.2.1), (10, zks c.2.2)] [6] zke fun j => ?_
 refine zb hO 7 [0, 0] [(59, .agg #[(.int .i64 (IntKind.i64.wrap (h + (IntKind.i64.wrap g.1)))), (.int .i64 (IntKind.i64.wrap ((IntKind.i64.wrap (h + (IntKind.i64.wrap g.1))) + (IntKind.i64.wrap b.1)))), (zkz J c.1 R)]), (60, zks c.2.1), (67, .bool ((c.2.2 == 0) && (decide ((IntKind.i64.wrap ((IntKind.i64.wrap (h + (IntKind.i64.wrap g.1))) + (IntKind.i64.wrap b.1))) ≤ 16777216))))] [6] (And.intro (And.intro rfl rfl) (And.intro (And.intro rfl rfl) (And.intro (And.intro rfl rfl) (fun _ => zkr zke)))) fun j => ?_
 refine zU hO (i := 0) rfl (off := 0) rfl rfl rfl rfl (Nat.le_of_ble_eq_true rfl) rfl fun σ hO => ?_
 have hO := zkx1 hO
 refine zc hO [] [(7, zks c.2.1), (8, .bool ((c.2.2 == 0) && (decide ((IntKind.i64.wrap ((IntKind.i64.wrap (h + (IntKind.i64.wrap g.1))) + (IntKind.i64.wrap b.1))) ≤ 16777216))))] [6] zke fun j => ?_
 refine zJ ?_
 cases hF
 have q := hO.val (i := 0) rfl (off := 0) (agg := true) (n := 3) rfl
 have hO := hO.sel []
 exact hQ _ _ _ _ _ (zds rfl (q) (zc6 (zc6 rfl))) hO hL ⟨_, rfl, rfl, I⟩
theorem zil {τ : Hp} {U : Value} {p0 : (List UInt8)} {S : Int} (r0 : RdT Ty.u8 τ U p0) {rr : (List za) × Int × Int} (hF : zfM p0 S = some rr) :
  Ctr Try.prog 20 #[U, .int .i64 S] τ [] (fun v τ' vs' => ∃ (U : Value), v = .tuple #[U, .int .i64 rr.2.1, .int .i64 rr.2.2] ∧ vs' = [] ∧ RdT zk τ' U rr.1) := by
 obtain ⟨V, W, rfl, -⟩ := r0.form
 refine zN (args := [.slice V p0.length W, .int .i64 S]) hm Try.func20 s20 rfl fun w0 σ hO Q hQ => ?_
 unfold zfM at hF
 have hL := Hp.le.refl τ
 show wpn _ _ a20.body _ _ _
 unfold a20
 dsimp only
 refine zc hO [] [(4, .slice none 0 0)] [0, 1] zke fun j => ?_
 refine zh (zc hO [] [(19, .bool ((decide (S < 0)) || (decide (S > (p0.length : Int)))))] [0, 1, 4] (And.intro (And.intro rfl rfl) (fun _ => zkr zke)) fun j => ?_)
 refine zp hF rfl (fun hF => ?_) fun hF => ?_
 ·refine zh (zi hO [] [(4, .slice none 0 0), (5, zks 0), (6, zks 1)] zke fun j => ?_)
  refine zB ?_
  cases hF
  exact hQ _ _ _ _ _ rfl hO hL ⟨_, rfl, rfl, (RdT.nil _ _)⟩
 refine zo (zb hO 2 [] [(21, zkz V p0 W), (22, zks S)] [0, 4] zkf fun j => ?_)
 obtain ⟨g, h5, hF⟩ := zky hF
 refine zu hO (zet (r0.le hL) h5) rfl fun _ σ _ _ hO h6 h7 => ?_
 have hL := hL.trans h6
 obtain ⟨rfl, rfl⟩ := h7
 have hO : Obs _ _ [] := hO
 refine zc hO [] [(5, zks g.2.1), (6, zks g.2.2), (7, .int .u64 g.1)] [0, 4] zkg fun j => ?_
 refine zh (zc hO [] [(32, .bool ((g.2.2 != 0) || (decide (g.1 > 4000))))] [0, 4, 5, 7] (And.intro (And.intro rfl rfl) (fun _ => zkr zkf)) fun j => ?_)
 refine zp hF rfl (fun hF => ?_) fun hF => ?_
 ·refine zh (zi hO [] [(4, .slice none 0 0), (5, zks 0), (6, zks 5)] zke fun j => ?_)
  refine zB ?_
  cases hF
  exact hQ _ _ _ _ _ rfl hO hL ⟨_, rfl, rfl, (RdT.nil _ _)⟩
 refine zo (zc hO [] [(8, zks 0)] [0, 4, 5, 7] zkg fun j => ?_)
 refine zh (zc hO [] [(33, .int .u64 g.1), (34, .int .u64 0)] [0, 4, 5, 8] zkh fun j => ?_)
 refine zx ?_
 have hO := hO.no
 have hO := zkx1 hO
 refine z2 (fun (n : Nat) e' σ' => ∃ (q : Option Addr) (w : Nat) (X : Ob) (c : List za) (z D h : Int) (τ' : Hp), agr [(0, zkz V p0 W), (4, zkz q c w), (5, zks z), (8, zks D), (33, .int .u64 g.1), (34, .int .u64 h)] e' ∧ Obs τ' σ' [X] ∧ Hp.le τ τ' ∧ zj zk 46 τ' (zkz q c w) c X ∧ zeI p0 g n c z D h = some rr) big ⟨none, 0, [], [], g.2.1, 0, 0, _, zkr zkg, hO, hL, zj.nil _ _ _, hF⟩ ?_
 clear hF hO hL
 rintro E e σ ⟨q, w, X, c, z, D, h, _, hA, hO, hL, B, hF⟩
 rw [← zD _ _ hA]
 cases E with
 | zero => exact nomatch (show none = some rr from hF)
 | succ E =>
 replace hF : zfZ (zeI p0 g E) p0 g c z D h = some rr := hF
 unfold zfZ at hF
 refine zc hO [] [(35, .bool (decide (h < g.1)))] [0, 4, 5, 8, 33, 34] zki fun j => ?_
 refine zp hF rfl (fun hF => ?_) fun hF => ?_
 ·refine zo (zx (zb hO 3 [] [(37, zkz V p0 W), (38, zks z), (39, zks D)] [0, 4, 33, 34] zki fun j => ?_))
  obtain ⟨b, b9, hF⟩ := zky hF
  refine zu hO (ziO (r0.le hL) b9) rfl fun _ σ _ _ hO b2 c1 => ?_
  have hL := hL.trans b2
  have B := B.le b2
  obtain ⟨d5, rfl, rfl, G⟩ := c1
  obtain ⟨I, J, rfl, -⟩ := G.form
  have hO := zkx1 hO
  refine zb hO 4 [] [(41, .agg #[(.int .i64 b.1.From), (.int .i64 b.1.To), (zkz I b.1.At J)]), (42, zks b.2.1), (43, .bool b.2.2)] [0, 4, 33, 34] zki fun j => ?_
  refine z6 hO fun c2 σ hO => ?_
  have hO := zkx2 hO
  refine zU hO (i := 1) rfl (off := 0) rfl rfl rfl rfl (Nat.le_of_ble_eq_true rfl) rfl fun σ hO => ?_
  have hO := zkx2 hO
  refine zc hO [] [(10, zks b.2.1), (11, .bool b.2.2)] [0, 4, 9, 33, 34] zki fun j => ?_
  refine zh (zc hO [] [(45, .bool (!b.2.2))] [0, 4, 9, 10, 33, 34] zki fun j => ?_)
  refine zp hF rfl (fun hF => ?_) fun hF => ?_
  ·refine zh (zi hO [] [(4, .slice none 0 0), (5, zks 0), (6, zks 5)] zke fun j => ?_)
   refine zB (zE (zr (zr (zE (zr ?_)))))
   cases hF
   have hO := hO.sel []
   exact hQ _ _ _ _ _ rfl hO hL ⟨_, rfl, rfl, (RdT.nil _ _)⟩
  refine zo (zcL (zb hO 5 [1, 1] [(46, zkz q c w), (47, .agg #[(.int .i64 b.1.From), (.int .i64 b.1.To), (zkz I b.1.At J)]), (50, .pointer (some ⟨c2, 1, none⟩)), (51, zks b.1.To), (52, zks b.2.1)] [0, 33, 34] (And.intro (And.intro rfl rfl) (And.intro (And.intro rfl rfl) zkj)) fun j => ?_))
  refine z8 (zbJ (T := zk) (l := ([(⟨b.1.From, b.1.To, b.1.At⟩ : za)] : List za)) (cs := [.int .i64 b.1.From, .int .i64 b.1.To, zkz I b.1.At J]) hO rfl ⟨[.int .i64 b.1.From, .int .i64 b.1.To, zkz I b.1.At J], _, rfl, ⟨_, rfl, G⟩, rfl⟩ rfl (by decide) fun _ σ d6 b3 hO => ?_)
  obtain ⟨d7, d8, rfl, -⟩ := b3.form
  have hO := zkx3 hO
  refine ze (z7 ⟨(zT rfl (hO.val (i := 1) (off := 1) (agg := false) (n := 1) rfl rfl) rfl), trivial⟩ ?_)
  refine z8 ?_
  obtain ⟨_, Y, c3, hO⟩ := b3.share hO (i := 2) rfl
  have hL := hL.trans Y
  have B := B.le Y
  have G := G.le Y
  have hO := zkx3 hO
  obtain ⟨_, b6, hF⟩ := zky hF
  refine zc3 (T := zk) hO B (i := 0) rfl rfl rfl c3 b6 (by decide) fun _ σ c5 b4 hO => ?_
  obtain ⟨Z, b0, rfl, -⟩ := b4.form
  have hO := zkx3 hO
  refine ze (z7 ⟨(zT rfl (hO.val (i := 1) (off := 1) (agg := false) (n := 1) rfl rfl) rfl), trivial⟩ ?_)
  refine z8 (zc hO [] [(4, zkz Z (c ++ ([(⟨b.1.From, b.1.To, b.1.At⟩ : za)] : List za)) b0)] [0, 33, 34, 50, 51, 52] zki fun j => ?_)
  refine z7 ⟨(zT rfl (hO.val (i := 1) (off := 1) (agg := false) (n := 1) rfl rfl) rfl), trivial⟩ ?_
  refine zc hO [] [(5, zks b.2.1), (8, zks b.1.To)] [0, 4, 33, 34] zkh fun j => ?_
  refine zf (zM (zg (zy (zi hO [] [(0, zkz V p0 W), (4, zkz Z (c ++ ([(⟨b.1.From, b.1.To, b.1.At⟩ : za)] : List za)) b0), (5, zks b.2.1), (8, zks b.1.To), (33, .int .u64 g.1), (34, .int .u64 (IntKind.u64.wrap (h + 1)))] zkh fun j => ?_))))
  refine zf (zg ?_)
  have hO := hO.sel [0]
  exact ⟨E, Nat.lt_succ_self _, Z, b0, c5, (c ++ ([(⟨b.1.From, b.1.To, b.1.At⟩ : za)] : List za)), b.2.1, b.1.To, (IntKind.u64.wrap (h + 1)), _, zkr zkg, hO, hL, b4, hF⟩
 refine z0 (z3 (z1 (zg (zh (zb hO 1 [] [(54, zkz q c w)] [4, 5] zke fun j => ?_)))))
 obtain ⟨_, c6, R, hO⟩ := B.share hO (i := 0) rfl
 have hL := hL.trans c6
 have hO := zkx1 hO
 obtain ⟨c7, b7, hF⟩ := zky hF
 refine zu hO (zgs R b7) rfl fun _ σ _ _ hO b1 b8 => ?_
 have hL := hL.trans b1
 have R := R.le b1
 obtain ⟨rfl, rfl⟩ := b8
 have hO := zkx1 hO
 refine zc hO [] [(56, .bool (!c7))] [4, 5] zke fun j => ?_
 refine zp hF rfl (fun hF => ?_) fun hF => ?_
 ·refine zh (zi hO [] [(4, .slice none 0 0), (5, zks 0), (6, zks 5)] zke fun j => ?_)
  refine zB ?_
  cases hF
  have hO := hO.sel []
  exact hQ _ _ _ _ _ rfl hO hL ⟨_, rfl, rfl, (RdT.nil _ _)⟩
 refine zo (zi hO [] [(4, zkz q c w), (5, zks z), (6, zks 0)] zke fun j => ?_)
 refine zJ ?_
 cases hF
 have hO := hO.sel []
 exact hQ _ _ _ _ _ rfl hO hL ⟨_, rfl, rfl, R⟩
theorem zfX {τ : Hp} {c : Value} {p0 : (List zd)} (h : RdT zw τ c p0) {rr : (List zd)} (hF : zcy p0 = some rr) :
  Ctr Try.prog 42 #[c] τ [] (fun v τ' vs' => ∃ (c : Value) (q : Ob), v = c ∧ vs' = [q] ∧ zj zw 44 τ' c rr q) := by
 obtain ⟨b, g, rfl, -⟩ := h.form
 refine zN (args := [.slice b p0.length g]) hm Try.func42 s42 rfl fun w0 σ hO Q hQ => ?_
 unfold zcy at hF
 obtain ⟨_, hr, hF⟩ := zky hF
 injection hF with hF
 subst hF
 have hL := Hp.le.refl τ
 show wpn _ _ a42.body _ _ _
 unfold a42
 dsimp only
 refine zi hO [] [(0, zkz b p0 g)] zkc fun j => ?_
 refine zh (zi hO [] [(0, zkz b p0 g), (4, .bool b.isNone)] zkd fun j => ?_)
 rcases (Bool.eq_false_or_eq_true b.isNone).symm with hA | hA
 ·refine zbM (zku hA) ?_
  refine zo (zbJ (T := zw) (l := []) (cs := []) hO rfl rfl rfl (by decide) fun _ σ o1 w1 hO => ?_)
  obtain ⟨w, z, rfl, -⟩ := w1.form
  refine zZ hO 1 [] [(5, .slice w 0 z), (6, zkz b p0 g)] zkd fun j => ?_
  refine zc3 (T := zw) hO w1 (i := 0) rfl rfl rfl h (by simpa using hr) (by decide) fun _ σ o2 B hO => ?_
  refine zi hO [] [(2, _)] zkc fun j => ?_
  refine zJ ?_
  exact hQ _ _ _ _ _ rfl hO hL ⟨_, _, rfl, rfl, B⟩
 refine zbO (zku hA) ?_
 have := h.empty (by decide) hA
 subst this
 refine zh (zi hO [] [(2, .slice none 0 0)] zkc fun j => ?_)
 refine zB ?_
 have hO := hO.no
 exact hQ _ _ _ _ _ rfl hO hL ⟨_, _, rfl, rfl, zj.nil _ _ _⟩
theorem zhH {τ : Hp} {q : Value} {p0 : (List za)} {c : Int} (G : RdT zk τ q p0) {rr : (List zd)} (hF : zdA p0 c = some rr) :
  Ctr Try.prog 22 #[q, .int .i64 c] τ [] (fun v τ' vs' => ∃ (q : Value) (I : Ob), v = q ∧ vs' = [I] ∧ zj zw 44 τ' q rr I) := by
 obtain ⟨D, E, rfl, -⟩ := G.form
 refine zN (args := [.slice D p0.length E, .int .i64 c]) hm Try.func22 s22 rfl fun w0 σ hO Q hQ => ?_
 unfold zdA at hF
 have hL := Hp.le.refl τ
 show wpn _ _ a22.body _ _ _
 unfold a22
 dsimp only
 refine zc hO [] [] [0, 1] zkd fun j => ?_
 refine zh (zc hO [] [(7, zkz D p0 E), (8, zks (p0.length : Int)), (9, zks 0)] [1] zkf fun j => ?_)
 refine zx (z2 (fun (n : Nat) e' σ' => ∃ (b : Int) (τ' : Hp), agr [(1, zks c), (7, zkz D p0 E), (8, zks (p0.length : Int)), (9, zks b)] e' ∧ Obs τ' σ' [] ∧ Hp.le τ τ' ∧ zdT p0 c n b = some rr) big ⟨0, _, zkr zke, hO, hL, hF⟩ ?_)
 clear hF hO hL
 rintro g e σ ⟨b, _, hA, hO, hL, hF⟩
 rw [← zD _ _ hA]
 cases g with
 | zero => exact nomatch (show none = some rr from hF)
 | succ g =>
 replace hF : zd2 (zdT p0 c g) p0 c b = some rr := hF
 unfold zd2 at hF
 refine zc hO [] [(10, .bool (decide (b < (p0.length : Int))))] [1, 7, 8, 9] zkg fun j => ?_
 refine zp hF rfl (fun hF => ?_) fun hF => ?_
 ·refine zo (zx ?_)
  obtain ⟨w, J, hF⟩ := zky hF
  refine zF (T := zk) (G.le hL) hO.base rfl rfl J (by decide) fun a50 _ R S => ?_
  obtain ⟨b1, rfl, h⟩ := R
  obtain ⟨U, V, rfl, -⟩ := h.form
  refine zs rfl ((S.le hO.base).all rfl) ?_
  refine z6 hO fun b2 σ hO => ?_
  have hO := zkx1 hO
  refine zU hO (i := 0) rfl (off := 0) rfl rfl rfl rfl (Nat.le_of_ble_eq_true rfl) rfl fun σ hO => ?_
  have hO := zkx1 hO
  refine ze (zc hO [0, 0] [(22, .bool ((decide (w.From ≤ c)) && (decide (c < w.To))))] [1, 6, 7, 8, 9] (And.intro (And.intro rfl rfl) (And.intro (And.intro rfl rfl) (And.intro (And.intro rfl rfl) (fun _ => zkr zkg)))) fun j => ?_)
  refine zba (zp hF rfl (fun hF => ?_) fun hF => ?_)
  ·refine zh (zZ hO 2 [0] [(24, zkz U w.At V)] (And.intro (And.intro rfl rfl) zkc) fun j => ?_)
   obtain ⟨W, X, hF⟩ := zky hF
   refine zu hO (zfX h X) rfl fun _ σ _ _ hO z Y => ?_
   have hL := hL.trans z
   have h := h.le z
   obtain ⟨b3, b4, rfl, rfl, B⟩ := Y
   obtain ⟨Z, b0, rfl, -⟩ := B.form
   have hO := zkx2 hO
   refine zi hO [] [(4, zkz Z W b0)] zkc fun j => ?_
   refine zB (zE (zr (zr (zE (zr ?_)))))
   cases hF
   have hO := hO.sel [1]
   exact hQ _ _ _ _ _ rfl hO hL ⟨_, _, rfl, rfl, B⟩
  refine zo (zf (zM (zg (zy (zc hO [] [(9, zks (IntKind.i64.wrap (b + 1)))] [1, 7, 8] zkf fun j => ?_)))))
  refine zf (zg ?_)
  have hO := hO.sel []
  exact ⟨g, Nat.lt_succ_self _, (IntKind.i64.wrap (b + 1)), _, zkr zke, hO, hL, hF⟩
 refine z0 (z3 (z1 (zg (zi hO [] [(4, .slice none 0 0)] zkc fun j => ?_))))
 refine zJ ?_
 have hO := hO.no
 have hO := zkx1 hO
 cases hF
 exact hQ _ _ _ _ _ rfl hO hL ⟨_, _, rfl, rfl, (zj.nil _ _ _)⟩
theorem zfR {τ : Hp} {p0 : za} {b : Value} (c : RdT zw τ b p0.At) {rr : za} (hF : zcD p0 = some rr) :
  Ctr Try.prog 43 #[.agg #[.int .i64 p0.From, .int .i64 p0.To, b]] τ [] (fun v τ' vs' => ∃ (b : Value), v = .agg #[.int .i64 rr.From, .int .i64 rr.To, b] ∧ vs' = [] ∧ RdT zw τ' b rr.At) := by
 obtain ⟨g, h, rfl, -⟩ := c.form
 refine zN (args := [.agg #[.int .i64 p0.From, .int .i64 p0.To, (.slice g p0.At.length h)]]) hm Try.func43 s43 rfl fun w0 σ hO Q hQ => ?_
 unfold zcD at hF
 have hL := Hp.le.refl τ
 show wpn _ _ a43.body _ _ _
 unfold a43
 dsimp only
 refine zb7 (n := 3) hO rfl rfl fun E σ hO => ?_
 have hO := zkx1 hO
 refine z6 hO fun V σ hO => ?_
 have hO := zkx2 hO
 refine ze (zb hO 2 [0] [(4, zkz g p0.At h)] [1, 2] (And.intro (And.intro rfl rfl) zke) fun j => ?_)
 obtain ⟨G, I, hF⟩ := zky hF
 refine zu hO (zfX (c.le hL) I) rfl fun _ σ _ _ hO J R => ?_
 have hL := hL.trans J
 obtain ⟨W, U, rfl, rfl, q⟩ := R
 obtain ⟨S, w, rfl, -⟩ := q.form
 have hO := zkx3 hO
 refine zb hO 1 [] [(6, .pointer (some ⟨E, 2, none⟩))] [1, 2, 5] zkf fun j => ?_
 refine zU hO (i := 0) rfl (off := 2) rfl rfl rfl rfl (Nat.le_of_ble_eq_true rfl) rfl fun σ hO => ?_
 have hO := zkx3 hO
 refine ze (zb hO 1 [0] [(7, .agg #[(.int .i64 p0.From), (.int .i64 p0.To), (zkz S G w)])] [2] (And.intro (And.intro rfl rfl) zkd) fun j => ?_)
 refine zU hO (i := 1) rfl (off := 0) rfl rfl rfl rfl (Nat.le_of_ble_eq_true rfl) rfl fun σ hO => ?_
 have hO := zkx3 hO
 refine ze (zJ ?_)
 obtain ⟨_, z, B, hO⟩ := q.share hO (i := 2) rfl
 have hL := hL.trans z
 have hO := zkx3 hO
 cases hF
 have D := hO.val (i := 1) rfl (off := 0) (agg := true) (n := 3) rfl
 have hO := hO.sel []
 exact hQ _ _ _ _ _ (zds rfl (D) rfl) hO hL ⟨_, rfl, rfl, B⟩
theorem zjb {w0 : Base} {l : Nat} {rec : Loop} (hl : w0.hid l = some (.loop rec)) (f0 : w0.heap.size ≤ l) {τ : Hp} {c7 : (List za)} {G : Nat} {vm0_0_0 : Value} {om0_0_0 : Ob} {c : (List za)} {d7 : Value} {f1 : Addr} {I : Int} {b1 : Addr} {B : Int} {b2 : Addr} {σ : Hp} (hy : ∀ {τ : Hp} {p0 : za} {f2 : Value} {c : (List za)} {vq : Value} {oq : Ob}, ∀ {rr : Bool × (List za)}, zcw p0 c = some rr → RdT zw τ f2 p0.At → zj zk 46 τ vq c oq → YC Try.prog l rec #[.agg #[.int .i64 p0.From, .int .i64 p0.To, f2]] τ [[(G, ⟨[vq], 23, 1, true⟩)], oq] (fun v τ' vs' => ∃ (u : Value) (y : Ob), v = .bool rr.1 ∧ vs' = [[(G, ⟨[u], 23, 1, true⟩)], y] ∧ zj zk 46 τ' u rr.2 y)) (wm0_0_0 : zj zk 46 τ vm0_0_0 c7 om0_0_0) (d8 : RdT zk τ d7 c) (i0 : At τ f1 [d7]) (i1 : At τ b1 [.int .i64 I]) (f7 : At τ b2 [.int .i64 B]) {rr : (List za)} (hF : zeS c7 c I B = some rr) (hO : Obs τ σ [[(G, ⟨[vm0_0_0], 23, 1, true⟩)], om0_0_0]) :
  ACalls Try.prog w0 58 #[.func (.yield l) #[] #[], .pointer (some f1), .pointer (some b1), .pointer (some b2)] σ (fun v σ' => ∃ τ' vs', Obs τ' σ' vs' ∧ Hp.le τ τ' ∧ ((fun v τ' vs' => ∃ (f3 : Value) (f4 : Ob), v = .tuple #[] ∧ vs' = [[(G, ⟨[f3], 23, 1, true⟩)], f4] ∧ zj zk 46 τ' f3 rr f4)) v τ' vs') zbg := by
 obtain ⟨Am0_0_0, cm0_0_0, rfl, -⟩ := wm0_0_0.form
 obtain ⟨Z, b0, rfl, -⟩ := d8.form
 refine zhe (args := [.func (.yield l) #[] #[], .pointer (some f1), .pointer (some b1), .pointer (some b2)]) hm Try.func58 s58 rfl fun Q i2 => ?_
 have hQ := fun e σ' rs τ' vs' h1 h2 h3 h4 => i2 e σ' rs h1 ⟨τ', vs', h2, h3, h4⟩
 unfold zeS at hF
 have hL := Hp.le.refl τ
 show wpn _ _ a58.body _ _ _
 unfold a58
 dsimp only
 refine zs rfl ((i0.le hL).le hO.base).fst ?_
 refine zc hO [] [(10, zks (c.length : Int)), (11, zks 0)] [0, 2, 3, 9] zkh fun j => ?_
 refine zcp (zx (z2 (fun (n : Nat) e' σ' => ∃ (b4 : Option Addr) (b5 : Nat) (b6 : Ob) (S : List za) (g : Int) (τ' : Hp), agr [(0, .func (.yield l) #[] #[]), (2, .pointer (some b1)), (3, .pointer (some b2)), (9, zkz Z c b0), (10, zks (c.length : Int)), (11, zks g)] e' ∧ Obs τ' σ' [[(G, ⟨[zkz b4 S b5], 23, 1, true⟩)], b6] ∧ Hp.le τ τ' ∧ zj zk 46 τ' (zkz b4 S b5) S b6 ∧ zca c I B n S g = some rr) big ⟨Am0_0_0, cm0_0_0, om0_0_0, c7, 0, _, zkr zkg, hO, hL, (wm0_0_0.le hL), hF⟩ ?_))
 clear hF hO hL
 rintro D e σ ⟨b4, b5, b6, S, g, _, hA, hO, hL, d9, hF⟩
 rw [← zD _ _ hA]
 cases D with
 | zero => exact nomatch (show none = some rr from hF)
 | succ D =>
 replace hF : zc9 (zca c I B D) c I B S g = some rr := hF
 unfold zc9 at hF
 refine zc hO [] [(12, .bool (decide (g < (c.length : Int))))] [0, 2, 3, 9, 10, 11] zki fun j => ?_
 refine zp hF rfl (fun hF => ?_) fun hF => ?_
 ·refine zo (zx ?_)
  obtain ⟨b, f8, hF⟩ := zky hF
  refine zF (T := zk) (d8.le hL) hO.base rfl rfl f8 (by decide) fun a137 _ f9 g0 => ?_
  obtain ⟨i7, rfl, J⟩ := f9
  obtain ⟨w, z, rfl, -⟩ := J.form
  refine zs rfl ((g0.le hO.base).all rfl) ?_
  refine z6 hO fun c8 σ hO => ?_
  have hO := zkx3 hO
  refine zU hO (i := 2) rfl (off := 0) rfl rfl rfl rfl (Nat.le_of_ble_eq_true rfl) rfl fun σ hO => ?_
  have hO := zkx3 hO
  refine ze (zh (zc hO [2, 2] [(19, .bool (decide (b.From ≥ b.To)))] [0, 2, 3, 6, 9, 10, 11] (And.intro (And.intro rfl rfl) (And.intro (And.intro rfl rfl) zkj)) fun j => ?_))
  refine zp hF rfl (fun hF => ?_) fun hF => ?_
  ·refine z0 (z1 (zg (zy (zc hO [] [(11, zks (IntKind.i64.wrap (g + 1)))] [0, 2, 3, 9, 10] zkh fun j => ?_))))
   refine zf (zg ?_)
   have hO := hO.sel [0, 1]
   exact ⟨D, Nat.lt_succ_self _, b4, b5, b6, S, (IntKind.i64.wrap (g + 1)), _, zkr zkg, hO, hL, d9, hF⟩
  refine zo (zeU (zc hO [2] [(20, .agg #[(.int .i64 b.From), (.int .i64 b.To), (zkz w b.At z)])] [0, 2, 3, 6, 9, 10, 11] (And.intro (And.intro rfl rfl) zkj) fun j => ?_))
  refine zeU (zc hO [2] [(21, .agg #[(.int .i64 b.From), (.int .i64 b.To), (zkz w b.At z)])] [0, 2, 3, 6, 9, 10, 11, 20] (And.intro (And.intro rfl rfl) zkk) fun j => ?_)
  refine zfW (fun e' σ' => ∃ (b7 : Option Addr) (b8 : Nat) (b9 : Ob) (X : List za) (c0 b3 : Nat) (τ' : Hp), agr [(0, .func (.yield l) #[] #[]), (2, .pointer (some b1)), (3, .pointer (some b2)), (6, zkt c8), (7, zkt c0), (8, zkt b3), (9, zkz Z c b0), (10, zks (c.length : Int)), (11, zks g)] e' ∧ Obs τ' σ' [[(G, ⟨[zkz b7 X b8], 23, 1, true⟩)], b9, zbT c8 b.From b.To (zkz w b.At z), zbT c0 b.From b.To (zkz w b.At z), zbT b3 b.From b.To (zkz w b.At z)] ∧ Hp.le τ τ' ∧ zj zk 46 τ' (zkz b7 X b8) X b9 ∧ RdT zw τ' (zkz w b.At z) b.At ∧ RdT zw τ' (zkz w b.At z) b.At ∧ RdT zw τ' (zkz w b.At z) b.At ∧ zeW (zca c I B D) I B g b X = some rr) ?_ ?_
  ·refine zhB (zhx ?_ ?_)
   ·refine zbp (z8 (z6 hO fun c9 σ hO => ?_))
    have hO := zkx4 hO
    refine ze (z7 ⟨(zT rfl (hO.val (i := 2) (off := 0) (agg := true) (n := 3) rfl rfl) rfl), (zT rfl (hO.val (i := 2) (off := 0) (agg := true) (n := 3) rfl rfl) rfl), trivial⟩ ?_)
    refine ze (zbp (z8 (z6 hO fun d0 σ hO => ?_)))
    have hO := zkx5 hO
    refine ze (z7 ⟨(zT rfl (hO.val (i := 2) (off := 0) (agg := true) (n := 3) rfl rfl) rfl), (zT rfl (hO.val (i := 2) (off := 0) (agg := true) (n := 3) rfl rfl) rfl), trivial⟩ ?_)
    refine ze (zbp (z8 (zU hO (i := 3) rfl (off := 0) rfl rfl rfl rfl (Nat.le_of_ble_eq_true rfl) rfl fun σ hO => ?_)))
    have hO := zkx5 hO
    refine ze (z7 ⟨(zT rfl (hO.val (i := 2) (off := 0) (agg := true) (n := 3) rfl rfl) rfl), trivial⟩ ?_)
    refine ze (zbp (zU hO (i := 4) rfl (off := 0) rfl rfl rfl rfl (Nat.le_of_ble_eq_true rfl) rfl fun σ hO => ?_))
    have hO := zkx5 hO
    refine ze (zeZ (zf (zg ?_)))
    exact ⟨b4, b5, b6, S, c9, d0, _, zkr zkj, hO, hL, d9, J, J, J, hF⟩
   refine zbp (z8 (z6 hO fun d0 σ hO => ?_))
   have hO := zkx4 hO
   refine ze (z7 ⟨(zT rfl (hO.val (i := 2) (off := 0) (agg := true) (n := 3) rfl rfl) rfl), (zT rfl (hO.val (i := 2) (off := 0) (agg := true) (n := 3) rfl rfl) rfl), trivial⟩ ?_)
   refine ze (zbp (z8 (z6 hO fun c9 σ hO => ?_)))
   have hO := zkx5 hO
   refine ze (z7 ⟨(zT rfl (hO.val (i := 2) (off := 0) (agg := true) (n := 3) rfl rfl) rfl), (zT rfl (hO.val (i := 2) (off := 0) (agg := true) (n := 3) rfl rfl) rfl), trivial⟩ ?_)
   refine ze (zbp (z8 (zU hO (i := 4) rfl (off := 0) rfl rfl rfl rfl (Nat.le_of_ble_eq_true rfl) rfl fun σ hO => ?_)))
   have hO := zkx5 hO
   refine ze (z7 ⟨(zT rfl (hO.val (i := 2) (off := 0) (agg := true) (n := 3) rfl rfl) rfl), trivial⟩ ?_)
   refine ze (zbp (zU hO (i := 3) rfl (off := 0) rfl rfl rfl rfl (Nat.le_of_ble_eq_true rfl) rfl fun σ hO => ?_))
   have hO := zkx5 hO
   refine ze (zeZ (zf (zg ?_)))
   have hO := hO.sel [0, 1, 2, 4, 3]
   exact ⟨b4, b5, b6, S, c9, d0, _, zkr zkj, hO, hL, d9, J, J, J, hF⟩
  rintro e σ ⟨b7, b8, b9, X, c0, b3, _, hA, hO, hL, c1, Y, R, E, hF⟩
  rw [← zD _ _ hA]
  unfold zeW at hF
  refine zbn (zb hO 2 [2] [(23, zks b.To)] [0, 2, 3, 6, 7, 8, 9, 10, 11] (And.intro (And.intro rfl rfl) zkl) fun j => ?_)
  refine zs rfl ((i1.le hL).le hO.base).fst ?_
  refine zb hO 3 [2] [(25, zks (zW b.To I)), (26, zkt c8), (27, zks b.From)] [0, 2, 3, 7, 8, 9, 10, 11] (And.intro (And.intro rfl rfl) zkm) fun j => ?_
  refine zs rfl ((f7.le hL).le hO.base).fst ?_
  refine zb hO 2 [] [(29, zks (zS b.From B)), (30, .pointer (some ⟨c0, 1, none⟩))] [0, 2, 3, 7, 8, 9, 10, 11, 25, 26, 27, 28] zkp fun j => ?_
  refine z8 (zU hO (i := 3) rfl (off := 1) rfl rfl rfl rfl (Nat.le_of_ble_eq_true rfl) rfl fun σ hO => ?_)
  have hO := zkx5 hO
  refine ze (z7 ⟨(zT rfl ((f7.le hL).le hO.base).fst rfl), (zT rfl (hO.val (i := 2) (off := 0) (agg := false) (n := 1) rfl rfl) rfl), trivial⟩ ?_)
  refine zb hO 1 [] [(31, zkt b3)] [0, 2, 3, 7, 8, 9, 10, 11, 29] zkl fun j => ?_
  refine zU hO (i := 4) rfl (off := 0) rfl rfl rfl rfl (Nat.le_of_ble_eq_true rfl) rfl fun σ hO => ?_
  have hO := zkx5 hO
  refine ze (zb hO 6 [3, 3] [(37, .bool (decide (b.From < (zW b.To I))))] [0, 2, 3, 7, 8, 9, 10, 11] (And.intro (And.intro rfl rfl) (And.intro (And.intro rfl rfl) zkk)) fun j => ?_)
  rcases zY hF with ⟨U, hF⟩ | ⟨U, hF⟩
  ·refine zP (zkw U) ?_
   refine zb hO 2 [3] [(38, .func (.yield l) #[] #[]), (39, .agg #[(.int .i64 b.From), (.int .i64 (zW b.To I)), (zkz w b.At z)])] [0, 2, 3, 8, 9, 10, 11, 37] (And.intro (And.intro rfl rfl) zkl) fun j => ?_
   obtain ⟨c2, g1, hF⟩ := zky hF
   have hO := hO.sel [2, 3, 4, 0, 1]
   refine zc2 (hs := [_, _, _]) rfl hl f0 hO (hy g1 R c1) rfl fun _ σ _ _ hO c3 g2 => ?_
   have hL := hL.trans c3
   have R := R.le c3
   have Y := Y.le c3
   have E := E.le c3
   obtain ⟨i8, g3, rfl, rfl, c4⟩ := g2
   obtain ⟨g4, g5, rfl, -⟩ := c4.form
   have hO := zkx5 hO
   refine zb hO 1 [] [(41, .bool (!c2.1))] [0, 2, 3, 8, 9, 10, 11, 37] zkk fun j => ?_
   refine zq (zku U) ?_
   refine zb hO 1 [] [(43, .bool (!c2.1))] [0, 2, 3, 8, 9, 10, 11] zkj fun j => ?_
   rcases zY hF with ⟨h, hF⟩ | ⟨h, hF⟩
   ·refine zQ (zkv h) ?_
    refine zQ rfl ?_
    refine zQ (zkv h) ?_
    refine zq (zku h) ?_
    refine ze (zba (zbO rfl ?_))
    refine zB (zE (zr (zr (zE (zr ?_)))))
    cases hF
    have hO := hO.sel [3, 4]
    exact (hQ _ _ _ _ _ rfl hO hL ⟨_, _, rfl, rfl, c4⟩).1
   refine zP (zkv h) ?_
   refine zZ hO 6 [2, 2] [(0, .func (.yield l) #[] #[]), (2, .pointer (some b1)), (3, .pointer (some b2)), (8, zkt b3), (9, zkz Z c b0), (10, zks (c.length : Int)), (11, zks g), (43, .bool (!c2.1)), (49, .bool (decide ((zS b.From B) < b.To)))] (And.intro (And.intro rfl rfl) (And.intro (And.intro rfl rfl) zkk)) fun j => ?_
   rcases zY hF with ⟨V, hF⟩ | ⟨V, hF⟩
   ·refine zP (zkw V) ?_
    refine zb hO 2 [2] [(50, .func (.yield l) #[] #[]), (51, .agg #[(.int .i64 (zS b.From B)), (.int .i64 b.To), (zkz w b.At z)])] [0, 2, 3, 9, 10, 11, 43, 49] (And.intro (And.intro rfl rfl) zkl) fun j => ?_
    obtain ⟨f5, g6, hF⟩ := zky hF
    refine zc2 (hs := [_, _, _]) rfl hl f0 hO (hy g6 E c4) rfl fun _ σ _ _ hO c5 g7 => ?_
    have hL := hL.trans c5
    have E := E.le c5
    have Y := Y.le c5
    have R := R.le c5
    obtain ⟨i9, g8, rfl, rfl, d5⟩ := g7
    obtain ⟨g9, h0, rfl, -⟩ := d5.form
    have hO := zkx5 hO
    refine zb hO 1 [] [(53, .bool (!f5.1))] [0, 2, 3, 9, 10, 11, 43, 49] zkk fun j => ?_
    refine zP (zkv h) ?_
    refine zq (zku V) ?_
    refine zq (zku h) ?_
    refine ze (zba (zp hF rfl (fun hF => ?_) fun hF => ?_))
    ·refine zB (zE (zr (zr (zE (zr ?_)))))
     cases hF
     have hO := hO.sel [3, 4]
     exact (hQ _ _ _ _ _ rfl hO hL ⟨_, _, rfl, rfl, d5⟩).1
    refine zo (zf (zM (zg (zy (zc hO [] [(11, zks (IntKind.i64.wrap (g + 1)))] [0, 2, 3, 9, 10] zkh fun j => ?_)))))
    refine zf (zg ?_)
    have hO := hO.sel [3, 4]
    exact ⟨D, Nat.lt_succ_self _, g9, h0, g8, f5.2, (IntKind.i64.wrap (g + 1)), _, zkr zkg, hO, hL, d5, hF⟩
   refine zQ (zkw V) ?_
   refine zP (zkv h) ?_
   refine zq (zku V) ?_
   refine zq (zku h) ?_
   refine ze (zba (zbM rfl ?_))
   refine zo (zf (zM (zg (zy (zc hO [] [(11, zks (IntKind.i64.wrap (g + 1)))] [0, 2, 3, 9, 10] zkh fun j => ?_)))))
   refine zf (zg ?_)
   have hO := hO.sel [3, 4]
   exact ⟨D, Nat.lt_succ_self _, g4, g5, g3, c2.2, (IntKind.i64.wrap (g + 1)), _, zkr zkg, hO, hL, c4, hF⟩
  refine zQ (zkw U) ?_
  refine zq (zku U) ?_
  refine zb hO 1 [] [(43, .bool false)] [0, 2, 3, 8, 9, 10, 11] zkj fun j => ?_
  rcases zY hF with ⟨q, hF⟩ | ⟨q, hF⟩
  ·refine zQ (zkv q) ?_
   refine zQ rfl ?_
   refine zQ (zkv q) ?_
   refine zq (zku q) ?_
   refine ze (zba (zbO rfl ?_))
   refine zB (zE (zr (zr (zE (zr ?_)))))
   cases hF
   have hO := hO.sel [0, 1]
   exact (hQ _ _ _ _ _ rfl hO hL ⟨_, _, rfl, rfl, c1⟩).1
  refine zP (zkv q) ?_
  refine zb hO 6 [4, 4] [(49, .bool (decide ((zS b.From B) < b.To)))] [0, 2, 3, 8, 9, 10, 11, 43] (And.intro (And.intro rfl rfl) (And.intro (And.intro rfl rfl) zkk)) fun j => ?_
  rcases zY hF with ⟨W, hF⟩ | ⟨W, hF⟩
  ·refine zP (zkw W) ?_
   refine zb hO 2 [4] [(50, .func (.yield l) #[] #[]), (51, .agg #[(.int .i64 (zS b.From B)), (.int .i64 b.To), (zkz w b.At z)])] [0, 2, 3, 9, 10, 11, 43, 49] (And.intro (And.intro rfl rfl) zkl) fun j => ?_
   obtain ⟨f6, h5, hF⟩ := zky hF
   have hO := hO.sel [2, 3, 4, 0, 1]
   refine zc2 (hs := [_, _, _]) rfl hl f0 hO (hy h5 E c1) rfl fun _ σ _ _ hO c6 h6 => ?_
   have hL := hL.trans c6
   have E := E.le c6
   have Y := Y.le c6
   have R := R.le c6
   obtain ⟨j0, h7, rfl, rfl, d6⟩ := h6
   obtain ⟨h8, h9, rfl, -⟩ := d6.form
   have hO := zkx5 hO
   refine zZ hO 1 [] [(0, .func (.yield l) #[] #[]), (2, .pointer (some b1)), (3, .pointer (some b2)), (9, zkz Z c b0), (10, zks (c.length : Int)), (11, zks g), (43, .bool false), (49, .bool (decide ((zS b.From B) < b.To))), (53, .bool (!f6.1))] zkk fun j => ?_
   refine zP (zkv q) ?_
   refine zq (zku W) ?_
   refine zq (zku q) ?_
   refine ze (zba (zp hF rfl (fun hF => ?_) fun hF => ?_))
   ·refine zB (zE (zr (zr (zE (zr ?_)))))
    cases hF
    have hO := hO.sel [3, 4]
    exact (hQ _ _ _ _ _ rfl hO hL ⟨_, _, rfl, rfl, d6⟩).1
   refine zo (zf (zM (zg (zy (zc hO [] [(11, zks (IntKind.i64.wrap (g + 1)))] [0, 2, 3, 9, 10] zkh fun j => ?_)))))
   refine zf (zg ?_)
   have hO := hO.sel [3, 4]
   exact ⟨D, Nat.lt_succ_self _, h8, h9, h7, f6.2, (IntKind.i64.wrap (g + 1)), _, zkr zkg, hO, hL, d6, hF⟩
  refine zQ (zkw W) ?_
  refine zP (zkv q) ?_
  refine zq (zku W) ?_
  refine zq (zku q) ?_
  refine ze (zba (zbM rfl ?_))
  refine zo (zf (zM (zg (zy (zc hO [] [(11, zks (IntKind.i64.wrap (g + 1)))] [0, 2, 3, 9, 10] zkh fun j => ?_)))))
  refine zf (zg ?_)
  have hO := hO.sel [0, 1]
  exact ⟨D, Nat.lt_succ_self _, b7, b8, b9, X, (IntKind.i64.wrap (g + 1)), _, zkr zkg, hO, hL, c1, hF⟩
 refine z0 (z3 (z1 (zg (zf ?_))))
 cases hF
 exact (hQ _ _ _ _ _ rfl hO hL ⟨_, _, rfl, rfl, d9⟩).2
theorem zhA {τ : Hp} {b : Value} {p0 : (List za)} {h q : Int} (z : RdT zk τ b p0) :
  Ctr Try.prog 44 #[b, .int .i64 h, .int .i64 q] τ [] (fun v τ' vs' => ∃ (b : Value) (a0 a1 a2 : Addr), v = .func (.func 58) #[] #[.pointer (some a0), .pointer (some a1), .pointer (some a2)] ∧ vs' = [] ∧ RdT zk τ' b p0 ∧ At τ' a0 [b] ∧ At τ' a1 [.int .i64 h] ∧ At τ' a2 [.int .i64 q]) := by
 obtain ⟨I, J, rfl, -⟩ := z.form
 refine zN (args := [.slice I p0.length J, .int .i64 h, .int .i64 q]) hm Try.func44 s44 rfl fun w0 σ hO Q hQ => ?_
 have hL := Hp.le.refl τ
 show wpn _ _ a44.body _ _ _
 unfold a44
 dsimp only
 refine zb7 hO rfl rfl fun B σ hO => ?_
 have hO := zkx1 hO
 refine zb7 hO rfl rfl fun D σ hO => ?_
 have hO := zkx2 hO
 refine zb7 hO rfl rfl fun E σ hO => ?_
 have hO := zkx3 hO
 obtain ⟨_, G, R, hO⟩ := hO.shareV (i := 0) rfl
 obtain ⟨_, w, S, hO⟩ := hO.shareV (i := 1) rfl
 obtain ⟨_, g, U, hO⟩ := hO.shareV (i := 2) rfl
 refine zi hO [] [(3, zkt B), (4, zkt D), (5, zkt E)] zke fun j => ?_
 refine zi hO [] [(6, .func (.func 58) #[] #[.pointer (some ⟨B, 0, none⟩), .pointer (some ⟨D, 0, none⟩), .pointer (some ⟨E, 0, none⟩)])] zkc fun j => ?_
 refine zJ ?_
 exact hQ _ _ _ _ _ rfl (hO.sel [] (by decide)) (((hL.trans G).trans w).trans g) ⟨_, _, _, _, rfl, rfl, ((z.le G).le w).le g, (R.le w).le g, S.le g, U⟩
def zfO : zO := (.reg [.s ⟨(some 10), .alloc 46 [(.int .i64 0), (.int .i64 0), (.slice none 0 0)], []⟩,
 .s ⟨none, .store 3 (.t 10) (.t 31), []⟩])
def zfv : zO := (.block 3 (.par [.s ⟨(some 32), .load false 1 (.t 7), []⟩,
 .s ⟨(some 33), .load true 3 (.t 10), []⟩,
 .s ⟨(some 34), .call 43 [(.t 33)], [⟨none, (some 32), .load false 1 (.t 7)⟩]⟩,
 .s ⟨(some 35), .bslice 46 1 [(.int .i64 0), (.int .i64 0), (.slice none 0 0)] [(0, 3, (.t 34))], [⟨none, (some 32), .load false 1 (.t 7)⟩]⟩,
 .s ⟨(some 36), .app 46 3 40 (.t 32) (.t 35), []⟩,
 .s ⟨none, .store 1 (.t 7) (.t 36), []⟩]))
def zfV : zO := (.seq (.reg [.s ⟨(some 11), .mv (.t 1), []⟩,
 .s ⟨(some 12), .mv (.t 2), []⟩,
 .s ⟨(some 13), .bin .geq (.t 11) (.t 12), []⟩])
(.cond (.t 13) (.seq (.seq (.reg [.s ⟨(some 14), .mv (.t 0), []⟩,
 .s ⟨(some 15), .lenL (.t 14), []⟩,
 .s ⟨(some 16), .mv (.c (.int .i64 0)), []⟩])
(.block 0 (.loop (.seq (.reg [.s ⟨(some 17), .bin .lss (.t 16) (.t 15), []⟩])
(.seq (.cond (.t 17) .skip
(.exit 0))
(.seq (.block 1 (.seq (.reg [.s ⟨(some 18), .idx 3 (.t 14) (.t 16), []⟩,
 .s ⟨(some 19), .load true 3 (.t 18), []⟩,
 .s ⟨(some 9), .alloc 46 [(.int .i64 0), (.int .i64 0), (.slice none 0 0)], []⟩,
 .s ⟨none, .store 3 (.t 9) (.t 19), []⟩])
(.par [.s ⟨(some 20), .load false 1 (.t 7), []⟩,
 .s ⟨(some 21), .load true 3 (.t 9), []⟩,
 .s ⟨(some 22), .call 43 [(.t 21)], [⟨none, (some 20), .load false 1 (.t 7)⟩]⟩,
 .s ⟨(some 23), .bslice 46 1 [(.int .i64 0), (.int .i64 0), (.slice none 0 0)] [(0, 3, (.t 22))], [⟨none, (some 20), .load false 1 (.t 7)⟩]⟩,
 .s ⟨(some 24), .app 46 3 40 (.t 20) (.t 23), []⟩,
 .s ⟨none, .store 1 (.t 7) (.t 24), []⟩])))
(.reg [.s ⟨(some 25), .bin .add (.t 16) (.c (.int .i64 1)), []⟩,
 .s ⟨(some 16), .mv (.t 25), []⟩])))))))
(.seq (.reg [.s ⟨(some 26), .load false 1 (.t 7), []⟩,
 .s ⟨(some 6), .mv (.t 26), []⟩])
.ret))
.skip))
def a23 : zd6 := ⟨38, [.t 6], .seq (.reg [.s ⟨(some 6), .mv (.c (.slice none 0 0)), []⟩])
(.seq (.reg [.s ⟨(some 7), .alloc 23 [(.slice none 0 0)], []⟩])
(.seq zfV (.seqR (.seq (.reg [.s ⟨(some 27), .mv (.t 0), []⟩,
 .s ⟨(some 28), .mv (.t 1), []⟩,
 .s ⟨(some 29), .mv (.t 2), []⟩,
 .s ⟨(some 30), .call 44 [(.t 27), (.t 28), (.t 29)], []⟩])
(.block 2 (.range 30 31 zfO zfv)))
(.seq (.reg [.s ⟨(some 37), .load false 1 (.t 7), []⟩,
 .s ⟨(some 6), .mv (.t 37), []⟩])
.ret))))⟩
theorem s23 : zeA Try.prog Try.f23 = some a23.fn := by kernel_rfl
theorem zjE {τ : Hp} {W : Value} {p0 : (List za)} {I J : Int} (r0 : RdT zk τ W p0) {rr : (List za)} (hF : zcO p0 I J = some rr) :
  Ctr Try.prog 23 #[W, .int .i64 I, .int .i64 J] τ [] (fun v τ' vs' => ∃ (W : Value) (o0 : Ob), v = W ∧ vs' = [o0] ∧ zj zk 46 τ' W rr o0) := by
 obtain ⟨h, q, rfl, -⟩ := r0.form
 refine zht (args := [.slice h p0.length q, .int .i64 I, .int .i64 J]) hm Try.func23 s23 rfl fun w0 σ hO Q hQ => ?_
 unfold zcO at hF
 have hL := Hp.le.refl τ
 show zbt _ _ a23.body _ _ _
 unfold a23
 dsimp only
 refine zcq (zy (zi hO [] [(0, zkz h p0 q), (1, zks I), (2, zks J)] zke fun j => ?_))
 refine zf (zg (zcq (zy (z6 hO fun B σ hO => ?_))))
 have hO := zkx1 hO
 refine ze (zf (zg (zcq ?_)))
 unfold zfV
 refine zi hO [] [(0, zkz h p0 q), (1, zks I), (2, zks J), (7, zkt B), (13, .bool (decide (I ≥ J)))] zkg fun j => ?_
 refine zba ?_
 rcases zY hF with ⟨X, hF⟩ | ⟨X, hF⟩
 ·refine zbO (zku X) ?_
  refine zh (zh (zi hO [] [(7, zkt B), (14, zkz h p0 q), (15, zks (p0.length : Int)), (16, zks 0)] zkf fun j => ?_))
  refine zx ?_
  have hO := hO.no
  have hO := zkx2 hO
  refine z2 (fun (n : Nat) e' σ' => ∃ (E : Option Addr) (G : Nat) (Y : Ob) (c : List za) (g : Int) (τ' : Hp), agr [(7, zkt B), (14, zkz h p0 q), (15, zks (p0.length : Int)), (16, zks g)] e' ∧ Obs τ' σ' [[(B, ⟨[zkz E c G], 23, 1, true⟩)], Y] ∧ Hp.le τ τ' ∧ zj zk 46 τ' (zkz E c G) c Y ∧ RdT zk τ' (zkz h p0 q) p0 ∧ zcG p0 n c g = some rr) big ⟨none, 0, [], [], 0, _, zkr zke, hO, hL, zj.nil _ _ _, r0, hF⟩ ?_
  clear hF hO hL
  rintro S e σ ⟨E, G, Y, c, g, _, hA, hO, hL, w, z, hF⟩
  rw [← zD _ _ hA]
  cases S with
  | zero => exact nomatch (show none = some rr from hF)
  | succ S =>
   replace hF : zc8 (zcG p0 S) p0 c g = some rr := hF
   unfold zc8 at hF
   refine zi hO [] [(7, zkt B), (14, zkz h p0 q), (15, zks (p0.length : Int)), (16, zks g), (17, .bool (decide (g < (p0.length : Int))))] zkg fun j => ?_
   rcases zY hF with ⟨R, hF⟩ | ⟨R, hF⟩
   ·refine zbO (zku R) ?_
    refine zo (zx ?_)
    obtain ⟨Z, d8, hF⟩ := zky hF
    refine zF (T := zk) z hO.base rfl rfl d8 (by decide) fun a77 _ d9 f0 => ?_
    obtain ⟨g9, rfl, U⟩ := d9
    obtain ⟨f1, f2, rfl, -⟩ := U.form
    refine zs rfl ((f0.le hO.base).all rfl) ?_
    refine z6 hO fun h0 σ hO => ?_
    have hO := zkx3 hO
    refine zU hO (i := 2) rfl (off := 0) rfl rfl rfl rfl (Nat.le_of_ble_eq_true rfl) rfl fun σ hO => ?_
    have hO := zkx3 hO
    refine ze (zcL (zZ hO 2 [0, 2] [(7, zkt B), (14, zkz h p0 q), (15, zks (p0.length : Int)), (16, zks g), (20, zkz E c G), (21, .agg #[(.int .i64 Z.From), (.int .i64 Z.To), (zkz f1 Z.At f2)])] (And.intro (And.intro rfl rfl) (And.intro (And.intro rfl rfl) zkh)) fun j => ?_))
    refine z8 ?_
    obtain ⟨b, f3, hF⟩ := zky hF
    refine zu hO (zfR U f3) rfl fun _ σ _ _ hO V f4 => ?_
    have hL := hL.trans V
    have z := z.le V
    have w := w.le V
    have U := U.le V
    obtain ⟨h1, rfl, rfl, b6⟩ := f4
    obtain ⟨b7, b8, rfl, -⟩ := b6.form
    have hO := zkx3 hO
    refine ze (z7 ⟨(zT rfl (hO.val (i := 0) (off := 0) (agg := false) (n := 1) rfl rfl) rfl), trivial⟩ ?_)
    refine z8 (zbJ (T := zk) (l := ([(⟨b.From, b.To, b.At⟩ : za)] : List za)) (cs := [.int .i64 b.From, .int .i64 b.To, zkz b7 b.At b8]) hO rfl ⟨[.int .i64 b.From, .int .i64 b.To, zkz b7 b.At b8], _, rfl, ⟨_, rfl, b6⟩, rfl⟩ rfl (by decide) fun _ σ h2 b9 hO => ?_)
    obtain ⟨h3, h8, rfl, -⟩ := b9.form
    have hO := zkx4 hO
    refine ze (z7 ⟨(zT rfl (hO.val (i := 0) (off := 0) (agg := false) (n := 1) rfl rfl) rfl), trivial⟩ ?_)
    obtain ⟨_, b0, f5, hO⟩ := b9.share hO (i := 3) rfl
    have hL := hL.trans b0
    have z := z.le b0
    have w := w.le b0
    have hO := zkx4 hO
    obtain ⟨_, hr, hF⟩ := zky hF
    refine zc3 (T := zk) hO w (i := 1) rfl rfl rfl f5 hr (by decide) fun _ σ c8 b1 hO => ?_
    obtain ⟨f6, c9, rfl, -⟩ := b1.form
    have hO := zkx4 hO
    refine zU hO (i := 0) rfl (off := 0) rfl rfl rfl rfl (Nat.le_of_ble_eq_true rfl) rfl fun σ hO => ?_
    have hO := zkx4 hO
    refine ze (zf (zM (zg (zy (zi hO [] [(7, zkt B), (14, zkz h p0 q), (15, zks (p0.length : Int)), (16, zks (IntKind.i64.wrap (g + 1)))] zkf fun j => ?_)))))
    refine zf (zg ?_)
    have hO := hO.sel [0, 1] (by decide)
    exact ⟨S, Nat.lt_succ_self _, f6, c9, c8, (c ++ ([(⟨b.From, b.To, b.At⟩ : za)] : List za)), (IntKind.i64.wrap (g + 1)), _, zkr zke, hO, hL, b1, z, hF⟩
   ·refine zbM (zku R) ?_
    refine z0 (z3 (z1 (zg (zh (zi hO [0] [(6, zkz E c G)] (And.intro (And.intro rfl rfl) zkc) fun j => ?_)))))
    refine zB ?_
    injection hF with hF
    subst hF
    have hO := hO.sel [1] (by decide)
    exact hQ _ _ _ _ _ rfl hO hL ⟨_, _, rfl, rfl, w⟩
 ·refine zbM (zku X) ?_
  refine zo (zf (zg (zhF (zcq (zy (zZ hO 3 [] [(7, zkt B), (27, zkz h p0 q), (28, zks I), (29, zks J)] zkf fun j => ?_))))))
  refine zu hO (zhA r0) rfl fun _ σ _ _ hO h6 h7 => ?_
  have hL := hL.trans h6
  obtain ⟨v8, a8, a9, a10, rfl, rfl, r8, m8, m9, f7⟩ := h7
  have hO := zkx1 hO
  have hO := hO.no
  have hO := zkx2 hO
  refine ze (zf (zg (zhf (zg6 ?_))))
  refine ⟨58, #[.pointer (some a8), .pointer (some a9), .pointer (some a10)], _, rfl, by kernel_rfl, fun w1 l rec hl f8 hY => zjb hl f8 (fun {τ p0 g7 f9 vq oq} rr hF b3 wq => ?_) (zj.nil _ _ _) r8 m8 m9 f7 hF hO, fun v σ' hK => ?_⟩
  ·clear hO
   refine hY _ _ _ _ fun ρ hO w1 => ?_
   obtain ⟨d5, d6, rfl, -⟩ := b3.form
   obtain ⟨Aq, cq, rfl, -⟩ := wq.form
   unfold zcw at hF
   have hL := Hp.le.refl τ
   unfold zfO
   refine zy (z6 hO fun b2 σ hO => ?_)
   have hO := zkx3 hO
   refine zU hO (i := 2) rfl (off := 0) rfl rfl rfl rfl (Nat.le_of_ble_eq_true rfl) rfl fun σ hO => ?_
   have hO := zkx3 hO
   refine ze (zf ?_)
   refine ⟨rfl, fun w2 => ?_⟩
   unfold zfv
   refine zcp (zx (zcL (zZ hO 2 [0, 2] [(7, zkt B), (32, zkz Aq f9 cq), (33, .agg #[(.int .i64 p0.From), (.int .i64 p0.To), (zkz d5 p0.At d6)])] (And.intro (And.intro rfl rfl) (And.intro (And.intro rfl rfl) zke)) fun j => ?_)))
   refine z8 ?_
   obtain ⟨D, h4, hF⟩ := zky hF
   refine zu hO (zfR b3 h4) rfl fun _ σ _ _ hO h5 h6 => ?_
   have hL := hL.trans h5
   have wq := wq.le h5
   obtain ⟨v7, rfl, rfl, r8⟩ := h6
   obtain ⟨A9, c1, rfl, -⟩ := r8.form
   have hO := zkx3 hO
   refine ze (z7 ⟨(zT rfl (hO.val (i := 0) (off := 0) (agg := false) (n := 1) rfl rfl) rfl), trivial⟩ ?_)
   refine z8 (zbJ (T := zk) (l := ([(⟨D.From, D.To, D.At⟩ : za)] : List za)) (cs := [.int .i64 D.From, .int .i64 D.To, zkz A9 D.At c1]) hO rfl ⟨[.int .i64 D.From, .int .i64 D.To, zkz A9 D.At c1], _, rfl, ⟨_, rfl, r8⟩, rfl⟩ rfl (by decide) fun _ σ h9 c2 hO => ?_)
   obtain ⟨i0, i1, rfl, -⟩ := c2.form
   have hO := zkx4 hO
   refine ze (z7 ⟨(zT rfl (hO.val (i := 0) (off := 0) (agg := false) (n := 1) rfl rfl) rfl), trivial⟩ ?_)
   obtain ⟨_, c4, g2, hO⟩ := c2.share hO (i := 3) rfl
   have hL := hL.trans c4
   have wq := wq.le c4
   have hO := zkx4 hO
   obtain ⟨_, hr, hF⟩ := zky hF
   refine zc3 (T := zk) hO wq (i := 1) rfl rfl rfl g2 hr (by decide) fun _ σ i2 c5 hO => ?_
   obtain ⟨i3, i4, rfl, -⟩ := c5.form
   have hO := zkx4 hO
   refine zU hO (i := 0) rfl (off := 0) rfl rfl rfl rfl (Nat.le_of_ble_eq_true rfl) rfl fun σ hO => ?_
   have hO := zkx4 hO
   refine ze (zf (zM (zg (zf ?_))))
   injection hF with hF
   subst hF
   have hO := hO.sel [0, 1] (by decide)
   exact ⟨rfl, _, _, hO, hL, _, _, rfl, rfl, c5⟩
  ·obtain ⟨_, _, hO, g3, u, y, rfl, rfl, c6⟩ := hK
   have hL := hL.trans g3
   refine zM (zg ?_)
   intro w1
   obtain ⟨Au, cu, rfl, -⟩ := c6.form
   refine zi hO [0] [(6, zkz Au rr cu)] (And.intro (And.intro rfl rfl) zkc) fun j => ?_
   refine zJ ?_
   have hO := hO.sel [1] (by decide)
   exact hQ _ _ _ _ _ rfl hO hL ⟨_, _, rfl, rfl, c6⟩
theorem zh4 {τ : Hp} {E : Value} {p0 : (List zd)} {G : Value} {c : (List zd)} (I : RdT zw τ E p0) (J : RdT zw τ G c) {rr : Bool} (hF : zcZ p0 c = some rr) :
  Ctr Try.prog 45 #[E, G] τ [] (fun v τ' vs' => v = .bool rr ∧ vs' = []) := by
 obtain ⟨w, z, rfl, -⟩ := I.form
 obtain ⟨B, D, rfl, -⟩ := J.form
 refine zN (args := [.slice w p0.length z, .slice B c.length D]) hm Try.func45 s45 rfl fun w0 σ hO Q hQ => ?_
 unfold zcZ at hF
 have hL := Hp.le.refl τ
 show wpn _ _ a45.body _ _ _
 unfold a45
 dsimp only
 refine zc hO [] [] [0, 1] zkd fun j => ?_
 refine zh (zc hO [] [(10, .bool ((p0.length : Int) != (c.length : Int)))] [0, 1] zke fun j => ?_)
 refine zp hF rfl (fun hF => ?_) fun hF => ?_
 ·refine zh (zi hO [] [(4, .bool false)] zkc fun j => ?_)
  refine zB ?_
  cases hF
  exact hQ _ _ _ _ _ rfl hO hL ⟨rfl, rfl⟩
 refine zo (zh (zc hO [] [(12, zks (p0.length : Int)), (13, zks 0)] [0, 1] zkf fun j => ?_))
 refine zx (z2 (fun (n : Nat) e' σ' => ∃ (b : Int) (τ' : Hp), agr [(0, zkz w p0 z), (1, zkz B c D), (12, zks (p0.length : Int)), (13, zks b)] e' ∧ Obs τ' σ' [] ∧ Hp.le τ τ' ∧ zdU p0 c n b = some rr) big ⟨0, _, zkr zke, hO, hL, hF⟩ ?_)
 clear hF hO hL
 rintro g e σ ⟨b, _, hA, hO, hL, hF⟩
 rw [← zD _ _ hA]
 cases g with
 | zero => exact nomatch (show none = some rr from hF)
 | succ g =>
 replace hF : zdr (zdU p0 c g) p0 c b = some rr := hF
 unfold zdr at hF
 refine zc hO [] [(14, .bool (decide (b < (p0.length : Int))))] [0, 1, 12, 13] zkg fun j => ?_
 refine zp hF rfl (fun hF => ?_) fun hF => ?_
 ·refine zo (zx (zc hO [] [(5, zks b)] [0, 1, 12, 13] zkg fun j => ?_))
  refine zbn (zb hO 2 [] [(16, zkz w p0 z), (17, zks b)] [0, 1, 5, 12, 13] zki fun j => ?_)
  obtain ⟨h, R, hF⟩ := zky hF
  refine zF (T := zw) (I.le hL) hO.base rfl rfl R (by decide) fun a33 _ S U => ?_
  obtain rfl : _ = ([.int .u8 h.Kind.toNat, .int .i64 h.N] : List Value) := S
  refine zs rfl ((U.le hO.base).all rfl) ?_
  refine zb hO 2 [] [(20, zkz B c D), (21, zks b)] [0, 1, 12, 13, 19] zki fun j => ?_
  obtain ⟨q, V, hF⟩ := zky hF
  refine zF (T := zw) (J.le hL) hO.base rfl rfl V (by decide) fun a38 _ W X => ?_
  obtain rfl : _ = ([.int .u8 q.Kind.toNat, .int .i64 q.N] : List Value) := W
  refine zs rfl ((X.le hO.base).all rfl) ?_
  refine zc hO [] [(24, .bool (!(( (h.Kind.toNat : Int) == (q.Kind.toNat : Int)) && (( h.N == q.N) && true))))] [0, 1, 12, 13] zkg fun j => ?_
  refine zba (zp hF rfl (fun hF => ?_) fun hF => ?_)
  ·refine zh (zi hO [] [(4, .bool false)] zkc fun j => ?_)
   refine zB (zE (zr (zr (zE (zr ?_)))))
   cases hF
   exact hQ _ _ _ _ _ rfl hO hL ⟨rfl, rfl⟩
  refine zo (zf (zM (zg (zy (zc hO [] [(13, zks (IntKind.i64.wrap (b + 1)))] [0, 1, 12] zkf fun j => ?_)))))
  refine zf (zg ?_)
  exact ⟨g, Nat.lt_succ_self _, (IntKind.i64.wrap (b + 1)), _, zkr zke, hO, hL, hF⟩
 refine z0 (z3 (z1 (zg (zi hO [] [(4, .bool true)] zkc fun j => ?_))))
 refine zJ ?_
 cases hF
 exact hQ _ _ _ _ _ rfl hO hL ⟨rfl, rfl⟩
end Go.Proofs.Ytjcehfjmmbbblaa
