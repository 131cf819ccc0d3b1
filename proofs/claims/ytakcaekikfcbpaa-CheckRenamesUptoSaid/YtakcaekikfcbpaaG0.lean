import Derived.Test.YtakcaekikfcbpaaF
import Derived.Test.YtakcaekikfcbpaaM00
import Derived.Test.YtakcaekikfcbpaaM01
namespace Go.Proofs.Ytakcaekikfcbpaa
open Go.Ab Go.RowKit
set_option linter.unusedVariables false
set_option linter.unusedSimpArgs false
set_option maxRecDepth 10000
set_option maxHeartbeats 1000000
def zjZ (gn : Nat) : Prop := ∀ {τ : Hp} {v0 : Value} {p0 : (List zc)} (r0 : RdT z5 τ v0 p0) {rr : Int} (hF : (zdu gn) p0 = some rr), Ctr Try.prog 49 #[v0] τ [] (fun v τ' vs' => v = .int .i64 rr ∧ vs' = [])
theorem zms {gn : Nat} (ih_ref13_exps : zjZ gn) {τ : Hp} {U : Value} {p0 : (List zc)} (V : RdT z5 τ U p0) {rr : Int} (hF : ziK (zdu gn) p0 = some rr) :
  Ctr Try.prog 49 #[U] τ [] (fun v τ' vs' => v = .int .i64 rr ∧ vs' = []) := by
 obtain ⟨I, S, rfl, -⟩ := V.form
 refine zbi (args := [.slice I p0.length S]) hm Try.func49 s49 rfl fun w0 σ hO Q hQ => ?_
 unfold ziK at hF
 have hL := Hp.le.refl τ
 show wpn _ _ a49.body _ _ _
 unfold a49
 dsimp only
 refine ze hO [] [] [0] zq0 fun j => ?_
 refine ze hO [] [(3, zrg (p0.length : Int))] [0] zq1 fun j => ?_
 refine zl (ze hO [] [(4, zrg 0)] [0, 3] zq2 fun j => ?_)
 refine zY (zbH (fun (n : Nat) e' σ' => ∃ (g h : Int) (τ' : Hp), agr [(0, zrn I p0 S), (3, zrg g), (4, zrg h)] e' ∧ Obs τ' σ' [] ∧ Hp.le τ τ' ∧ zeq (zdu gn) p0 n g h = some rr) big ⟨(p0.length : Int), 0, _, zrf zq1, hO, hL, hF⟩ ?_)
 clear hF hO hL
 rintro o e σ ⟨g, h, _, hA, hO, hL, hF⟩
 rw [← zV _ _ hA]
 cases o with
 | zero => exact nomatch (show none = some rr from hF)
 | succ o =>
 replace hF : zfC (zeq (zdu gn) p0 o) (zdu gn) p0 g h = some rr := hF
 unfold zfC at hF
 refine zl (ze hO [] [(10, .bool (decide (h < (p0.length : Int))))] [0, 3, 4] zq3 fun j => ?_)
 refine zy hF rfl (fun hF => ?_) fun hF => ?_
 ·refine zF (zY (zbd (zd hO 3 [] [(13, zrg g), (14, zrn I p0 S), (15, zrg h)] [0, 4] zq4 fun j => ?_)))
  obtain ⟨b0, W, hF⟩ := zrm hF
  refine zO (T := z5) (V.le hL) hO.base rfl rfl W (by decide) fun a36 _ X z => ?_
  obtain ⟨b1, rfl, q⟩ := zhO X
  obtain ⟨b2, b3, rfl, -⟩ := q.form
  refine zd hO 1 [] [(17, .pointer (some (a36.add 5)))] [0, 4, 13] zq3 fun j => ?_
  refine zE rfl ((z.le hO.base).one 5 rfl) ?_
  obtain ⟨G, Y, hF⟩ := zrm hF
  refine zL hO (ih_ref13_exps q Y) rfl fun _ σ _ _ hO D Z => ?_
  have hL := hL.trans D
  have z := z.le D
  have q := q.le D
  obtain ⟨rfl, rfl⟩ := Z
  have hO : Obs _ _ [] := hO
  refine ze hO [] [(3, zrg (IntKind.i64.wrap (g + G)))] [0, 4] zq2 fun j => ?_
  refine zg (z3 (zk (zbd (ze hO [] [(4, zrg (IntKind.i64.wrap (h + 1)))] [0, 3] zq2 fun j => ?_))))
  refine zg (zk ?_)
  exact ⟨o, Nat.lt_succ_self _, (IntKind.i64.wrap (g + G)), (IntKind.i64.wrap (h + 1)), _, zrf zq1, hO, hL, hF⟩
 refine zbF (zbB (zbD (zk (zA hO [] [(2, zrg g)] zq0 fun j => ?_))))
 refine zba ?_
 cases hF
 exact hQ _ _ _ _ _ rfl hO hL ⟨rfl, rfl⟩
theorem znW (n : Nat) : zjZ n := by
 induction n with
 | zero =>
  intro τ h p0 g rr hF; exact nomatch (show none = some rr from hF)
 | succ n ih =>
  intro τ h p0 g rr hF; exact zms ih g hF
theorem zqq : ∀ {τ : Hp} {g : Value} {p0 : (List zc)} (h : RdT z5 τ g p0) {rr : Int} (hF : zi1 p0 = some rr), Ctr Try.prog 49 #[g] τ [] (fun v τ' vs' => v = .int .i64 rr ∧ vs' = []) := (znW big)
def zkw (gn : Nat) : Prop := ∀ {τ : Hp} {g : Value} {p0 : (List zi)} (h : RdT zX τ g p0) {rr : Int} (hF : (zdm gn) p0 = some rr), Ctr Try.prog 33 #[g] τ [] (fun v τ' vs' => v = .int .i64 rr ∧ vs' = [])
theorem zmN {gn : Nat} (ih_ref13_stmts : zkw gn) {τ : Hp} {v0 : Value} {p0 : (List zi)} (r0 : RdT zX τ v0 p0) {rr : Int} (hF : zhX (zdm gn) p0 = some rr) :
  Ctr Try.prog 33 #[v0] τ [] (fun v τ' vs' => v = .int .i64 rr ∧ vs' = []) := by
 obtain ⟨A0, c0, rfl, -⟩ := r0.form
 refine zbi (args := [.slice A0 p0.length c0]) hm Try.func33 s33 rfl fun w0 σ hO Q hQ => ?_
 unfold zhX at hF
 have hL := Hp.le.refl τ
 show wpn _ _ a33.body _ _ _
 unfold a33
 dsimp only
 refine ze hO [] [] [0] zq0 fun j => ?_
 refine ze hO [] [(3, zrg (p0.length : Int))] [0] zq1 fun j => ?_
 refine zl (ze hO [] [(4, zrg 0)] [0, 3] zq2 fun j => ?_)
 refine zY (zbH (fun (n : Nat) e' σ' => ∃ (q h : Int) (τ' : Hp), agr [(0, zrn A0 p0 c0), (3, zrg q), (4, zrg h)] e' ∧ Obs τ' σ' [] ∧ Hp.le τ τ' ∧ zed (zdm gn) p0 n q h = some rr) big ⟨(p0.length : Int), 0, _, zrf zq1, hO, hL, hF⟩ ?_)
 clear hF hO hL
 rintro U e σ ⟨q, h, _, hA, hO, hL, hF⟩
 rw [← zV _ _ hA]
 cases U with
 | zero => exact nomatch (show none = some rr from hF)
 | succ U =>
 replace hF : zgB (zed (zdm gn) p0 U) (zdm gn) p0 q h = some rr := hF
 unfold zgB at hF
 refine zl (ze hO [] [(10, .bool (decide (h < (p0.length : Int))))] [0, 3, 4] zq3 fun j => ?_)
 refine zy hF rfl (fun hF => ?_) fun hF => ?_
 ·refine zF (zY (zeo (zd hO 3 [] [(13, zrg q), (14, zrn A0 p0 c0), (15, zrg h)] [0, 4] zq4 fun j => ?_)))
  obtain ⟨f0, b6, hF⟩ := zrm hF
  refine zO (T := zX) (r0.le hL) hO.base rfl rfl b6 (by decide) fun a136 _ b7 b8 => ?_
  obtain ⟨f1, f2, f3, rfl, V, b9, c1⟩ := zfv b7
  obtain ⟨f4, f5, rfl, -⟩ := V.form
  obtain ⟨f6, f7, rfl, -⟩ := b9.form
  obtain ⟨f8, f9, rfl, -⟩ := c1.form
  refine zd hO 1 [] [(17, .pointer (some (a136.add 8)))] [0, 4, 13] zq3 fun j => ?_
  refine zE rfl ((b8.le hO.base).one 8 rfl) ?_
  refine zd hO 2 [] [(21, zrn A0 p0 c0), (22, zrg h)] [0, 4, 13, 18] zq5 fun j => ?_
  obtain ⟨g0, c2, hF⟩ := zrm hF
  refine zO (T := zX) (r0.le hL) hO.base rfl rfl c2 (by decide) fun a153 _ c3 W => ?_
  obtain ⟨g1, g2, g3, rfl, Y, D, Z⟩ := zfv c3
  obtain ⟨g4, g5, rfl, -⟩ := Y.form
  obtain ⟨g6, g7, rfl, -⟩ := D.form
  obtain ⟨g8, g9, rfl, -⟩ := Z.form
  refine zd hO 1 [] [(24, .pointer (some (a153.add 9)))] [0, 4, 13, 18] zq4 fun j => ?_
  refine zE rfl ((W.le hO.base).one 9 rfl) ?_
  refine zd hO 2 [] [(28, zrn A0 p0 c0), (29, zrg h)] [0, 4, 13, 18, 24, 25] zq7 fun j => ?_
  obtain ⟨c4, c5, hF⟩ := zrm hF
  refine zO (T := zX) (r0.le hL) hO.base rfl rfl c5 (by decide) fun a170 _ c6 z => ?_
  obtain ⟨h0, h1, h2, rfl, I, S, o⟩ := zfv c6
  obtain ⟨h3, h4, rfl, -⟩ := I.form
  obtain ⟨h5, h6, rfl, -⟩ := S.form
  obtain ⟨c7, c8, rfl, -⟩ := o.form
  refine zd hO 1 [] [(31, .pointer (some (a170.add 10)))] [0, 4, 13, 18, 24, 25] zq6 fun j => ?_
  refine zE rfl ((z.le hO.base).one 10 rfl) ?_
  refine zcp ?_
  obtain ⟨X, c9, hF⟩ := zrm hF
  refine zL hO (zqq V c9) rfl fun _ σ _ _ hO g d0 => ?_
  have hL := hL.trans g
  have V := V.le g
  have W := W.le g
  have Y := Y.le g
  have D := D.le g
  have Z := Z.le g
  have z := z.le g
  have I := I.le g
  have S := S.le g
  have o := o.le g
  obtain ⟨rfl, rfl⟩ := d0
  have hO : Obs _ _ [] := hO
  refine zf (zcj ⟨(zbp rfl ((z.le hO.base).one 10 rfl) rfl), (zbp rfl ((W.le hO.base).one 9 rfl) rfl), trivial⟩ ?_)
  refine zd hO 1 [] [(20, zrg (IntKind.i64.wrap (q + X)))] [0, 4, 25, 31, 32] zq5 fun j => ?_
  refine zcp ?_
  obtain ⟨b0, d5, hF⟩ := zrm hF
  refine zL hO (ih_ref13_stmts D d5) rfl fun _ σ _ _ hO G d6 => ?_
  have hL := hL.trans G
  have D := D.le G
  have z := z.le G
  have I := I.le G
  have S := S.le G
  have o := o.le G
  obtain ⟨rfl, rfl⟩ := d6
  have hO : Obs _ _ [] := hO
  refine zf (zcj ⟨(zbp rfl ((z.le hO.base).one 10 rfl) rfl), trivial⟩ ?_)
  refine zK hO 1 [] [(0, zrn A0 p0 c0), (4, zrg h), (27, zrg (IntKind.i64.wrap ((IntKind.i64.wrap (q + X)) + b0))), (32, zrn c7 c4.Else c8)] zq3 fun j => ?_
  obtain ⟨b3, d7, hF⟩ := zrm hF
  refine zL hO (ih_ref13_stmts o d7) rfl fun _ σ _ _ hO b4 d8 => ?_
  have hL := hL.trans b4
  have o := o.le b4
  obtain ⟨rfl, rfl⟩ := d8
  have hO : Obs _ _ [] := hO
  refine ze hO [] [(3, zrg (IntKind.i64.wrap ((IntKind.i64.wrap ((IntKind.i64.wrap (q + X)) + b0)) + b3)))] [0, 4] zq2 fun j => ?_
  refine zg (z3 (zk (zbd (ze hO [] [(4, zrg (IntKind.i64.wrap (h + 1)))] [0, 3] zq2 fun j => ?_))))
  refine zg (zk ?_)
  exact ⟨U, Nat.lt_succ_self _, (IntKind.i64.wrap ((IntKind.i64.wrap ((IntKind.i64.wrap (q + X)) + b0)) + b3)), (IntKind.i64.wrap (h + 1)), _, zrf zq1, hO, hL, hF⟩
 refine zbF (zbB (zbD (zk (zA hO [] [(2, zrg q)] zq0 fun j => ?_))))
 refine zba ?_
 cases hF
 exact hQ _ _ _ _ _ rfl hO hL ⟨rfl, rfl⟩
theorem znu (n : Nat) : zkw n := by
 induction n with
 | zero =>
  intro τ h p0 g rr hF; exact nomatch (show none = some rr from hF)
 | succ n ih =>
  intro τ h p0 g rr hF; exact zmN ih g hF
theorem zpq : ∀ {τ : Hp} {g : Value} {p0 : (List zi)} (h : RdT zX τ g p0) {rr : Int} (hF : zjq p0 = some rr), Ctr Try.prog 33 #[g] τ [] (fun v τ' vs' => v = .int .i64 rr ∧ vs' = []) := (znu big)
theorem zpN {τ : Hp} {p0 : zm} {b5 b6 : Value} (b7 : RdT zx τ b5 p0.Structs) (Y : RdT zr τ b6 p0.Funcs) {rr : Int} (hF : zf2 p0 = some rr) :
  Ctr Try.prog 15 #[.agg #[b5, b6]] τ [] (fun v τ' vs' => v = .int .i64 rr ∧ vs' = []) := by
 obtain ⟨I, S, rfl, -⟩ := b7.form
 obtain ⟨D, G, rfl, -⟩ := Y.form
 refine zbi (args := [.agg #[(zrn I p0.Structs S), (zrn D p0.Funcs G)]]) hm Try.func15 s15 rfl fun w0 σ hO Q hQ => ?_
 unfold zf2 at hF
 have hL := Hp.le.refl τ
 show wpn _ _ a15.body _ _ _
 unfold a15
 dsimp only
 refine zbQ (n := 2) hO rfl rfl fun b2 σ hO => ?_
 have hO := zrl1 hO
 refine ze hO [] [] [1] zq0 fun j => ?_
 refine ze hO [0, 0] [(3, zrg (IntKind.i64.wrap ((p0.Structs.length : Int) + (p0.Funcs.length : Int))))] [1] (And.intro (And.intro rfl rfl) (And.intro (And.intro rfl rfl) zq1)) fun j => ?_
 refine zl (ze hO [] [(4, zrg 0)] [1, 3] zq2 fun j => ?_)
 refine zY (zbH (fun (n : Nat) e' σ' => ∃ (o q : Int) (τ' : Hp), agr [(1, zrh b2), (3, zrg o), (4, zrg q)] e' ∧ Obs τ' σ' [some (b2, ⟨[zrn I p0.Structs S, zrn D p0.Funcs G], 25, 2, true⟩)] ∧ Hp.le τ τ' ∧ zfB p0 n o q = some rr) big ⟨(IntKind.i64.wrap ((p0.Structs.length : Int) + (p0.Funcs.length : Int))), 0, _, zrf zq1, hO, hL, hF⟩ ?_)
 clear hF hO hL
 rintro U e σ ⟨o, q, _, hA, hO, hL, hF⟩
 rw [← zV _ _ hA]
 cases U with
 | zero => exact nomatch (show none = some rr from hF)
 | succ U =>
 replace hF : zgG (zfB p0 U) p0 o q = some rr := hF
 unfold zgG at hF
 refine zl (ze hO [0] [(17, .bool (decide (q < (p0.Structs.length : Int))))] [1, 3, 4] (And.intro (And.intro rfl rfl) zq3) fun j => ?_)
 refine zy hF rfl (fun hF => ?_) fun hF => ?_
 ·refine zF (zY (zbd (zd hO 4 [0] [(20, zrg o), (22, zrn I p0.Structs S), (23, zrg q)] [1, 4] (And.intro (And.intro rfl rfl) zq4) fun j => ?_)))
  obtain ⟨b9, c1, hF⟩ := zrm hF
  refine zO (T := zx) (b7.le hL) hO.base rfl rfl c1 (by decide) fun a221 _ c2 c3 => ?_
  obtain ⟨d5, rfl, c4⟩ := c2
  obtain ⟨d6, d7, rfl, -⟩ := c4.form
  refine zd hO 1 [] [(25, .pointer (some (a221.add 1)))] [1, 4, 20] zq3 fun j => ?_
  refine zE rfl ((c3.le hO.base).one 1 rfl) ?_
  refine ze hO [] [(3, zrg (IntKind.i64.wrap (o + (b9.Fields.length : Int))))] [1, 4] zq2 fun j => ?_
  refine zg (z3 (zk (zbd (ze hO [] [(4, zrg (IntKind.i64.wrap (q + 1)))] [1, 3] zq2 fun j => ?_))))
  refine zg (zk ?_)
  exact ⟨U, Nat.lt_succ_self _, (IntKind.i64.wrap (o + (b9.Fields.length : Int))), (IntKind.i64.wrap (q + 1)), _, zrf zq1, hO, hL, hF⟩
 refine zbF (zbB (zbD (zk (zl (ze hO [] [(5, zrg 0)] [1, 3] zq2 fun j => ?_)))))
 refine zY (zbH (fun (n : Nat) e' σ' => ∃ (g h : Int) (τ' : Hp), agr [(1, zrh b2), (3, zrg g), (5, zrg h)] e' ∧ Obs τ' σ' [some (b2, ⟨[zrn I p0.Structs S, zrn D p0.Funcs G], 25, 2, true⟩)] ∧ Hp.le τ τ' ∧ zft p0 n g h = some rr) big ⟨o, 0, _, zrf zq1, hO, hL, hF⟩ ?_)
 clear hF hO hL
 rintro V e σ ⟨g, h, _, hA, hO, hL, hF⟩
 rw [← zV _ _ hA]
 cases V with
 | zero => exact nomatch (show none = some rr from hF)
 | succ V =>
 replace hF : zfH (zft p0 V) p0 g h = some rr := hF
 unfold zfH at hF
 refine zl (ze hO [0] [(33, .bool (decide (h < (p0.Funcs.length : Int))))] [1, 3, 5] (And.intro (And.intro rfl rfl) zq3) fun j => ?_)
 refine zy hF rfl (fun hF => ?_) fun hF => ?_
 ·refine zF (zY (zeo (zd hO 4 [0] [(36, zrg g), (37, .pointer (some ⟨b2, 1, none⟩)), (38, zrn D p0.Funcs G), (39, zrg h)] [1, 5] (And.intro (And.intro rfl rfl) zq5) fun j => ?_)))
  obtain ⟨Z, c5, hF⟩ := zrm hF
  refine zO (T := zr) (Y.le hL) hO.base rfl rfl c5 (by decide) fun a296 _ c6 W => ?_
  obtain ⟨d8, d9, rfl, b0, b1⟩ := c6
  obtain ⟨f0, f1, rfl, -⟩ := b0.form
  obtain ⟨f2, f3, rfl, -⟩ := b1.form
  refine zd hO 1 [] [(41, .pointer (some (a296.add 2)))] [1, 5, 36, 37, 38] zq5 fun j => ?_
  refine zE rfl ((W.le hO.base).one 2 rfl) ?_
  refine zd hO 5 [0] [(44, zrg (IntKind.i64.wrap (g + (Z.Params.length : Int)))), (46, zrn D p0.Funcs G), (47, zrg h)] [1, 5, 37, 38, 41, 42] (And.intro (And.intro rfl rfl) zq8) fun j => ?_
  obtain ⟨f4, c7, hF⟩ := zrm hF
  refine zO (T := zr) (Y.le hL) hO.base rfl rfl c7 (by decide) fun a309 _ c8 b3 => ?_
  obtain ⟨f5, f6, rfl, b4, X⟩ := c8
  obtain ⟨f7, f8, rfl, -⟩ := b4.form
  obtain ⟨f9, g0, rfl, -⟩ := X.form
  refine zd hO 1 [] [(49, .pointer (some (a309.add 6)))] [1, 5, 37, 38, 41, 42, 44] zq7 fun j => ?_
  refine zE rfl ((b3.le hO.base).one 6 rfl) ?_
  refine zcp ?_
  obtain ⟨c0, c9, hF⟩ := zrm hF
  refine zL hO (zpq X c9) rfl fun _ σ _ _ hO z d0 => ?_
  have hL := hL.trans z
  have W := W.le z
  have b0 := b0.le z
  have b1 := b1.le z
  have b3 := b3.le z
  have b4 := b4.le z
  have X := X.le z
  obtain ⟨rfl, rfl⟩ := d0
  have hO := zrl1 hO
  refine zf (zcj ⟨(zbp rfl ((W.le hO.base).one 2 rfl) rfl), (zbp rfl (hO.val (i := 0) (off := 1) (agg := false) (n := 1) rfl rfl) rfl), trivial⟩ ?_)
  refine ze hO [] [(3, zrg (IntKind.i64.wrap ((IntKind.i64.wrap (g + (Z.Params.length : Int))) + c0)))] [1, 5] zq2 fun j => ?_
  refine zg (z3 (zk (zbd (ze hO [] [(5, zrg (IntKind.i64.wrap (h + 1)))] [1, 3] zq2 fun j => ?_))))
  refine zg (zk ?_)
  exact ⟨V, Nat.lt_succ_self _, (IntKind.i64.wrap ((IntKind.i64.wrap (g + (Z.Params.length : Int))) + c0)), (IntKind.i64.wrap (h + 1)), _, zrf zq1, hO, hL, hF⟩
 refine zbF (zbB (zbD (zk (zA hO [] [(2, zrg g)] zq0 fun j => ?_))))
 refine zba ?_
 cases hF
 have hO := hO.sel []
 exact hQ _ _ _ _ _ rfl hO hL ⟨rfl, rfl⟩
theorem zbk {τ : Hp} {p0 : Bool} {p1 : Int}  {rr : Except (Value) (Unit)} (hF : zbx p0 p1 = some rr) :
  zbu Try.prog 54 #[.bool p0, .int .i64 p1] τ [] (fun v τ' vs' => match (generalizing := false) rr with | .ok rr => v = .tuple #[] ∧ vs' = [] | .error _ => False) (fun ch τ' vs' => match (generalizing := false) rr with | .ok _ => False | .error ee => ch = [{ v := ee, recovered := false }] ∧ vs' = []) := by
 refine zcH (args := [.bool p0, .int .i64 p1]) hm Try.func54 s54 rfl fun w0 σ hP hO Q hQ => ?_
 unfold zbx at hF
 have hL := Hp.le.refl τ
 show wpn _ _ a54.body _ _ _
 unfold a54
 dsimp only
 refine ze hO [] [(5, .bool (!p0))] [1] zq1 fun j => ?_
 refine zbC (zy hF rfl (fun hF => ?_) fun hF => ?_)
 ·refine zK hO 2 [] [(7, .iface 134 (.int .i64 p1))] zq0 fun j => ?_
  refine zql rfl ?_
  cases hF
  exact hP _ _ _ _ hO hL ⟨rfl, rfl⟩
 refine zF (zg ?_)
 cases hF
 refine (hQ _ _ _ _ _ rfl hO hL ?_).2
 exact ⟨rfl, rfl⟩
theorem zl0 {τ : Hp} {D : Value} {p0 : (List ByteArray)} {p1 : ByteArray} (G : RdT Ty.str τ D p0) {rr : Int} (hF : zfY p0 p1 = some rr) :
  Ctr Try.prog 84 #[D, .string p1] τ [] (fun v τ' vs' => v = .int .i64 rr ∧ vs' = []) := by
 obtain ⟨q, z, rfl, -⟩ := G.form
 refine zbi (args := [.slice q p0.length z, .string p1]) hm Try.func84 s84 rfl fun w0 σ hO Q hQ => ?_
 unfold zfY at hF
 have hL := Hp.le.refl τ
 show wpn _ _ a84.body _ _ _
 unfold a84
 dsimp only
 refine ze hO [] [] [0, 1] zq1 fun j => ?_
 refine zl (ze hO [] [(7, zrg (p0.length : Int)), (8, zrg 0)] [0, 1] zq3 fun j => ?_)
 refine zY (zbH (fun (n : Nat) e' σ' => ∃ (g : Int) (τ' : Hp), agr [(0, zrn q p0 z), (1, .string p1), (7, zrg (p0.length : Int)), (8, zrg g)] e' ∧ Obs τ' σ' [] ∧ Hp.le τ τ' ∧ zha p0 p1 n g = some rr) big ⟨0, _, zrf zq2, hO, hL, hF⟩ ?_)
 clear hF hO hL
 rintro h e σ ⟨g, _, hA, hO, hL, hF⟩
 rw [← zV _ _ hA]
 cases h with
 | zero => exact nomatch (show none = some rr from hF)
 | succ h =>
 replace hF : zi2 (zha p0 p1 h) p0 p1 g = some rr := hF
 unfold zi2 at hF
 refine ze hO [] [(9, .bool (decide (g < (p0.length : Int))))] [0, 1, 7, 8] zq4 fun j => ?_
 refine zy hF rfl (fun hF => ?_) fun hF => ?_
 ·refine zF (zY (ze hO [] [(5, zrg g)] [0, 1, 7, 8] zq4 fun j => ?_))
  refine zd hO 3 [] [(11, .string p1), (12, zrn q p0 z), (13, zrg g)] [0, 1, 5, 7, 8] zq7 fun j => ?_
  obtain ⟨o, I, hF⟩ := zrm hF
  refine zO (T := Ty.str) (G.le hL) hO.base rfl rfl I (by decide) fun a22 _ S U => ?_
  obtain rfl : _ = ([.string o] : List Value) := S
  refine zE rfl (U.le hO.base).fst ?_
  refine ze hO [] [(16, .bool (zP p1 o))] [0, 1, 5, 7, 8] zq5 fun j => ?_
  refine zbC (zy hF rfl (fun hF => ?_) fun hF => ?_)
  ·refine zl (zA hO [] [(4, zrg g)] zq0 fun j => ?_)
   refine zbt (zbo (zbc (zbc (zbo (zbc ?_)))))
   cases hF
   exact hQ _ _ _ _ _ rfl hO hL ⟨rfl, rfl⟩
  refine zF (zg (z3 (zk (zbd (ze hO [] [(8, zrg (IntKind.i64.wrap (g + 1)))] [0, 1, 7] zq3 fun j => ?_)))))
  refine zg (zk ?_)
  exact ⟨h, Nat.lt_succ_self _, (IntKind.i64.wrap (g + 1)), _, zrf zq2, hO, hL, hF⟩
 refine zbF (zbB (zbD (zk (zA hO [] [(4, zrg (-1))] zq0 fun j => ?_))))
 refine zba ?_
 cases hF
 exact hQ _ _ _ _ _ rfl hO hL ⟨rfl, rfl⟩
theorem zqs {τ : Hp} {g : Value} {p0 : (List ByteArray)} {p1 : ByteArray} (h : RdT Ty.str τ g p0) {rr : Bool} (hF : zgC p0 p1 = some rr) :
  Ctr Try.prog 77 #[g, .string p1] τ [] (fun v τ' vs' => v = .bool rr ∧ vs' = []) := by
 obtain ⟨o, q, rfl, -⟩ := h.form
 refine zbi (args := [.slice o p0.length q, .string p1]) hm Try.func77 s77 rfl fun w0 σ hO Q hQ => ?_
 unfold zgC at hF
 have hL := Hp.le.refl τ
 show wpn _ _ a77.body _ _ _
 unfold a77
 dsimp only
 refine ze hO [] [] [0, 1] zq1 fun j => ?_
 refine zK hO 2 [] [(5, zrn o p0 q), (6, .string p1)] zq1 fun j => ?_
 obtain ⟨z, D, hF⟩ := zrm hF
 refine zL hO (zl0 (h.le hL) D) rfl fun _ σ _ _ hO G I => ?_
 have hL := hL.trans G
 obtain ⟨rfl, rfl⟩ := I
 have hO : Obs _ _ [] := hO
 refine zA hO [] [(4, .bool (decide (z ≥ 0)))] zq0 fun j => ?_
 refine zba ?_
 cases hF
 exact hQ _ _ _ _ _ rfl hO hL ⟨rfl, rfl⟩
theorem zma {τ : Hp} {S : Value} {p0 : (List ByteArray)} (I : RdT Ty.str τ S p0) {rr : Bool} (hF : zgv p0 = some rr) :
  Ctr Try.prog 61 #[S] τ [] (fun v τ' vs' => v = .bool rr ∧ vs' = []) := by
 obtain ⟨q, z, rfl, -⟩ := I.form
 refine zbi (args := [.slice q p0.length z]) hm Try.func61 s61 rfl fun w0 σ hO Q hQ => ?_
 unfold zgv at hF
 have hL := Hp.le.refl τ
 show wpn _ _ a61.body _ _ _
 unfold a61
 dsimp only
 refine ze hO [] [] [0] zq0 fun j => ?_
 refine zl (ze hO [] [(5, zrn q p0 z), (6, zrg (p0.length : Int)), (7, zrg 0)] [0] zq3 fun j => ?_)
 refine zY (zbH (fun (n : Nat) e' σ' => ∃ (g : Int) (τ' : Hp), agr [(0, zrn q p0 z), (5, zrn q p0 z), (6, zrg (p0.length : Int)), (7, zrg g)] e' ∧ Obs τ' σ' [] ∧ Hp.le τ τ' ∧ zeW p0 n g = some rr) big ⟨0, _, zrf zq2, hO, hL, hF⟩ ?_)
 clear hF hO hL
 rintro h e σ ⟨g, _, hA, hO, hL, hF⟩
 rw [← zV _ _ hA]
 cases h with
 | zero => exact nomatch (show none = some rr from hF)
 | succ h =>
 replace hF : zf9 (zeW p0 h) p0 g = some rr := hF
 unfold zf9 at hF
 refine ze hO [] [(8, .bool (decide (g < (p0.length : Int))))] [0, 5, 6, 7] zq4 fun j => ?_
 refine zy hF rfl (fun hF => ?_) fun hF => ?_
 ·refine zF (zY (zd hO 1 [] [(9, zrg g)] [0, 5, 6, 7] zq4 fun j => ?_))
  obtain ⟨D, U, hF⟩ := zrm hF
  refine zO (T := Ty.str) (I.le hL) hO.base rfl rfl U (by decide) fun a39 _ V W => ?_
  obtain rfl : _ = ([.string D] : List Value) := V
  refine zE rfl (W.le hO.base).fst ?_
  refine ze hO [] [(3, zrg g), (4, .string D)] [0, 5, 6, 7] zq5 fun j => ?_
  refine zd hO 2 [] [(12, zrn q p0 z), (13, zrg g)] [0, 4, 5, 6, 7] zq6 fun j => ?_
  obtain ⟨b0, X, hF⟩ := zrm hF
  refine zpl (T := Ty.str) (I.le hL) rfl rfl rfl X fun _ o => ?_
  obtain ⟨b1, b2, rfl, -⟩ := o.form
  refine zd hO 1 [] [(15, .string D)] [0, 5, 6, 7, 14] zq5 fun j => ?_
  obtain ⟨b3, Y, hF⟩ := zrm hF
  refine zL hO (zqs o Y) rfl fun _ σ _ _ hO G Z => ?_
  have hL := hL.trans G
  have o := o.le G
  obtain ⟨rfl, rfl⟩ := Z
  have hO : Obs _ _ [] := hO
  refine zf (zbC (zy hF rfl (fun hF => ?_) fun hF => ?_))
  ·refine zl (zA hO [] [(2, .bool true)] zq0 fun j => ?_)
   refine zbt (zbo (zbc (zbc (zbo (zbc ?_)))))
   cases hF
   exact hQ _ _ _ _ _ rfl hO hL ⟨rfl, rfl⟩
  refine zF (zg (z3 (zk (zbd (ze hO [] [(7, zrg (IntKind.i64.wrap (g + 1)))] [0, 5, 6] zq3 fun j => ?_)))))
  refine zg (zk ?_)
  exact ⟨h, Nat.lt_succ_self _, (IntKind.i64.wrap (g + 1)), _, zrf zq2, hO, hL, hF⟩
 refine zbF (zbB (zbD (zk (zA hO [] [(2, .bool false)] zq0 fun j => ?_))))
 refine zba ?_
 cases hF
 exact hQ _ _ _ _ _ rfl hO hL ⟨rfl, rfl⟩
theorem zpf {τ : Hp} {p0 : zbh} {q : Value} {g : zbh} {h : Value} {o : Addr} (D : RdT Ty.str τ q p0.Fields) (z : RdT Ty.str τ h g.Fields) (S : At τ o [.string g.Name, h]) {rr : Bool} (hF : zja p0 g = some rr) :
  Ctr Try.prog 60 #[.agg #[.string p0.Name, q], .pointer (some o)] τ [] (fun v τ' vs' => v = .bool rr ∧ vs' = []) := by
 obtain ⟨G, I, rfl, -⟩ := D.form
 obtain ⟨U, V, rfl, -⟩ := z.form
 refine zbi (args := [.agg #[.string p0.Name, (.slice G p0.Fields.length I)], .pointer (some o)]) hm Try.func60 s60 rfl fun w0 σ hO Q hQ => ?_
 unfold zja at hF
 have hL := Hp.le.refl τ
 show wpn _ _ a60.body _ _ _
 unfold a60
 dsimp only
 refine zbQ (n := 2) hO rfl rfl fun W σ hO => ?_
 have hO := zrl1 hO
 refine ze hO [] [] [1, 2] zq1 fun j => ?_
 refine zK hO 3 [0] [(5, .string p0.Name), (6, .pointer (some o))] (And.intro (And.intro rfl rfl) zq1) fun j => ?_
 refine zE rfl ((S.le hL).le hO.base).fst ?_
 refine zA hO [] [(3, .bool (zP p0.Name g.Name))] zq0 fun j => ?_
 refine zba ?_
 cases hF
 have hO := hO.sel []
 exact hQ _ _ _ _ _ rfl hO hL ⟨rfl, rfl⟩
theorem zqA {τ : Hp} {V : Value} {p0 : (List zbh)} {h : zbh} {v1_0_1 : Value} {o : Addr} (W : RdT zx τ V p0) (r1_0_1 : RdT Ty.str τ v1_0_1 h.Fields) (I : At τ o [.string h.Name, v1_0_1]) {rr : Int} (hF : zgL p0 h = some rr) :
  Ctr Try.prog 59 #[V, .func (.func 60) #[] #[(.pointer (some o))]] τ [] (fun v τ' vs' => v = .int .i64 rr ∧ vs' = []) := by
 obtain ⟨S, U, rfl, -⟩ := W.form
 obtain ⟨A1_0_1, c1_0_1, rfl, -⟩ := r1_0_1.form
 refine zbi (args := [zrn S p0 U, .func (.func 60) #[] #[(.pointer (some o))]]) hm Try.func59 s59 rfl fun w0 σ hO Q hQ => ?_
 unfold zgL at hF
 have hL := Hp.le.refl τ
 show wpn _ _ a59.body _ _ _
 unfold a59
 dsimp only
 refine ze hO [] [] [0, 1] zq1 fun j => ?_
 refine zl (ze hO [] [(7, zrg (p0.length : Int)), (8, zrg 0)] [0, 1] zq3 fun j => ?_)
 refine zY (zbH (fun (n : Nat) e' σ' => ∃ (g : Int) (τ' : Hp), agr [(0, zrn S p0 U), (1, .func (.func 60) #[] #[(.pointer (some o))]), (7, zrg (p0.length : Int)), (8, zrg g)] e' ∧ Obs τ' σ' [] ∧ Hp.le τ τ' ∧ zhL p0 h n g = some rr) big ⟨0, _, zrf zq2, hO, hL, hF⟩ ?_)
 clear hF hO hL
 rintro q e σ ⟨g, _, hA, hO, hL, hF⟩
 rw [← zV _ _ hA]
 cases q with
 | zero => exact nomatch (show none = some rr from hF)
 | succ q =>
 replace hF : zir (zhL p0 h q) p0 h g = some rr := hF
 unfold zir at hF
 refine ze hO [] [(9, .bool (decide (g < (p0.length : Int))))] [0, 1, 7, 8] zq4 fun j => ?_
 refine zy hF rfl (fun hF => ?_) fun hF => ?_
 ·refine zF (zY (ze hO [] [(5, zrg g)] [0, 1, 7, 8] zq4 fun j => ?_))
  refine zd hO 3 [] [(11, .func (.func 60) #[] #[(.pointer (some o))]), (12, zrn S p0 U), (13, zrg g)] [0, 1, 5, 7, 8] zq7 fun j => ?_
  obtain ⟨b1, X, hF⟩ := zrm hF
  refine zO (T := zx) (W.le hL) hO.base rfl rfl X (by decide) fun a38 _ Y D => ?_
  obtain ⟨b2, rfl, z⟩ := Y
  obtain ⟨b3, b4, rfl, -⟩ := z.form
  refine zE rfl ((D.le hO.base).all rfl) ?_
  obtain ⟨b5, Z, hF⟩ := zrm hF
  refine zfN rfl (by kernel_rfl) hO (zpf z (r1_0_1.le hL) (I.le hL) Z) rfl fun _ σ _ _ hO G b0 => ?_
  have hL := hL.trans G
  have D := D.le G
  have z := z.le G
  obtain ⟨rfl, rfl⟩ := b0
  have hO : Obs _ _ [] := hO
  refine zf (zbC (zy hF rfl (fun hF => ?_) fun hF => ?_))
  ·refine zl (zA hO [] [(4, zrg g)] zq0 fun j => ?_)
   refine zbt (zbo (zbc (zbc (zbo (zbc ?_)))))
   cases hF
   exact hQ _ _ _ _ _ rfl hO hL ⟨rfl, rfl⟩
  refine zF (zg (z3 (zk (zbd (ze hO [] [(8, zrg (IntKind.i64.wrap (g + 1)))] [0, 1, 7] zq3 fun j => ?_)))))
  refine zg (zk ?_)
  exact ⟨q, Nat.lt_succ_self _, (IntKind.i64.wrap (g + 1)), _, zrf zq2, hO, hL, hF⟩
 refine zbF (zbB (zbD (zk (zA hO [] [(4, zrg (-1))] zq0 fun j => ?_))))
 refine zba ?_
 cases hF
 exact hQ _ _ _ _ _ rfl hO hL ⟨rfl, rfl⟩
theorem znM {τ : Hp} {p0 : zG} {g h : Value} {o : ByteArray} {q : Addr} (z : RdT zb2 τ g p0.Params) (D : RdT zX τ h p0.Body) (V : At τ q [.string o]) {rr : Bool} (hF : zjL p0 o = some rr) :
  Ctr Try.prog 67 #[.agg #[.string p0.Name, .int .i64 p0.Line, g, .int .u8 p0.Result.Kind.toNat, .int .i64 p0.Result.N, .string p0.Result.Name, h], .pointer (some q)] τ [] (fun v τ' vs' => v = .bool rr ∧ vs' = []) := by
 obtain ⟨G, I, rfl, -⟩ := z.form
 obtain ⟨S, U, rfl, -⟩ := D.form
 refine zbi (args := [.agg #[.string p0.Name, .int .i64 p0.Line, (.slice G p0.Params.length I), .int .u8 p0.Result.Kind.toNat, .int .i64 p0.Result.N, .string p0.Result.Name, (.slice S p0.Body.length U)], .pointer (some q)]) hm Try.func67 s67 rfl fun w0 σ hO Q hQ => ?_
 unfold zjL at hF
 have hL := Hp.le.refl τ
 show wpn _ _ a67.body _ _ _
 unfold a67
 dsimp only
 refine zbQ (n := 7) hO rfl rfl fun W σ hO => ?_
 have hO := zrl1 hO
 refine ze hO [] [] [1, 2] zq1 fun j => ?_
 refine zd hO 2 [0] [(5, .string p0.Name)] [1] (And.intro (And.intro rfl rfl) zq1) fun j => ?_
 refine zE rfl ((V.le hL).le hO.base).fst ?_
 refine zA hO [] [(3, .bool (zP p0.Name o))] zq0 fun j => ?_
 refine zba ?_
 cases hF
 have hO := hO.sel []
 exact hQ _ _ _ _ _ rfl hO hL ⟨rfl, rfl⟩
theorem zmj {τ : Hp} {W : Value} {p0 : (List zG)} {h : ByteArray} {o : Addr} (X : RdT zr τ W p0) (S : At τ o [.string h]) {rr : Int} (hF : zf0 p0 h = some rr) :
  Ctr Try.prog 66 #[W, .func (.func 67) #[] #[(.pointer (some o))]] τ [] (fun v τ' vs' => v = .int .i64 rr ∧ vs' = []) := by
 obtain ⟨U, V, rfl, -⟩ := X.form
 refine zbi (args := [zrn U p0 V, .func (.func 67) #[] #[(.pointer (some o))]]) hm Try.func66 s66 rfl fun w0 σ hO Q hQ => ?_
 unfold zf0 at hF
 have hL := Hp.le.refl τ
 show wpn _ _ a66.body _ _ _
 unfold a66
 dsimp only
 refine ze hO [] [] [0, 1] zq1 fun j => ?_
 refine zl (ze hO [] [(7, zrg (p0.length : Int)), (8, zrg 0)] [0, 1] zq3 fun j => ?_)
 refine zY (zbH (fun (n : Nat) e' σ' => ∃ (g : Int) (τ' : Hp), agr [(0, zrn U p0 V), (1, .func (.func 67) #[] #[(.pointer (some o))]), (7, zrg (p0.length : Int)), (8, zrg g)] e' ∧ Obs τ' σ' [] ∧ Hp.le τ τ' ∧ zhG p0 h n g = some rr) big ⟨0, _, zrf zq2, hO, hL, hF⟩ ?_)
 clear hF hO hL
 rintro q e σ ⟨g, _, hA, hO, hL, hF⟩
 rw [← zV _ _ hA]
 cases q with
 | zero => exact nomatch (show none = some rr from hF)
 | succ q =>
 replace hF : zi3 (zhG p0 h q) p0 h g = some rr := hF
 unfold zi3 at hF
 refine ze hO [] [(9, .bool (decide (g < (p0.length : Int))))] [0, 1, 7, 8] zq4 fun j => ?_
 refine zy hF rfl (fun hF => ?_) fun hF => ?_
 ·refine zF (zY (ze hO [] [(5, zrg g)] [0, 1, 7, 8] zq4 fun j => ?_))
  refine zd hO 3 [] [(11, .func (.func 67) #[] #[(.pointer (some o))]), (12, zrn U p0 V), (13, zrg g)] [0, 1, 5, 7, 8] zq7 fun j => ?_
  obtain ⟨b2, Y, hF⟩ := zrm hF
  refine zO (T := zr) (X.le hL) hO.base rfl rfl Y (by decide) fun a46 _ Z I => ?_
  obtain ⟨b3, b4, rfl, z, D⟩ := Z
  obtain ⟨b5, b6, rfl, -⟩ := z.form
  obtain ⟨b7, b8, rfl, -⟩ := D.form
  refine zE rfl ((I.le hO.base).all rfl) ?_
  obtain ⟨b9, b0, hF⟩ := zrm hF
  refine zfN rfl (by kernel_rfl) hO (znM z D (S.le hL) b0) rfl fun _ σ _ _ hO G b1 => ?_
  have hL := hL.trans G
  have I := I.le G
  have z := z.le G
  have D := D.le G
  obtain ⟨rfl, rfl⟩ := b1
  have hO : Obs _ _ [] := hO
  refine zf (zbC (zy hF rfl (fun hF => ?_) fun hF => ?_))
  ·refine zl (zA hO [] [(4, zrg g)] zq0 fun j => ?_)
   refine zbt (zbo (zbc (zbc (zbo (zbc ?_)))))
   cases hF
   exact hQ _ _ _ _ _ rfl hO hL ⟨rfl, rfl⟩
  refine zF (zg (z3 (zk (zbd (ze hO [] [(8, zrg (IntKind.i64.wrap (g + 1)))] [0, 1, 7] zq3 fun j => ?_)))))
  refine zg (zk ?_)
  exact ⟨q, Nat.lt_succ_self _, (IntKind.i64.wrap (g + 1)), _, zrf zq2, hO, hL, hF⟩
 refine zbF (zbB (zbD (zk (zA hO [] [(4, zrg (-1))] zq0 fun j => ?_))))
 refine zba ?_
 cases hF
 exact hQ _ _ _ _ _ rfl hO hL ⟨rfl, rfl⟩
theorem zn6 {τ : Hp} {q0 : zb} {V : Nat} {g h o : Value} {q : Ob} {z : Value} {D : Ob} {G : Value} {I : Ob} {S : Value} {U : Ob} {p1 : ByteArray} (X : RdT zx τ g q0.prog.Structs) (W : RdT zr τ h q0.prog.Funcs) (Y : za zp 59 τ o q0.tree.Bodies q) (Z : za zo 87 τ z q0.tree.Points D) (b0 : za zq 82 τ G q0.vars I) (b1 : za (Ty.int .i64) 3 τ S q0.scope U) {rr : Int} (hF : zeJ q0 p1 = some rr) :
  Ctr Try.prog 53 #[.pointer (some ⟨V, 0, none⟩), .string p1] τ [zn V g h o q0.tree.Main z q0.fn G S, q, D, I, U] (fun v τ' vs' => v = .int .i64 rr ∧ vs' = [zn V g h o q0.tree.Main z q0.fn G S, q, D, I, U]) := by
 obtain ⟨b7, b8, rfl, -⟩ := X.form
 obtain ⟨b2, b4, rfl, -⟩ := W.form
 obtain ⟨b9, c0, rfl, -⟩ := Y.form
 obtain ⟨c1, c2, rfl, -⟩ := Z.form
 obtain ⟨c3, c4, rfl, -⟩ := b0.form
 obtain ⟨c5, c7, rfl, -⟩ := b1.form
 refine zbi (args := [.pointer (some ⟨V, 0, none⟩), .string p1]) hm Try.func53 s53 rfl fun w0 σ hO Q hQ => ?_
 unfold zeJ at hF
 have hL := Hp.le.refl τ
 show wpn _ _ a53.body _ _ _
 unfold a53
 dsimp only
 refine zbQ (n := 1) hO rfl rfl fun b3 σ hO => ?_
 have hO := zrl6 hO
 refine ze hO [] [] [0, 3] zq1 fun j => ?_
 refine zd hO 6 [0] [(9, zrn b2 q0.prog.Funcs b4), (10, .func (.func 67) #[] #[(.pointer (some ⟨b3, 0, none⟩))])] [0] (And.intro (And.intro rfl rfl) zq2) fun j => ?_
 obtain ⟨_, h5, m4, hO⟩ := hO.shareV (i := 5) rfl
 have hL := hL.trans h5
 have hO := zrl6 hO
 obtain ⟨c6, h7, hF⟩ := zrm hF
 refine zL hO (zmj (W.le hL) m4 h7) rfl fun _ σ _ _ hO h8 h9 => ?_
 have hL := hL.trans h8
 have m4 := m4.le h8
 obtain ⟨rfl, rfl⟩ := h9
 have hO := zrl6 hO
 refine ze hO [] [(4, zrg c6)] [0] zq1 fun j => ?_
 refine zba ?_
 cases hF
 have hO := hO.sel [0, 1, 2, 3, 4]
 exact hQ _ _ _ _ _ rfl hO hL ⟨rfl, rfl⟩
theorem zgx {τ : Hp} {p0 : zz}  {rr : Bool} (hF : zc3 p0 = some rr) :
  Ctr Try.prog 62 #[.agg #[.int .u8 p0.Kind.toNat, .int .i64 p0.N, .string p0.Name]] τ [] (fun v τ' vs' => v = .bool rr ∧ vs' = []) := by
 refine zbi (args := [.agg #[.int .u8 p0.Kind.toNat, .int .i64 p0.N, .string p0.Name]]) hm Try.func62 s62 rfl fun w0 σ hO Q hQ => ?_
 unfold zc3 at hF
 have hL := Hp.le.refl τ
 show wpn _ _ a62.body _ _ _
 unfold a62
 dsimp only
 refine zbQ (n := 3) hO rfl rfl fun g σ hO => ?_
 have hO := zrl1 hO
 refine ze hO [] [] [1] zq0 fun j => ?_
 refine zA hO [0, 0] [(2, .bool (((p0.Kind.toNat : Int) == 1) || ((p0.Kind.toNat : Int) == 2)))] (And.intro (And.intro rfl rfl) (And.intro (And.intro rfl rfl) (And.intro (And.intro rfl rfl) (fun _ => zrf trivial)))) fun j => ?_
 refine zba ?_
 cases hF
 have hO := hO.sel []
 exact hQ _ _ _ _ _ rfl hO hL ⟨rfl, rfl⟩
theorem zpY {τ : Hp} {p0 : zbh} {g : Value} {h : ByteArray} {o : Addr} (q : RdT Ty.str τ g p0.Fields) (G : At τ o [.string h]) {rr : Bool} (hF : zjz p0 h = some rr) :
  Ctr Try.prog 85 #[.agg #[.string p0.Name, g], .pointer (some o)] τ [] (fun v τ' vs' => v = .bool rr ∧ vs' = []) := by
 obtain ⟨z, D, rfl, -⟩ := q.form
 refine zbi (args := [.agg #[.string p0.Name, (.slice z p0.Fields.length D)], .pointer (some o)]) hm Try.func85 s85 rfl fun w0 σ hO Q hQ => ?_
 unfold zjz at hF
 have hL := Hp.le.refl τ
 show wpn _ _ a85.body _ _ _
 unfold a85
 dsimp only
 refine zbQ (n := 2) hO rfl rfl fun I σ hO => ?_
 have hO := zrl1 hO
 refine ze hO [] [] [1, 2] zq1 fun j => ?_
 refine zd hO 2 [0] [(5, .string p0.Name)] [1] (And.intro (And.intro rfl rfl) zq1) fun j => ?_
 refine zE rfl ((G.le hL).le hO.base).fst ?_
 refine zA hO [] [(3, .bool (zP p0.Name h))] zq0 fun j => ?_
 refine zba ?_
 cases hF
 have hO := hO.sel []
 exact hQ _ _ _ _ _ rfl hO hL ⟨rfl, rfl⟩
theorem zmp {τ : Hp} {V : Value} {p0 : (List zbh)} {h : ByteArray} {o : Addr} (W : RdT zx τ V p0) (I : At τ o [.string h]) {rr : Int} (hF : zhR p0 h = some rr) :
  Ctr Try.prog 59 #[V, .func (.func 85) #[] #[(.pointer (some o))]] τ [] (fun v τ' vs' => v = .int .i64 rr ∧ vs' = []) := by
 obtain ⟨S, U, rfl, -⟩ := W.form
 refine zbi (args := [zrn S p0 U, .func (.func 85) #[] #[(.pointer (some o))]]) hm Try.func59 s59 rfl fun w0 σ hO Q hQ => ?_
 unfold zhR at hF
 have hL := Hp.le.refl τ
 show wpn _ _ a59.body _ _ _
 unfold a59
 dsimp only
 refine ze hO [] [] [0, 1] zq1 fun j => ?_
 refine zl (ze hO [] [(7, zrg (p0.length : Int)), (8, zrg 0)] [0, 1] zq3 fun j => ?_)
 refine zY (zbH (fun (n : Nat) e' σ' => ∃ (g : Int) (τ' : Hp), agr [(0, zrn S p0 U), (1, .func (.func 85) #[] #[(.pointer (some o))]), (7, zrg (p0.length : Int)), (8, zrg g)] e' ∧ Obs τ' σ' [] ∧ Hp.le τ τ' ∧ zhk p0 h n g = some rr) big ⟨0, _, zrf zq2, hO, hL, hF⟩ ?_)
 clear hF hO hL
 rintro q e σ ⟨g, _, hA, hO, hL, hF⟩
 rw [← zV _ _ hA]
 cases q with
 | zero => exact nomatch (show none = some rr from hF)
 | succ q =>
 replace hF : ziI (zhk p0 h q) p0 h g = some rr := hF
 unfold ziI at hF
 refine ze hO [] [(9, .bool (decide (g < (p0.length : Int))))] [0, 1, 7, 8] zq4 fun j => ?_
 refine zy hF rfl (fun hF => ?_) fun hF => ?_
 ·refine zF (zY (ze hO [] [(5, zrg g)] [0, 1, 7, 8] zq4 fun j => ?_))
  refine zd hO 3 [] [(11, .func (.func 85) #[] #[(.pointer (some o))]), (12, zrn S p0 U), (13, zrg g)] [0, 1, 5, 7, 8] zq7 fun j => ?_
  obtain ⟨b1, X, hF⟩ := zrm hF
  refine zO (T := zx) (W.le hL) hO.base rfl rfl X (by decide) fun a38 _ Y D => ?_
  obtain ⟨b2, rfl, z⟩ := Y
  obtain ⟨b3, b4, rfl, -⟩ := z.form
  refine zE rfl ((D.le hO.base).all rfl) ?_
  obtain ⟨b5, Z, hF⟩ := zrm hF
  refine zfN rfl (by kernel_rfl) hO (zpY z (I.le hL) Z) rfl fun _ σ _ _ hO G b0 => ?_
  have hL := hL.trans G
  have D := D.le G
  have z := z.le G
  obtain ⟨rfl, rfl⟩ := b0
  have hO : Obs _ _ [] := hO
  refine zf (zbC (zy hF rfl (fun hF => ?_) fun hF => ?_))
  ·refine zl (zA hO [] [(4, zrg g)] zq0 fun j => ?_)
   refine zbt (zbo (zbc (zbc (zbo (zbc ?_)))))
   cases hF
   exact hQ _ _ _ _ _ rfl hO hL ⟨rfl, rfl⟩
  refine zF (zg (z3 (zk (zbd (ze hO [] [(8, zrg (IntKind.i64.wrap (g + 1)))] [0, 1, 7] zq3 fun j => ?_)))))
  refine zg (zk ?_)
  exact ⟨q, Nat.lt_succ_self _, (IntKind.i64.wrap (g + 1)), _, zrf zq2, hO, hL, hF⟩
 refine zbF (zbB (zbD (zk (zA hO [] [(4, zrg (-1))] zq0 fun j => ?_))))
 refine zba ?_
 cases hF
 exact hQ _ _ _ _ _ rfl hO hL ⟨rfl, rfl⟩
theorem zlg {τ : Hp} {q0 : zb} {W : Nat} {g h o : Value} {q : Ob} {z : Value} {D : Ob} {G : Value} {I : Ob} {S : Value} {U : Ob} {p1 : ByteArray} (V : RdT zx τ g q0.prog.Structs) (Z : RdT zr τ h q0.prog.Funcs) (b0 : za zp 59 τ o q0.tree.Bodies q) (b1 : za zo 87 τ z q0.tree.Points D) (b2 : za zq 82 τ G q0.vars I) (b4 : za (Ty.int .i64) 3 τ S q0.scope U) {rr : (List ByteArray) × Bool} (hF : zfy q0 p1 = some rr) :
  Ctr Try.prog 78 #[.pointer (some ⟨W, 0, none⟩), .string p1] τ [zn W g h o q0.tree.Main z q0.fn G S, q, D, I, U] (fun v τ' vs' => ∃ (v0 : Value), v = .tuple #[v0, .bool rr.2] ∧ vs' = [zn W g h o q0.tree.Main z q0.fn G S, q, D, I, U] ∧ RdT Ty.str τ' v0 rr.1) := by
 obtain ⟨X, Y, rfl, -⟩ := V.form
 obtain ⟨c7, c8, rfl, -⟩ := Z.form
 obtain ⟨c9, d0, rfl, -⟩ := b0.form
 obtain ⟨d5, d6, rfl, -⟩ := b1.form
 obtain ⟨d7, d8, rfl, -⟩ := b2.form
 obtain ⟨d9, f0, rfl, -⟩ := b4.form
 refine zbi (args := [.pointer (some ⟨W, 0, none⟩), .string p1]) hm Try.func78 s78 rfl fun w0 σ hO Q hQ => ?_
 unfold zfy at hF
 have hL := Hp.le.refl τ
 show wpn _ _ a78.body _ _ _
 unfold a78
 dsimp only
 refine zbQ (n := 1) hO rfl rfl fun b3 σ hO => ?_
 have hO := zrl6 hO
 refine ze hO [] [] [0, 3] zq1 fun j => ?_
 refine zd hO 6 [0] [(11, zrn X q0.prog.Structs Y), (12, .func (.func 85) #[] #[(.pointer (some ⟨b3, 0, none⟩))])] [0] (And.intro (And.intro rfl rfl) zq2) fun j => ?_
 obtain ⟨_, h5, m4, hO⟩ := hO.shareV (i := 5) rfl
 have hL := hL.trans h5
 have hO := zrl6 hO
 obtain ⟨c6, h7, hF⟩ := zrm hF
 refine zL hO (zmp (V.le hL) m4 h7) rfl fun _ σ _ _ hO h8 h9 => ?_
 have hL := hL.trans h8
 have m4 := m4.le h8
 obtain ⟨rfl, rfl⟩ := h9
 have hO := zrl6 hO
 refine ze hO [] [(6, zrg c6)] [0] zq1 fun j => ?_
 refine zl (ze hO [] [(15, .bool (decide (c6 < 0)))] [0, 6] zq2 fun j => ?_)
 refine zy hF rfl (fun hF => ?_) fun hF => ?_
 ·refine zl (ze hO [] [(4, .slice none 0 0), (5, .bool false)] [0] zq2 fun j => ?_)
  refine zbt ?_
  cases hF
  have hO := hO.sel [0, 1, 2, 3, 4]
  exact hQ _ _ _ _ _ rfl hO hL ⟨_, rfl, rfl, (RdT.nil _ _)⟩
 refine zF (zd hO 6 [0] [(20, zrn X q0.prog.Structs Y), (21, zrg c6)] [0] (And.intro (And.intro rfl rfl) zq2) fun j => ?_)
 obtain ⟨c0, c1, hF⟩ := zrm hF
 refine zO (T := zx) (V.le hL) hO.base rfl rfl c1 (by decide) fun a13 _ c2 c3 => ?_
 obtain ⟨f5, rfl, b5⟩ := c2
 obtain ⟨c4, c5, rfl, -⟩ := b5.form
 refine zd hO 1 [] [(23, .pointer (some (a13.add 1)))] [0] zq1 fun j => ?_
 refine zE rfl ((c3.le hO.base).one 1 rfl) ?_
 refine ze hO [] [(4, zrn c4 c0.Fields c5), (5, .bool true)] [0] zq2 fun j => ?_
 refine zba ?_
 cases hF
 have hO := hO.sel [0, 1, 2, 3, 4]
 exact hQ _ _ _ _ _ rfl hO hL ⟨_, rfl, rfl, b5⟩
theorem ziW {τ : Hp} {q0 : zb} {V : Nat} {g h o : Value} {q : Ob} {z : Value} {D : Ob} {G : Value} {I : Ob} {S : Value} {U : Ob} {p1 : zz} (W : RdT zx τ g q0.prog.Structs) (X : RdT zr τ h q0.prog.Funcs) (Y : za zp 59 τ o q0.tree.Bodies q) (Z : za zo 87 τ z q0.tree.Points D) (b0 : za zq 82 τ G q0.vars I) (b1 : za (Ty.int .i64) 3 τ S q0.scope U) {rr : Bool} (hF : zc8 q0 p1 = some rr) :
  Ctr Try.prog 63 #[.pointer (some ⟨V, 0, none⟩), .agg #[.int .u8 p1.Kind.toNat, .int .i64 p1.N, .string p1.Name]] τ [zn V g h o q0.tree.Main z q0.fn G S, q, D, I, U] (fun v τ' vs' => v = .bool rr ∧ vs' = [zn V g h o q0.tree.Main z q0.fn G S, q, D, I, U]) := by
 obtain ⟨b5, b6, rfl, -⟩ := W.form
 obtain ⟨b7, b8, rfl, -⟩ := X.form
 obtain ⟨b9, c0, rfl, -⟩ := Y.form
 obtain ⟨c1, c2, rfl, -⟩ := Z.form
 obtain ⟨c3, c5, rfl, -⟩ := b0.form
 obtain ⟨c6, c7, rfl, -⟩ := b1.form
 refine zbi (args := [.pointer (some ⟨V, 0, none⟩), .agg #[.int .u8 p1.Kind.toNat, .int .i64 p1.N, .string p1.Name]]) hm Try.func63 s63 rfl fun w0 σ hO Q hQ => ?_
 unfold zc8 at hF
 have hL := Hp.le.refl τ
 show wpn _ _ a63.body _ _ _
 unfold a63
 dsimp only
 refine zbQ (n := 3) hO rfl rfl fun b3 σ hO => ?_
 have hO := zrl6 hO
 refine ze hO [] [] [0, 3] zq1 fun j => ?_
 refine zd hO 3 [5] [(8, zrh V), (10, .string p1.Name)] [0, 3] (And.intro (And.intro rfl rfl) zq3) fun j => ?_
 obtain ⟨c4, h5, hF⟩ := zrm hF
 have hO := hO.sel [5, 0, 1, 2, 3, 4]
 refine zce (hs := [_]) hO (zlg (W.le hL) (X.le hL) (Y.le hL) (Z.le hL) (b0.le hL) (b1.le hL) h5) rfl fun _ σ _ _ hO h6 h7 => ?_
 have hL := hL.trans h6
 obtain ⟨v8, rfl, rfl, b4⟩ := h7
 obtain ⟨A9, d5, rfl, -⟩ := b4.form
 have hO := zrl6 hO
 have hO := hO.sel [1, 2, 3, 4, 5, 0]
 have hO := zrl6 hO
 refine ze hO [] [(6, .bool c4.2)] [0, 3] zq2 fun j => ?_
 refine ze hO [5] [(4, .bool (((p1.Kind.toNat : Int) != 4) || c4.2))] [0] (And.intro (And.intro rfl rfl) (And.intro (And.intro rfl rfl) (fun _ => zrf zq0))) fun j => ?_
 refine zba ?_
 cases hF
 have hO := hO.sel [0, 1, 2, 3, 4]
 exact hQ _ _ _ _ _ rfl hO hL ⟨rfl, rfl⟩
theorem zpE {τ : Hp} {h : Value} {p0 : (List Int)} (q : RdT (Ty.int .i64) τ h p0) {rr : (List Int)} (hF : zhy p0 = some rr) :
  Ctr Try.prog 86 #[h] τ [] (fun v τ' vs' => ∃ (h : Value) (z : Ob), v = h ∧ vs' = [z] ∧ za (Ty.int .i64) 3 τ' h rr z) := by
 obtain ⟨g, o, rfl, -⟩ := q.form
 refine zbi (args := [.slice g p0.length o]) hm Try.func86 s86 rfl fun w0 σ hO Q hQ => ?_
 unfold zhy at hF
 obtain ⟨_, hr, hF⟩ := zrm hF
 injection hF with hF
 subst hF
 have hL := Hp.le.refl τ
 show wpn _ _ a86.body _ _ _
 unfold a86
 dsimp only
 refine zA hO [] [(0, zrn g p0 o)] zq0 fun j => ?_
 refine zl (zA hO [] [(0, zrn g p0 o), (4, .bool g.isNone)] zq1 fun j => ?_)
 rcases (Bool.eq_false_or_eq_true g.isNone).symm with hA | hA
 ·refine zgn (zri hA) ?_
  refine zF (zbG (T := (Ty.int .i64)) (l := []) (cs := []) hO rfl rfl rfl (by decide) fun _ σ S w1 hO => ?_)
  obtain ⟨D, G, rfl, -⟩ := w1.form
  refine zK hO 1 [] [(5, .slice D 0 G), (6, zrn g p0 o)] zq1 fun j => ?_
  refine ze2 (T := (Ty.int .i64)) hO w1 (i := 0) rfl rfl rfl q (by simpa using hr) (by decide) fun _ σ U I hO => ?_
  refine zA hO [] [(2, _)] zq0 fun j => ?_
  refine zba ?_
  exact hQ _ _ _ _ _ rfl hO hL ⟨_, _, rfl, rfl, I⟩
 refine zgZ (zri hA) ?_
 have := q.empty (by decide) hA
 subst this
 refine zl (zA hO [] [(2, .slice none 0 0)] zq0 fun j => ?_)
 refine zbt ?_
 have hO := hO.no
 exact hQ _ _ _ _ _ rfl hO hL ⟨_, _, rfl, rfl, za.nil _ _ _⟩
theorem zo1 {τ : Hp} {p0 : zI} {g : Value} {h : ByteArray} {o : Addr} (q : RdT Ty.str τ g p0.Fields) (G : At τ o [.string h]) {rr : Bool} (hF : ziE p0 h = some rr) :
  Ctr Try.prog 101 #[.agg #[.string p0.Name, .int .u8 p0.Type_.Kind.toNat, .int .i64 p0.Type_.N, .string p0.Type_.Name, .int .i64 p0.Words, g], .pointer (some o)] τ [] (fun v τ' vs' => v = .bool rr ∧ vs' = []) := by
 obtain ⟨z, D, rfl, -⟩ := q.form
 refine zbi (args := [.agg #[.string p0.Name, .int .u8 p0.Type_.Kind.toNat, .int .i64 p0.Type_.N, .string p0.Type_.Name, .int .i64 p0.Words, (.slice z p0.Fields.length D)], .pointer (some o)]) hm Try.func101 zpX rfl fun w0 σ hO Q hQ => ?_
 unfold ziE at hF
 have hL := Hp.le.refl τ
 show wpn _ _ ziH.body _ _ _
 unfold ziH
 dsimp only
 refine zbQ (n := 6) hO rfl rfl fun I σ hO => ?_
 have hO := zrl1 hO
 refine ze hO [] [] [1, 2] zq1 fun j => ?_
 refine zd hO 2 [0] [(5, .string p0.Name)] [1] (And.intro (And.intro rfl rfl) zq1) fun j => ?_
 refine zE rfl ((G.le hL).le hO.base).fst ?_
 refine zA hO [] [(3, .bool (zP p0.Name h))] zq0 fun j => ?_
 refine zba ?_
 cases hF
 have hO := hO.sel []
 exact hQ _ _ _ _ _ rfl hO hL ⟨rfl, rfl⟩
theorem zpW {τ : Hp} {V : Value} {p0 : (List zI)} {h : ByteArray} {o : Addr} (W : RdT zq τ V p0) (I : At τ o [.string h]) {rr : Int} (hF : zg1 p0 h = some rr) :
  Ctr Try.prog 100 #[V, .func (.func 101) #[] #[(.pointer (some o))]] τ [] (fun v τ' vs' => v = .int .i64 rr ∧ vs' = []) := by
 obtain ⟨S, U, rfl, -⟩ := W.form
 refine zbi (args := [zrn S p0 U, .func (.func 101) #[] #[(.pointer (some o))]]) hm Try.func100 zpk rfl fun w0 σ hO Q hQ => ?_
 unfold zg1 at hF
 have hL := Hp.le.refl τ
 show wpn _ _ zji.body _ _ _
 unfold zji
 dsimp only
 refine ze hO [] [] [0, 1] zq1 fun j => ?_
 refine zl (ze hO [] [(7, zrg (p0.length : Int)), (8, zrg 0)] [0, 1] zq3 fun j => ?_)
 refine zY (zbH (fun (n : Nat) e' σ' => ∃ (g : Int) (τ' : Hp), agr [(0, zrn S p0 U), (1, .func (.func 101) #[] #[(.pointer (some o))]), (7, zrg (p0.length : Int)), (8, zrg g)] e' ∧ Obs τ' σ' [] ∧ Hp.le τ τ' ∧ zhS p0 h n g = some rr) big ⟨0, _, zrf zq2, hO, hL, hF⟩ ?_)
 clear hF hO hL
 rintro q e σ ⟨g, _, hA, hO, hL, hF⟩
 rw [← zV _ _ hA]
 cases q with
 | zero => exact nomatch (show none = some rr from hF)
 | succ q =>
 replace hF : zjK (zhS p0 h q) p0 h g = some rr := hF
 unfold zjK at hF
 refine ze hO [] [(9, .bool (decide (g < (p0.length : Int))))] [0, 1, 7, 8] zq4 fun j => ?_
 refine zy hF rfl (fun hF => ?_) fun hF => ?_
 ·refine zF (zY (ze hO [] [(5, zrg g)] [0, 1, 7, 8] zq4 fun j => ?_))
  refine zd hO 3 [] [(11, .func (.func 101) #[] #[(.pointer (some o))]), (12, zrn S p0 U), (13, zrg g)] [0, 1, 5, 7, 8] zq7 fun j => ?_
  obtain ⟨b1, X, hF⟩ := zrm hF
  refine zO (T := zq) (W.le hL) hO.base rfl rfl X (by decide) fun a38 _ Y D => ?_
  obtain ⟨b2, rfl, z⟩ := Y
  obtain ⟨b3, b4, rfl, -⟩ := z.form
  refine zE rfl ((D.le hO.base).all rfl) ?_
  obtain ⟨b5, Z, hF⟩ := zrm hF
  refine zfN rfl (by kernel_rfl) hO (zo1 z (I.le hL) Z) rfl fun _ σ _ _ hO G b0 => ?_
  have hL := hL.trans G
  have D := D.le G
  have z := z.le G
  obtain ⟨rfl, rfl⟩ := b0
  have hO : Obs _ _ [] := hO
  refine zf (zbC (zy hF rfl (fun hF => ?_) fun hF => ?_))
  ·refine zl (zA hO [] [(4, zrg g)] zq0 fun j => ?_)
   refine zbt (zbo (zbc (zbc (zbo (zbc ?_)))))
   cases hF
   exact hQ _ _ _ _ _ rfl hO hL ⟨rfl, rfl⟩
  refine zF (zg (z3 (zk (zbd (ze hO [] [(8, zrg (IntKind.i64.wrap (g + 1)))] [0, 1, 7] zq3 fun j => ?_)))))
  refine zg (zk ?_)
  exact ⟨q, Nat.lt_succ_self _, (IntKind.i64.wrap (g + 1)), _, zrf zq2, hO, hL, hF⟩
 refine zbF (zbB (zbD (zk (zA hO [] [(4, zrg (-1))] zq0 fun j => ?_))))
 refine zba ?_
 cases hF
 exact hQ _ _ _ _ _ rfl hO hL ⟨rfl, rfl⟩
theorem zld {τ : Hp} {q0 : zb} {W : Nat} {g o q : Value} {z : Ob} {D : Value} {G : Ob} {I : Value} {S : Ob} {U : Value} {V : Ob} {p1 : ByteArray} (Y : RdT zx τ g q0.prog.Structs) (Z : RdT zr τ o q0.prog.Funcs) (b0 : za zp 59 τ q q0.tree.Bodies z) (b1 : za zo 87 τ D q0.tree.Points G) (X : za zq 82 τ I q0.vars S) (b2 : za (Ty.int .i64) 3 τ U q0.scope V) {rr : Int} (hF : zeV q0 p1 = some rr) :
  Ctr Try.prog 93 #[.pointer (some ⟨W, 0, none⟩), .string p1] τ [zn W g o q q0.tree.Main D q0.fn I U, z, G, S, V] (fun v τ' vs' => v = .int .i64 rr ∧ vs' = [zn W g o q q0.tree.Main D q0.fn I U, z, G, S, V]) := by
 obtain ⟨c0, c1, rfl, -⟩ := Y.form
 obtain ⟨c2, c3, rfl, -⟩ := Z.form
 obtain ⟨c4, c5, rfl, -⟩ := b0.form
 obtain ⟨c7, c8, rfl, -⟩ := b1.form
 obtain ⟨b4, b5, rfl, -⟩ := X.form
 obtain ⟨c9, d0, rfl, -⟩ := b2.form
 refine zbi (args := [.pointer (some ⟨W, 0, none⟩), .string p1]) hm Try.func93 s93 rfl fun w0 σ hO Q hQ => ?_
 unfold zeV at hF
 have hL := Hp.le.refl τ
 show wpn _ _ a93.body _ _ _
 unfold a93
 dsimp only
 refine zbQ (n := 1) hO rfl rfl fun b3 σ hO => ?_
 have hO := zrl6 hO
 refine ze hO [] [] [0, 3] zq1 fun j => ?_
 refine zd hO 5 [0] [(8, zrn b4 q0.vars b5), (9, .func (.func 101) #[] #[(.pointer (some ⟨b3, 0, none⟩))])] [0] (And.intro (And.intro rfl rfl) zq2) fun j => ?_
 obtain ⟨_, h5, m4, hO⟩ := hO.shareV (i := 5) rfl
 have hL := hL.trans h5
 have hO := zrl6 hO
 obtain ⟨c6, h7, hF⟩ := zrm hF
 have hO := hO.sel [0, 1, 2, 4, 5, 3]
 refine zce (hs := [_, _, _, _, _]) hO (Ctr.lendG (X.le hL) (fun _ _ _ _ h => h) fun _ b7 b8 => zpW b8 (m4.le b7) h7) rfl fun _ σ _ _ hO h8 h9 => ?_
 have hL := hL.trans h8
 have m4 := m4.le h8
 obtain ⟨_, rfl, rfl, rfl⟩ := h9
 have hO := zrl6 hO
 have hO := hO.sel [0, 1, 2, 5, 3, 4]
 have hO := zrl6 hO
 refine ze hO [] [(4, zrg c6)] [0] zq1 fun j => ?_
 refine zba ?_
 cases hF
 have hO := hO.sel [0, 1, 2, 3, 4]
 exact hQ _ _ _ _ _ rfl hO hL ⟨rfl, rfl⟩
theorem zm3 {τ : Hp} {D : Value} {p0 : (List Int)} {p1 : Int} (G : RdT (Ty.int .i64) τ D p0) {rr : Int} (hF : zhg p0 p1 = some rr) :
  Ctr Try.prog 106 #[D, .int .i64 p1] τ [] (fun v τ' vs' => v = .int .i64 rr ∧ vs' = []) := by
 obtain ⟨q, z, rfl, -⟩ := G.form
 refine zbi (args := [.slice q p0.length z, .int .i64 p1]) hm Try.func106 zon rfl fun w0 σ hO Q hQ => ?_
 unfold zhg at hF
 have hL := Hp.le.refl τ
 show wpn _ _ zjP.body _ _ _
 unfold zjP
 dsimp only
 refine ze hO [] [] [0, 1] zq1 fun j => ?_
 refine zl (ze hO [] [(7, zrg (p0.length : Int)), (8, zrg 0)] [0, 1] zq3 fun j => ?_)
 refine zY (zbH (fun (n : Nat) e' σ' => ∃ (g : Int) (τ' : Hp), agr [(0, zrn q p0 z), (1, zrg p1), (7, zrg (p0.length : Int)), (8, zrg g)] e' ∧ Obs τ' σ' [] ∧ Hp.le τ τ' ∧ zhJ p0 p1 n g = some rr) big ⟨0, _, zrf zq2, hO, hL, hF⟩ ?_)
 clear hF hO hL
 rintro h e σ ⟨g, _, hA, hO, hL, hF⟩
 rw [← zV _ _ hA]
 cases h with
 | zero => exact nomatch (show none = some rr from hF)
 | succ h =>
 replace hF : zjI (zhJ p0 p1 h) p0 p1 g = some rr := hF
 unfold zjI at hF
 refine ze hO [] [(9, .bool (decide (g < (p0.length : Int))))] [0, 1, 7, 8] zq4 fun j => ?_
 refine zy hF rfl (fun hF => ?_) fun hF => ?_
 ·refine zF (zY (ze hO [] [(5, zrg g)] [0, 1, 7, 8] zq4 fun j => ?_))
  refine zd hO 3 [] [(11, zrg p1), (12, zrn q p0 z), (13, zrg g)] [0, 1, 5, 7, 8] zq7 fun j => ?_
  obtain ⟨o, I, hF⟩ := zrm hF
  refine zO (T := (Ty.int .i64)) (G.le hL) hO.base rfl rfl I (by decide) fun a22 _ S U => ?_
  obtain rfl : _ = ([.int .i64 o] : List Value) := S
  refine zE rfl (U.le hO.base).fst ?_
  refine ze hO [] [(16, .bool (p1 == o))] [0, 1, 5, 7, 8] zq5 fun j => ?_
  refine zbC (zy hF rfl (fun hF => ?_) fun hF => ?_)
  ·refine zl (zA hO [] [(4, zrg g)] zq0 fun j => ?_)
   refine zbt (zbo (zbc (zbc (zbo (zbc ?_)))))
   cases hF
   exact hQ _ _ _ _ _ rfl hO hL ⟨rfl, rfl⟩
  refine zF (zg (z3 (zk (zbd (ze hO [] [(8, zrg (IntKind.i64.wrap (g + 1)))] [0, 1, 7] zq3 fun j => ?_)))))
  refine zg (zk ?_)
  exact ⟨h, Nat.lt_succ_self _, (IntKind.i64.wrap (g + 1)), _, zrf zq2, hO, hL, hF⟩
 refine zbF (zbB (zbD (zk (zA hO [] [(4, zrg (-1))] zq0 fun j => ?_))))
 refine zba ?_
 cases hF
 exact hQ _ _ _ _ _ rfl hO hL ⟨rfl, rfl⟩
theorem zn0 {τ : Hp} {g : Value} {p0 : (List Int)} {p1 : Int} (h : RdT (Ty.int .i64) τ g p0) {rr : Bool} (hF : zfX p0 p1 = some rr) :
  Ctr Try.prog 102 #[g, .int .i64 p1] τ [] (fun v τ' vs' => v = .bool rr ∧ vs' = []) := by
 obtain ⟨o, q, rfl, -⟩ := h.form
 refine zbi (args := [.slice o p0.length q, .int .i64 p1]) hm Try.func102 zqp rfl fun w0 σ hO Q hQ => ?_
 unfold zfX at hF
 have hL := Hp.le.refl τ
 show wpn _ _ ziJ.body _ _ _
 unfold ziJ
 dsimp only
 refine ze hO [] [] [0, 1] zq1 fun j => ?_
 refine zK hO 2 [] [(5, zrn o p0 q), (6, zrg p1)] zq1 fun j => ?_
 obtain ⟨z, D, hF⟩ := zrm hF
 refine zL hO (zm3 (h.le hL) D) rfl fun _ σ _ _ hO G I => ?_
 have hL := hL.trans G
 obtain ⟨rfl, rfl⟩ := I
 have hO : Obs _ _ [] := hO
 refine zA hO [] [(4, .bool (decide (z ≥ 0)))] zq0 fun j => ?_
 refine zba ?_
 cases hF
 exact hQ _ _ _ _ _ rfl hO hL ⟨rfl, rfl⟩
theorem zfo {τ : Hp} {q0 : zb} {D : Nat} {G I S : Value} {g : Ob} {U : Value} {o : Ob} {V : Value} {q : Ob} {W : Value} {z : Ob} {p1 : ByteArray} (Z : RdT zx τ G q0.prog.Structs) (b0 : RdT zr τ I q0.prog.Funcs) (b1 : za zp 59 τ S q0.tree.Bodies g) (b2 : za zo 87 τ U q0.tree.Points o) (b3 : za zq 82 τ V q0.vars q) (X : za (Ty.int .i64) 3 τ W q0.scope z) {rr : Except (Value) (Int)} (hF : zen q0 p1 = some rr) :
  zbu Try.prog 95 #[.pointer (some ⟨D, 0, none⟩), .string p1] τ [zn D G I S q0.tree.Main U q0.fn V W, g, o, q, z] (fun v τ' vs' => match (generalizing := false) rr with | .ok rr => v = .int .i64 rr ∧ vs' = [zn D G I S q0.tree.Main U q0.fn V W, g, o, q, z] | .error _ => False) (fun ch τ' vs' => match (generalizing := false) rr with | .ok _ => False | .error ee => ch = [{ v := ee, recovered := false }] ∧ vs' = [zn D G I S q0.tree.Main U q0.fn V W, g, o, q, z]) := by
 obtain ⟨b7, b8, rfl, -⟩ := Z.form
 obtain ⟨b9, c0, rfl, -⟩ := b0.form
 obtain ⟨c1, c2, rfl, -⟩ := b1.form
 obtain ⟨c4, c5, rfl, -⟩ := b2.form
 obtain ⟨c6, c8, rfl, -⟩ := b3.form
 obtain ⟨b4, b5, rfl, -⟩ := X.form
 refine zcH (args := [.pointer (some ⟨D, 0, none⟩), .string p1]) hm Try.func95 s95 rfl fun w0 σ hP hO Q hQ => ?_
 unfold zen at hF
 have hL := Hp.le.refl τ
 show wpn _ _ a95.body _ _ _
 unfold a95
 dsimp only
 refine ze hO [] [] [0, 1] zq1 fun j => ?_
 refine zd hO 2 [] [(6, zrh D), (7, .string p1)] [0] zq2 fun j => ?_
 obtain ⟨c3, h4, hF⟩ := zrm hF
 refine zce (hs := []) hO (zld (Z.le hL) (b0.le hL) (b1.le hL) (b2.le hL) (b3.le hL) (X.le hL) h4) rfl fun _ σ _ _ hO h5 h6 => ?_
 have hL := hL.trans h5
 obtain ⟨rfl, rfl⟩ := h6
 have hO := zrl5 hO
 refine ze hO [] [(5, zrg c3)] [0] zq1 fun j => ?_
 refine zd hO 3 [] [(11, .bool (decide (c3 ≥ 0)))] [0, 5] zq2 fun j => ?_
 obtain ⟨c7, h8, hF⟩ := zrm hF
 refine zcA 2 (fun e' σ' => ∃ (τ' : Hp), agr [(18, .bool c7), (0, zrh D), (5, zrg c3)] e' ∧ Obs τ' σ' [zn D (zrn b7 q0.prog.Structs b8) (zrn b9 q0.prog.Funcs c0) (zrn c1 q0.tree.Bodies c2) q0.tree.Main (zrn c4 q0.tree.Points c5) q0.fn (zrn c6 q0.vars c8) (zrn b4 q0.scope b5), g, o, q, z] ∧ Hp.le τ τ') ?_ ?_
 ·have hF := h8
  rcases zbL hF with ⟨Y, hF⟩ | ⟨Y, hF⟩
  ·refine zbn (zrk Y) ?_
   refine zd hO 5 [0] [(15, zrn b4 q0.scope b5), (16, zrg c3)] [0, 5, 11] (And.intro (And.intro rfl rfl) zq4) fun j => ?_
   obtain ⟨f8, c9, hF⟩ := zrm hF
   refine zce (hs := [_, _, _, _]) hO (Ctr.lendG (X.le hL) (fun _ _ _ _ h => h) fun _ f9 d0 => zn0 d0 c9) rfl fun _ σ _ _ hO d5 d6 => ?_
   have hL := hL.trans d5
   obtain ⟨_, rfl, rfl, rfl⟩ := d6
   have hO := zrl5 hO
   refine zW (zri Y) ?_
   refine zf ?_
   cases hF
   refine zg ?_
   exact ⟨rfl, _, zrf zq1, hO, hL⟩
  refine zbz (zrk Y) ?_
  refine zW (zri Y) ?_
  refine zf ?_
  cases hF
  refine zg ?_
  exact ⟨rfl, _, zrf zq1, hO, hL⟩
 rintro e σ ⟨_, hA, hO, hL⟩
 rw [← zV _ _ hA]
 rcases z9 hF with ⟨g0, d7, hF⟩ | ⟨g1, d8, hF⟩
 ·refine zbV hO (zbk d7) zqY rfl fun _ σ _ _ hO d9 f0 => ?_
  have hL := hL.trans d9
  obtain ⟨rfl, rfl⟩ := f0
  have hO := zrl5 hO
  cases hF
  exact hP _ _ _ _ hO hL ⟨rfl, rfl⟩
 refine zb0 hO (zbk d8) zqY rfl fun _ σ _ _ hO f1 f2 => ?_
 have hL := hL.trans f1
 obtain ⟨rfl, rfl⟩ := f2
 have hO := zrl5 hO
 refine zf (ze hO [] [(4, zrg c3)] [0] zq1 fun j => ?_)
 refine zba ?_
 cases hF
 refine (hQ _ _ _ _ _ rfl hO hL ?_).1
 exact ⟨rfl, rfl⟩
theorem zdt {τ : Hp} {q0 : zb} {V : Nat} {g h o : Value} {q : Ob} {z : Value} {D : Ob} {G : Value} {I : Ob} {S : Value} {U : Ob} {p1 X : Int} (Y : RdT zx τ g q0.prog.Structs) (Z : RdT zr τ h q0.prog.Funcs) (b0 : za zp 59 τ o q0.tree.Bodies q) (b1 : za zo 87 τ z q0.tree.Points D) (W : za zq 82 τ G q0.vars I) (b2 : za (Ty.int .i64) 3 τ S q0.scope U) {rr : Except (Value) (Unit)} (hF : zdI q0 p1 X = some rr) :
  zbu Try.prog 96 #[.pointer (some ⟨V, 0, none⟩), .int .i64 p1, .int .u8 X] τ [zn V g h o q0.tree.Main z q0.fn G S, q, D, I, U] (fun v τ' vs' => match (generalizing := false) rr with | .ok rr => v = .tuple #[] ∧ vs' = [zn V g h o q0.tree.Main z q0.fn G S, q, D, I, U] | .error _ => False) (fun ch τ' vs' => match (generalizing := false) rr with | .ok _ => False | .error ee => ch = [{ v := ee, recovered := false }] ∧ vs' = [zn V g h o q0.tree.Main z q0.fn G S, q, D, I, U]) := by
 obtain ⟨c3, c4, rfl, -⟩ := Y.form
 obtain ⟨c5, c6, rfl, -⟩ := Z.form
 obtain ⟨c7, c8, rfl, -⟩ := b0.form
 obtain ⟨c9, d0, rfl, -⟩ := b1.form
 obtain ⟨b3, b4, rfl, -⟩ := W.form
 obtain ⟨d5, d6, rfl, -⟩ := b2.form
 refine zcH (args := [.pointer (some ⟨V, 0, none⟩), .int .i64 p1, .int .u8 X]) hm Try.func96 s96 rfl fun w0 σ hP hO Q hQ => ?_
 unfold zdI at hF
 have hL := Hp.le.refl τ
 show wpn _ _ a96.body _ _ _
 unfold a96
 dsimp only
 refine zbd (zd hO 5 [0] [(9, zrn b3 q0.vars b4), (10, zrg p1)] [0, 2] (And.intro (And.intro rfl rfl) zq3) fun j => ?_)
 obtain ⟨y4, g5, hF⟩ := zrm hF
 refine zd3 (T := zq) hO (W.le hL) (i := 3) rfl rfl rfl g5 (by decide) fun a6 _ k7 m8 i9 => ?_
 have b5 := k7
 obtain ⟨f1, rfl, b6⟩ := b5
 obtain ⟨f2, f3, rfl, -⟩ := b6.form
 refine zd hO 2 [] [(13, .pointer (some (a6.add 1)))] [0, 2] zq2 fun j => ?_
 refine zE rfl (m8.one 1 rfl) ?_
 refine zd hO 2 [] [(16, .bool ((y4.Type_.Kind.toNat : Int) == X))] [0] zq1 fun j => ?_
 rcases z9 hF with ⟨f4, b7, hF⟩ | ⟨f5, b8, hF⟩
 ·refine zbV hO (zbk b7) zqY rfl fun _ σ _ _ hO b9 c0 => ?_
  have hL := hL.trans b9
  obtain ⟨rfl, rfl⟩ := c0
  have hO := zrl5 hO
  cases hF
  exact hP _ _ _ _ hO hL ⟨rfl, rfl⟩
 refine zb0 hO (zbk b8) zqY rfl fun _ σ _ _ hO c1 c2 => ?_
 have hL := hL.trans c1
 obtain ⟨rfl, rfl⟩ := c2
 have hO := zrl5 hO
 refine zf (zg ?_)
 cases hF
 refine (hQ _ _ _ _ _ rfl hO hL ?_).2
 exact ⟨rfl, rfl⟩
theorem zhM {τ : Hp} {q0 : zb} {V : Nat} {g h o : Value} {q : Ob} {z : Value} {D : Ob} {G : Value} {I : Ob} {S : Value} {U : Ob} {p1 : Int} {Z : ByteArray} (b0 : RdT zx τ g q0.prog.Structs) (b1 : RdT zr τ h q0.prog.Funcs) (b2 : za zp 59 τ o q0.tree.Bodies q) (b3 : za zo 87 τ z q0.tree.Points D) (W : za zq 82 τ G q0.vars I) (b4 : za (Ty.int .i64) 3 τ S q0.scope U) {rr : Except (Value) (Int)} (hF : zee q0 p1 Z = some rr) :
  zbu Try.prog 97 #[.pointer (some ⟨V, 0, none⟩), .int .i64 p1, .string Z] τ [zn V g h o q0.tree.Main z q0.fn G S, q, D, I, U] (fun v τ' vs' => match (generalizing := false) rr with | .ok rr => v = .int .i64 rr ∧ vs' = [zn V g h o q0.tree.Main z q0.fn G S, q, D, I, U] | .error _ => False) (fun ch τ' vs' => match (generalizing := false) rr with | .ok _ => False | .error ee => ch = [{ v := ee, recovered := false }] ∧ vs' = [zn V g h o q0.tree.Main z q0.fn G S, q, D, I, U]) := by
 obtain ⟨c7, c8, rfl, -⟩ := b0.form
 obtain ⟨c9, d0, rfl, -⟩ := b1.form
 obtain ⟨d5, d6, rfl, -⟩ := b2.form
 obtain ⟨d7, d8, rfl, -⟩ := b3.form
 obtain ⟨b5, b6, rfl, -⟩ := W.form
 obtain ⟨d9, f0, rfl, -⟩ := b4.form
 refine zcH (args := [.pointer (some ⟨V, 0, none⟩), .int .i64 p1, .string Z]) hm Try.func97 s97 rfl fun w0 σ hP hO Q hQ => ?_
 unfold zee at hF
 have hL := Hp.le.refl τ
 show wpn _ _ a97.body _ _ _
 unfold a97
 dsimp only
 refine ze hO [] [] [0, 1, 2] zq2 fun j => ?_
 refine zd hO 5 [0] [(11, zrn b5 q0.vars b6), (12, zrg p1)] [0, 2] (And.intro (And.intro rfl rfl) zq3) fun j => ?_
 obtain ⟨y4, g5, hF⟩ := zrm hF
 refine zd3 (T := zq) hO (W.le hL) (i := 3) rfl rfl rfl g5 (by decide) fun a6 _ k7 m8 i9 => ?_
 have b8 := k7
 obtain ⟨f4, rfl, X⟩ := b8
 obtain ⟨f5, f6, rfl, -⟩ := X.form
 refine zd hO 1 [] [(14, .pointer (some (a6.add 5)))] [0, 2] zq2 fun j => ?_
 refine zE rfl (m8.one 5 rfl) ?_
 refine zd hO 1 [] [(16, .string Z)] [0, 15] zq2 fun j => ?_
 obtain ⟨Y, b9, hF⟩ := zrm hF
 refine zL hO (zl0 X b9) rfl fun _ σ _ _ hO b7 c0 => ?_
 have hL := hL.trans b7
 have X := X.le b7
 obtain ⟨rfl, rfl⟩ := c0
 have hO := zrl5 hO
 refine ze hO [] [(7, zrg Y)] [0] zq1 fun j => ?_
 refine zd hO 2 [] [(19, .bool (decide (Y ≥ 0)))] [0, 7] zq2 fun j => ?_
 rcases z9 hF with ⟨f7, c1, hF⟩ | ⟨f8, c2, hF⟩
 ·refine zbV hO (zbk c1) zqY rfl fun _ σ _ _ hO c3 c4 => ?_
  have hL := hL.trans c3
  obtain ⟨rfl, rfl⟩ := c4
  have hO := zrl5 hO
  cases hF
  exact hP _ _ _ _ hO hL ⟨rfl, rfl⟩
 refine zb0 hO (zbk c2) zqY rfl fun _ σ _ _ hO c5 c6 => ?_
 have hL := hL.trans c5
 obtain ⟨rfl, rfl⟩ := c6
 have hO := zrl5 hO
 refine zf (ze hO [] [(6, zrg Y)] [0] zq1 fun j => ?_)
 refine zba ?_
 cases hF
 refine (hQ _ _ _ _ _ rfl hO hL ?_).1
 exact ⟨rfl, rfl⟩
theorem zlT {τ : Hp} {S : Value} {p0 : (List UInt8)} {U : Value} {p1 : (List UInt8)} (V : RdT Ty.u8 τ S p0) (W : RdT Ty.u8 τ U p1) {rr : Bool} (hF : zeQ p0 p1 = some rr) :
  Ctr Try.prog 99 #[S, U] τ [] (fun v τ' vs' => v = .bool rr ∧ vs' = []) := by
 obtain ⟨z, D, rfl, -⟩ := V.form
 obtain ⟨G, I, rfl, -⟩ := W.form
 refine zbi (args := [.slice z p0.length D, .slice G p1.length I]) hm Try.func99 s99 rfl fun w0 σ hO Q hQ => ?_
 unfold zeQ at hF
 have hL := Hp.le.refl τ
 show wpn _ _ a99.body _ _ _
 unfold a99
 dsimp only
 refine ze hO [] [] [0, 1] zq1 fun j => ?_
 refine zl (ze hO [] [(10, .bool ((p0.length : Int) != (p1.length : Int)))] [0, 1] zq2 fun j => ?_)
 refine zy hF rfl (fun hF => ?_) fun hF => ?_
 ·refine zl (zA hO [] [(4, .bool false)] zq0 fun j => ?_)
  refine zbt ?_
  cases hF
  exact hQ _ _ _ _ _ rfl hO hL ⟨rfl, rfl⟩
 refine zF (zl (ze hO [] [(12, zrg (p0.length : Int)), (13, zrg 0)] [0, 1] zq3 fun j => ?_))
 refine zY (zbH (fun (n : Nat) e' σ' => ∃ (g : Int) (τ' : Hp), agr [(0, zrn z p0 D), (1, zrn G p1 I), (12, zrg (p0.length : Int)), (13, zrg g)] e' ∧ Obs τ' σ' [] ∧ Hp.le τ τ' ∧ ze1 p0 p1 n g = some rr) big ⟨0, _, zrf zq2, hO, hL, hF⟩ ?_)
 clear hF hO hL
 rintro h e σ ⟨g, _, hA, hO, hL, hF⟩
 rw [← zV _ _ hA]
 cases h with
 | zero => exact nomatch (show none = some rr from hF)
 | succ h =>
 replace hF : zgu (ze1 p0 p1 h) p0 p1 g = some rr := hF
 unfold zgu at hF
 refine ze hO [] [(14, .bool (decide (g < (p0.length : Int))))] [0, 1, 12, 13] zq4 fun j => ?_
 refine zy hF rfl (fun hF => ?_) fun hF => ?_
 ·refine zF (zY (ze hO [] [(5, zrg g)] [0, 1, 12, 13] zq4 fun j => ?_))
  refine zcw (zd hO 2 [] [(16, zrn z p0 D), (17, zrg g)] [0, 1, 5, 12, 13] zq6 fun j => ?_)
  obtain ⟨o, X, hF⟩ := zrm hF
  refine zO (T := Ty.u8) (V.le hL) hO.base rfl rfl X (by decide) fun a33 _ Y Z => ?_
  obtain rfl : _ = ([.int .u8 o.toNat] : List Value) := Y
  refine zE rfl (Z.le hO.base).fst ?_
  refine zd hO 2 [] [(20, zrn G p1 I), (21, zrg g)] [0, 1, 12, 13, 19] zq6 fun j => ?_
  obtain ⟨q, b0, hF⟩ := zrm hF
  refine zO (T := Ty.u8) (W.le hL) hO.base rfl rfl b0 (by decide) fun a38 _ b1 b2 => ?_
  obtain rfl : _ = ([.int .u8 q.toNat] : List Value) := b1
  refine zE rfl (b2.le hO.base).fst ?_
  refine ze hO [] [(24, .bool ((o.toNat : Int) != (q.toNat : Int)))] [0, 1, 12, 13] zq4 fun j => ?_
  refine zbC (zy hF rfl (fun hF => ?_) fun hF => ?_)
  ·refine zl (zA hO [] [(4, .bool false)] zq0 fun j => ?_)
   refine zbt (zbo (zbc (zbc (zbo (zbc ?_)))))
   cases hF
   exact hQ _ _ _ _ _ rfl hO hL ⟨rfl, rfl⟩
  refine zF (zg (z3 (zk (zbd (ze hO [] [(13, zrg (IntKind.i64.wrap (g + 1)))] [0, 1, 12] zq3 fun j => ?_)))))
  refine zg (zk ?_)
  exact ⟨h, Nat.lt_succ_self _, (IntKind.i64.wrap (g + 1)), _, zrf zq2, hO, hL, hF⟩
 refine zbF (zbB (zbD (zk (zA hO [] [(4, .bool true)] zq0 fun j => ?_))))
 refine zba ?_
 cases hF
 exact hQ _ _ _ _ _ rfl hO hL ⟨rfl, rfl⟩
theorem zpy {τ : Hp} {p0 p1 : ByteArray}  {rr : Bool} (hF : ziT p0 p1 = some rr) :
  Ctr Try.prog 110 #[.string p0, .string p1] τ [] (fun v τ' vs' => v = .bool rr ∧ vs' = []) := by
 refine zbi (args := [.string p0, .string p1]) hm Try.func110 zm1 rfl fun w0 σ hO Q hQ => ?_
 unfold ziT at hF
 have hL := Hp.le.refl τ
 show wpn _ _ ziz.body _ _ _
 unfold ziz
 dsimp only
 refine ze hO [] [] [0, 1] zq1 fun j => ?_
 refine zd hO 6 [] [(10, .bool (decide ((p0.size : Int) ≥ (p1.size : Int))))] [0, 1] zq2 fun j => ?_
 obtain ⟨h, o, hF⟩ := zrm hF
 refine zdF 2 [(20, .bool h)] (fun Q hQ => ?_) fun j => ?_
 ·have hF := o
  rcases zbL hF with ⟨g, hF⟩ | ⟨g, hF⟩
  ·refine zbn (zrk g) ?_
   refine zd hO 6 [] [(11, .string p0), (16, zrg (IntKind.i64.wrap ((p0.size : Int) - (p1.size : Int))))] [1, 10] zq3 fun j => ?_
   obtain ⟨q, z, hF⟩ := zrm hF
   refine zjD rfl rfl rfl z ?_
   refine zd hO 2 [] [(19, .bool (zP q p1))] [10] zq1 fun j => ?_
   refine zW (zri g) ?_
   refine zf ?_
   cases hF
   refine zg ?_
   exact hQ _ (zrf (trivial))
  refine zbz (zrk g) ?_
  refine zW (zri g) ?_
  refine zf ?_
  cases hF
  refine zg ?_
  exact hQ _ (zrf (trivial))
 refine zA hO [] [(4, .bool h)] zq0 fun j => ?_
 refine zba ?_
 cases hF
 exact hQ _ _ _ _ _ rfl hO hL ⟨rfl, rfl⟩
theorem zpZ {τ : Hp} {p0 p1 : ByteArray}  {rr : ByteArray} (hF : zjv p0 p1 = some rr) :
  Ctr Try.prog 109 #[.string p0, .string p1] τ [] (fun v τ' vs' => v = .string rr ∧ vs' = []) := by
 refine zbi (args := [.string p0, .string p1]) hm Try.func109 zoc rfl fun w0 σ hO Q hQ => ?_
 unfold zjv at hF
 have hL := Hp.le.refl τ
 show wpn _ _ zjQ.body _ _ _
 unfold zjQ
 dsimp only
 refine ze hO [] [] [0, 1] zq1 fun j => ?_
 refine zl (zd hO 2 [] [(5, .string p0), (6, .string p1)] [0, 1] zq3 fun j => ?_)
 obtain ⟨D, g, hF⟩ := zrm hF
 refine zL hO (zpy g) rfl fun _ σ _ _ hO h o => ?_
 have hL := hL.trans h
 obtain ⟨rfl, rfl⟩ := o
 have hO : Obs _ _ [] := hO
 refine zf (zy hF rfl (fun hF => ?_) fun hF => ?_)
 ·refine zl (zK hO 6 [] [(8, .string p0), (13, zrg (IntKind.i64.wrap ((p0.size : Int) - (p1.size : Int))))] zq1 fun j => ?_)
  obtain ⟨q, z, hF⟩ := zrm hF
  refine zjD rfl rfl rfl z ?_
  refine zA hO [] [(4, .string q)] zq0 fun j => ?_
  refine zbt ?_
  cases hF
  exact hQ _ _ _ _ _ rfl hO hL ⟨rfl, rfl⟩
 refine zF (zA hO [] [(4, .string p0)] zq0 fun j => ?_)
 refine zba ?_
 cases hF
 exact hQ _ _ _ _ _ rfl hO hL ⟨rfl, rfl⟩
theorem zo7 {τ : Hp} {p0 p1 : ByteArray}  {rr : ByteArray} (hF : zho p0 p1 = some rr) :
  Ctr Try.prog 108 #[.string p0, .string p1] τ [] (fun v τ' vs' => v = .string rr ∧ vs' = []) := by
 refine zbi (args := [.string p0, .string p1]) hm Try.func108 zn7 rfl fun w0 σ hO Q hQ => ?_
 unfold zho at hF
 have hL := Hp.le.refl τ
 show wpn _ _ zjj.body _ _ _
 unfold zjj
 dsimp only
 refine ze hO [] [] [0, 1] zq1 fun j => ?_
 refine zK hO 2 [] [(5, .string p0), (6, .string p1)] zq1 fun j => ?_
 obtain ⟨g, h, hF⟩ := zrm hF
 refine zL hO (zpZ h) rfl fun _ σ _ _ hO o q => ?_
 have hL := hL.trans o
 obtain ⟨rfl, rfl⟩ := q
 have hO : Obs _ _ [] := hO
 refine zA hO [] [(4, .string g)] zq0 fun j => ?_
 refine zba ?_
 cases hF
 exact hQ _ _ _ _ _ rfl hO hL ⟨rfl, rfl⟩
theorem zpK {τ : Hp} {p0 : ByteArray}  {rr : Int} (hF : zeG p0 = some rr) :
  Ctr Try.prog 107 #[.string p0] τ [] (fun v τ' vs' => v = .int .u8 rr ∧ vs' = []) := by
 refine zbi (args := [.string p0]) hm Try.func107 zpF rfl fun w0 σ hO Q hQ => ?_
 unfold zeG at hF
 have hL := Hp.le.refl τ
 show wpn _ _ ziy.body _ _ _
 unfold ziy
 dsimp only
 refine ze hO [] [] [0] zq0 fun j => ?_
 refine zl (ze hO [] [(3, zrg 0)] [0] zq1 fun j => ?_)
 refine zY (zbH (fun (n : Nat) e' σ' => ∃ (b8 : Int) (τ' : Hp), agr [(0, .string p0), (3, zrg b8)] e' ∧ Obs τ' σ' [] ∧ Hp.le τ τ' ∧ zdO p0 n b8 = some rr) big ⟨0, _, zrf zq0, hO, hL, hF⟩ ?_)
 clear hF hO hL
 rintro c6 e σ ⟨b8, _, hA, hO, hL, hF⟩
 rw [← zV _ _ hA]
 cases c6 with
 | zero => exact nomatch (show none = some rr from hF)
 | succ c6 =>
 replace hF : zge (zdO p0 c6) p0 b8 = some rr := hF
 unfold zge at hF
 refine zl (ze hO [] [(5, .bool (decide (b8 < 26)))] [0, 3] zq2 fun j => ?_)
 refine zy hF rfl (fun hF => ?_) fun hF => ?_
 ·refine zF (zY (zd hO 4 [] [(8, .string p0), (9, zrg b8), (11, zrg (IntKind.i64.wrap (b8 + 2)))] [0, 3] zq4 fun j => ?_))
  obtain ⟨f1, c7, hF⟩ := zrm hF
  refine zjD rfl rfl rfl c7 ?_
  obtain ⟨c8, c9, hF⟩ := zrm hF
  refine zL hO (zo7 (p1 := zqX) c9) rfl fun _ σ _ _ hO d0 d5 => ?_
  have hL := hL.trans d0
  obtain ⟨rfl, rfl⟩ := d5
  have hO : Obs _ _ [] := hO
  refine ze hO [] [(14, .bool (zP p0 c8))] [0, 3] zq2 fun j => ?_
  refine zbC (zy hF rfl (fun hF => ?_) fun hF => ?_)
  ·refine zl (zA hO [] [(2, .int .u8 (IntKind.u8.wrap (1 + (IntKind.u8.wrap (IntKind.i64.wrap (Int.tdiv b8 2))))))] zq0 fun j => ?_)
   refine zbt (zbo (zbc (zbc (zbo (zbc ?_)))))
   cases hF
   exact hQ _ _ _ _ _ rfl hO hL ⟨rfl, rfl⟩
  refine zF (zg (z3 (zk (zbd (ze hO [] [(3, zrg (IntKind.i64.wrap (b8 + 2)))] [0] zq1 fun j => ?_)))))
  refine zg (zk ?_)
  exact ⟨c6, Nat.lt_succ_self _, (IntKind.i64.wrap (b8 + 2)), _, zrf zq0, hO, hL, hF⟩
 refine zbF (zbB (zbD (zk (zA hO [] [(2, .int .u8 0)] zq0 fun j => ?_))))
 refine zba ?_
 cases hF
 exact hQ _ _ _ _ _ rfl hO hL ⟨rfl, rfl⟩
def zfl (gn : Nat) : Prop := ∀ {τ : Hp} {q0 : zb} {V : Nat} {W X Y : Value} {Z : Ob} {b0 : Value} {b1 : Ob} {b2 : Value} {b3 : Ob} {b4 : Value} {b5 : Ob} {v1 : Value} {p1 : (List zc)} {v2 : Value} {p2 : (List UInt8)} (b9 : RdT zx τ W q0.prog.Structs) (c0 : RdT zr τ X q0.prog.Funcs) (c1 : za zp 59 τ Y q0.tree.Bodies Z) (c2 : za zo 87 τ b0 q0.tree.Points b1) (c3 : za zq 82 τ b2 q0.vars b3) (c4 : za (Ty.int .i64) 3 τ b4 q0.scope b5) (r1 : RdT z5 τ v1 p1) (r2 : RdT Ty.u8 τ v2 p2) {rr : Except (Value × zb) ((List zj) × zb)} (hF : ((zD gn).1) q0 p1 p2 = some rr), zbu Try.prog 90 #[.pointer (some ⟨V, 0, none⟩), v1, v2] τ [zn V W X Y q0.tree.Main b0 q0.fn b2 b4, Z, b1, b3, b5] (fun v τ' vs' => match (generalizing := false) rr with | .ok rr => ∃ (v0 : Value) (o0 : Ob) (g h o : Value) (q : Ob) (z : Value) (D : Ob) (G : Value) (I : Ob) (S : Value) (U : Ob), v = v0 ∧ vs' = [o0, zn V g h o rr.2.tree.Main z rr.2.fn G S, q, D, I, U] ∧ za zR 140 τ' v0 rr.1 o0 ∧ RdT zx τ' g rr.2.prog.Structs ∧ RdT zr τ' h rr.2.prog.Funcs ∧ za zp 59 τ' o rr.2.tree.Bodies q ∧ za zo 87 τ' z rr.2.tree.Points D ∧ za zq 82 τ' G rr.2.vars I ∧ za (Ty.int .i64) 3 τ' S rr.2.scope U | .error _ => False) (fun ch τ' vs' => match (generalizing := false) rr with | .ok _ => False | .error ee => ∃ (g h o : Value) (q : Ob) (z : Value) (D : Ob) (G : Value) (I : Ob) (S : Value) (U : Ob), ch = [{ v := ee.1, recovered := false }] ∧ vs' = [zn V g h o ee.2.tree.Main z ee.2.fn G S, q, D, I, U] ∧ RdT zx τ' g ee.2.prog.Structs ∧ RdT zr τ' h ee.2.prog.Funcs ∧ za zp 59 τ' o ee.2.tree.Bodies q ∧ za zo 87 τ' z ee.2.tree.Points D ∧ za zq 82 τ' G ee.2.vars I ∧ za (Ty.int .i64) 3 τ' S ee.2.scope U)
def zfz (gn : Nat) : Prop := ∀ {τ : Hp} {q0 : zb} {V : Nat} {W X Y : Value} {Z : Ob} {b0 : Value} {b1 : Ob} {b2 : Value} {b3 : Ob} {b4 : Value} {b5 : Ob} {p1 : zc} {b6 : Value} (b9 : RdT zx τ W q0.prog.Structs) (c0 : RdT zr τ X q0.prog.Funcs) (c1 : za zp 59 τ Y q0.tree.Bodies Z) (c2 : za zo 87 τ b0 q0.tree.Points b1) (c3 : za zq 82 τ b2 q0.vars b3) (c4 : za (Ty.int .i64) 3 τ b4 q0.scope b5) (c5 : RdT z5 τ b6 p1.Kids) {rr : Except (Value × zb) (zj × Int × zb)} (hF : ((zD gn).2.1) q0 p1 = some rr), zbu Try.prog 98 #[.pointer (some ⟨V, 0, none⟩), .agg #[.int .u8 p1.Kind.toNat, .int .i64 p1.Num, .string p1.Name, .string p1.Field, .string p1.Op, b6]] τ [zn V W X Y q0.tree.Main b0 q0.fn b2 b4, Z, b1, b3, b5] (fun v τ' vs' => match (generalizing := false) rr with | .ok rr => ∃ (b7 g h o : Value) (q : Ob) (z : Value) (D : Ob) (G : Value) (I : Ob) (S : Value) (U : Ob), v = .tuple #[.agg #[.int .u8 rr.1.Kind.toNat, .int .u8 rr.1.Op.toNat, .int .i64 rr.1.Var, .int .i64 rr.1.Num, b7], .int .u8 rr.2.1] ∧ vs' = [zn V g h o rr.2.2.tree.Main z rr.2.2.fn G S, q, D, I, U] ∧ RdT zR τ' b7 rr.1.Kids ∧ RdT zx τ' g rr.2.2.prog.Structs ∧ RdT zr τ' h rr.2.2.prog.Funcs ∧ za zp 59 τ' o rr.2.2.tree.Bodies q ∧ za zo 87 τ' z rr.2.2.tree.Points D ∧ za zq 82 τ' G rr.2.2.vars I ∧ za (Ty.int .i64) 3 τ' S rr.2.2.scope U | .error _ => False) (fun ch τ' vs' => match (generalizing := false) rr with | .ok _ => False | .error ee => ∃ (g h o : Value) (q : Ob) (z : Value) (D : Ob) (G : Value) (I : Ob) (S : Value) (U : Ob), ch = [{ v := ee.1, recovered := false }] ∧ vs' = [zn V g h o ee.2.tree.Main z ee.2.fn G S, q, D, I, U] ∧ RdT zx τ' g ee.2.prog.Structs ∧ RdT zr τ' h ee.2.prog.Funcs ∧ za zp 59 τ' o ee.2.tree.Bodies q ∧ za zo 87 τ' z ee.2.tree.Points D ∧ za zq 82 τ' G ee.2.vars I ∧ za (Ty.int .i64) 3 τ' S ee.2.scope U)
def zeT (gn : Nat) : Prop := ∀ {τ : Hp} {q0 : zb} {V : Nat} {W X Y : Value} {Z : Ob} {b0 : Value} {b1 : Ob} {b2 : Value} {b3 : Ob} {b4 : Value} {b5 : Ob} {p1 : zc} {b6 : Value} (b9 : RdT zx τ W q0.prog.Structs) (c0 : RdT zr τ X q0.prog.Funcs) (c1 : za zp 59 τ Y q0.tree.Bodies Z) (c2 : za zo 87 τ b0 q0.tree.Points b1) (c3 : za zq 82 τ b2 q0.vars b3) (c4 : za (Ty.int .i64) 3 τ b4 q0.scope b5) (c5 : RdT z5 τ b6 p1.Kids) {rr : Except (Value × zb) (zj × Int × zb)} (hF : ((zD gn).2.2.1) q0 p1 = some rr), zbu Try.prog 103 #[.pointer (some ⟨V, 0, none⟩), .agg #[.int .u8 p1.Kind.toNat, .int .i64 p1.Num, .string p1.Name, .string p1.Field, .string p1.Op, b6]] τ [zn V W X Y q0.tree.Main b0 q0.fn b2 b4, Z, b1, b3, b5] (fun v τ' vs' => match (generalizing := false) rr with | .ok rr => ∃ (b7 g h o : Value) (q : Ob) (z : Value) (D : Ob) (G : Value) (I : Ob) (S : Value) (U : Ob), v = .tuple #[.agg #[.int .u8 rr.1.Kind.toNat, .int .u8 rr.1.Op.toNat, .int .i64 rr.1.Var, .int .i64 rr.1.Num, b7], .int .u8 rr.2.1] ∧ vs' = [zn V g h o rr.2.2.tree.Main z rr.2.2.fn G S, q, D, I, U] ∧ RdT zR τ' b7 rr.1.Kids ∧ RdT zx τ' g rr.2.2.prog.Structs ∧ RdT zr τ' h rr.2.2.prog.Funcs ∧ za zp 59 τ' o rr.2.2.tree.Bodies q ∧ za zo 87 τ' z rr.2.2.tree.Points D ∧ za zq 82 τ' G rr.2.2.vars I ∧ za (Ty.int .i64) 3 τ' S rr.2.2.scope U | .error _ => False) (fun ch τ' vs' => match (generalizing := false) rr with | .ok _ => False | .error ee => ∃ (g h o : Value) (q : Ob) (z : Value) (D : Ob) (G : Value) (I : Ob) (S : Value) (U : Ob), ch = [{ v := ee.1, recovered := false }] ∧ vs' = [zn V g h o ee.2.tree.Main z ee.2.fn G S, q, D, I, U] ∧ RdT zx τ' g ee.2.prog.Structs ∧ RdT zr τ' h ee.2.prog.Funcs ∧ za zp 59 τ' o ee.2.tree.Bodies q ∧ za zo 87 τ' z ee.2.tree.Points D ∧ za zq 82 τ' G ee.2.vars I ∧ za (Ty.int .i64) 3 τ' S ee.2.scope U)
def ze3 (gn : Nat) : Prop := ∀ {τ : Hp} {q0 : zb} {V : Nat} {W X Y : Value} {Z : Ob} {b0 : Value} {b1 : Ob} {b2 : Value} {b3 : Ob} {b4 : Value} {b5 : Ob} {p1 : zc} {b6 : Value} (b9 : RdT zx τ W q0.prog.Structs) (c0 : RdT zr τ X q0.prog.Funcs) (c1 : za zp 59 τ Y q0.tree.Bodies Z) (c2 : za zo 87 τ b0 q0.tree.Points b1) (c3 : za zq 82 τ b2 q0.vars b3) (c4 : za (Ty.int .i64) 3 τ b4 q0.scope b5) (c5 : RdT z5 τ b6 p1.Kids) {rr : Except (Value × zb) (zj × Int × zb)} (hF : ((zD gn).2.2.2.1) q0 p1 = some rr), zbu Try.prog 104 #[.pointer (some ⟨V, 0, none⟩), .agg #[.int .u8 p1.Kind.toNat, .int .i64 p1.Num, .string p1.Name, .string p1.Field, .string p1.Op, b6]] τ [zn V W X Y q0.tree.Main b0 q0.fn b2 b4, Z, b1, b3, b5] (fun v τ' vs' => match (generalizing := false) rr with | .ok rr => ∃ (b7 g h o : Value) (q : Ob) (z : Value) (D : Ob) (G : Value) (I : Ob) (S : Value) (U : Ob), v = .tuple #[.agg #[.int .u8 rr.1.Kind.toNat, .int .u8 rr.1.Op.toNat, .int .i64 rr.1.Var, .int .i64 rr.1.Num, b7], .int .u8 rr.2.1] ∧ vs' = [zn V g h o rr.2.2.tree.Main z rr.2.2.fn G S, q, D, I, U] ∧ RdT zR τ' b7 rr.1.Kids ∧ RdT zx τ' g rr.2.2.prog.Structs ∧ RdT zr τ' h rr.2.2.prog.Funcs ∧ za zp 59 τ' o rr.2.2.tree.Bodies q ∧ za zo 87 τ' z rr.2.2.tree.Points D ∧ za zq 82 τ' G rr.2.2.vars I ∧ za (Ty.int .i64) 3 τ' S rr.2.2.scope U | .error _ => False) (fun ch τ' vs' => match (generalizing := false) rr with | .ok _ => False | .error ee => ∃ (g h o : Value) (q : Ob) (z : Value) (D : Ob) (G : Value) (I : Ob) (S : Value) (U : Ob), ch = [{ v := ee.1, recovered := false }] ∧ vs' = [zn V g h o ee.2.tree.Main z ee.2.fn G S, q, D, I, U] ∧ RdT zx τ' g ee.2.prog.Structs ∧ RdT zr τ' h ee.2.prog.Funcs ∧ za zp 59 τ' o ee.2.tree.Bodies q ∧ za zo 87 τ' z ee.2.tree.Points D ∧ za zq 82 τ' G ee.2.vars I ∧ za (Ty.int .i64) 3 τ' S ee.2.scope U)
def zeO (gn : Nat) : Prop := ∀ {τ : Hp} {q0 : zb} {V : Nat} {W X Y : Value} {Z : Ob} {b0 : Value} {b1 : Ob} {b2 : Value} {b3 : Ob} {b4 : Value} {b5 : Ob} {p1 : zc} {b6 : Value} (b9 : RdT zx τ W q0.prog.Structs) (c0 : RdT zr τ X q0.prog.Funcs) (c1 : za zp 59 τ Y q0.tree.Bodies Z) (c2 : za zo 87 τ b0 q0.tree.Points b1) (c3 : za zq 82 τ b2 q0.vars b3) (c4 : za (Ty.int .i64) 3 τ b4 q0.scope b5) (c5 : RdT z5 τ b6 p1.Kids) {rr : Except (Value × zb) (zj × Int × zb)} (hF : ((zD gn).2.2.2.2) q0 p1 = some rr), zbu Try.prog 105 #[.pointer (some ⟨V, 0, none⟩), .agg #[.int .u8 p1.Kind.toNat, .int .i64 p1.Num, .string p1.Name, .string p1.Field, .string p1.Op, b6]] τ [zn V W X Y q0.tree.Main b0 q0.fn b2 b4, Z, b1, b3, b5] (fun v τ' vs' => match (generalizing := false) rr with | .ok rr => ∃ (b7 g h o : Value) (q : Ob) (z : Value) (D : Ob) (G : Value) (I : Ob) (S : Value) (U : Ob), v = .tuple #[.agg #[.int .u8 rr.1.Kind.toNat, .int .u8 rr.1.Op.toNat, .int .i64 rr.1.Var, .int .i64 rr.1.Num, b7], .int .u8 rr.2.1] ∧ vs' = [zn V g h o rr.2.2.tree.Main z rr.2.2.fn G S, q, D, I, U] ∧ RdT zR τ' b7 rr.1.Kids ∧ RdT zx τ' g rr.2.2.prog.Structs ∧ RdT zr τ' h rr.2.2.prog.Funcs ∧ za zp 59 τ' o rr.2.2.tree.Bodies q ∧ za zo 87 τ' z rr.2.2.tree.Points D ∧ za zq 82 τ' G rr.2.2.vars I ∧ za (Ty.int .i64) 3 τ' S rr.2.2.scope U | .error _ => False) (fun ch τ' vs' => match (generalizing := false) rr with | .ok _ => False | .error ee => ∃ (g h o : Value) (q : Ob) (z : Value) (D : Ob) (G : Value) (I : Ob) (S : Value) (U : Ob), ch = [{ v := ee.1, recovered := false }] ∧ vs' = [zn V g h o ee.2.tree.Main z ee.2.fn G S, q, D, I, U] ∧ RdT zx τ' g ee.2.prog.Structs ∧ RdT zr τ' h ee.2.prog.Funcs ∧ za zp 59 τ' o ee.2.tree.Bodies q ∧ za zo 87 τ' z ee.2.tree.Points D ∧ za zq 82 τ' G ee.2.vars I ∧ za (Ty.int .i64) 3 τ' S ee.2.scope U)
theorem zn1 {gn : Nat} (ih_check_checker_vals : zfl gn) (ih_check_checker_exp : zfz gn) (ih_check_checker_place : zeT gn) (ih_check_checker_unary : ze3 gn) (ih_check_checker_binary : zeO gn) {τ : Hp} {q0 : zb} {c3 : Nat} {h8 h9 i0 : Value} {f2 : Ob} {i1 : Value} {f3 : Ob} {i2 : Value} {f4 : Ob} {i3 : Value} {f5 : Ob} {v1 : Value} {p1 : (List zc)} {v2 : Value} {p2 : (List UInt8)} (i4 : RdT zx τ h8 q0.prog.Structs) (i5 : RdT zr τ h9 q0.prog.Funcs) (i6 : za zp 59 τ i0 q0.tree.Bodies f2) (i7 : za zo 87 τ i1 q0.tree.Points f3) (i8 : za zq 82 τ i2 q0.vars f4) (i9 : za (Ty.int .i64) 3 τ i3 q0.scope f5) (r1 : RdT z5 τ v1 p1) (r2 : RdT Ty.u8 τ v2 p2) {rr : Except (Value × zb) ((List zj) × zb)} (hF : ziD ((zD gn).1) ((zD gn).2.1) ((zD gn).2.2.1) ((zD gn).2.2.2.1) ((zD gn).2.2.2.2) q0 p1 p2 = some rr) :
  zbu Try.prog 90 #[.pointer (some ⟨c3, 0, none⟩), v1, v2] τ [zn c3 h8 h9 i0 q0.tree.Main i1 q0.fn i2 i3, f2, f3, f4, f5] (fun v τ' vs' => match (generalizing := false) rr with | .ok rr => ∃ (v0 : Value) (o0 : Ob) (c4 c5 c6 : Value) (c7 : Ob) (c8 : Value) (c9 : Ob) (d0 : Value) (d5 : Ob) (d6 : Value) (d7 : Ob), v = v0 ∧ vs' = [o0, zn c3 c4 c5 c6 rr.2.tree.Main c8 rr.2.fn d0 d6, c7, c9, d5, d7] ∧ za zR 140 τ' v0 rr.1 o0 ∧ RdT zx τ' c4 rr.2.prog.Structs ∧ RdT zr τ' c5 rr.2.prog.Funcs ∧ za zp 59 τ' c6 rr.2.tree.Bodies c7 ∧ za zo 87 τ' c8 rr.2.tree.Points c9 ∧ za zq 82 τ' d0 rr.2.vars d5 ∧ za (Ty.int .i64) 3 τ' d6 rr.2.scope d7 | .error _ => False) (fun ch τ' vs' => match (generalizing := false) rr with | .ok _ => False | .error ee => ∃ (c4 c5 c6 : Value) (c7 : Ob) (c8 : Value) (c9 : Ob) (d0 : Value) (d5 : Ob) (d6 : Value) (d7 : Ob), ch = [{ v := ee.1, recovered := false }] ∧ vs' = [zn c3 c4 c5 c6 ee.2.tree.Main c8 ee.2.fn d0 d6, c7, c9, d5, d7] ∧ RdT zx τ' c4 ee.2.prog.Structs ∧ RdT zr τ' c5 ee.2.prog.Funcs ∧ za zp 59 τ' c6 ee.2.tree.Bodies c7 ∧ za zo 87 τ' c8 ee.2.tree.Points c9 ∧ za zq 82 τ' d0 ee.2.vars d5 ∧ za (Ty.int .i64) 3 τ' d6 ee.2.scope d7) := by
 obtain ⟨l1, l2, rfl, -⟩ := i4.form
 obtain ⟨l3, l4, rfl, -⟩ := i5.form
 obtain ⟨l5, l6, rfl, -⟩ := i6.form
 obtain ⟨l7, l8, rfl, -⟩ := i7.form
 obtain ⟨l9, m0, rfl, -⟩ := i8.form
 obtain ⟨m1, m2, rfl, -⟩ := i9.form
 obtain ⟨A1, c1, rfl, -⟩ := r1.form
 obtain ⟨A2, c2, rfl, -⟩ := r2.form
 refine zcH (args := [.pointer (some ⟨c3, 0, none⟩), .slice A1 p1.length c1, .slice A2 p2.length c2]) hm Try.func90 s90 rfl fun w0 σ hP hO Q hQ => ?_
 unfold ziD at hF
 have hL := Hp.le.refl τ
 show wpn _ _ a90.body _ _ _
 unfold a90
 dsimp only
 refine ze hO [] [] [0, 1, 2] zq2 fun j => ?_
 refine ze hO [] [(7, .slice none 0 0)] [0, 1, 2] zq3 fun j => ?_
 refine ze hO [] [(8, .slice none 0 0)] [0, 1, 2, 7] zq4 fun j => ?_
 refine zl (ze hO [] [(13, zrn A1 p1 c1), (14, zrg (p1.length : Int)), (15, zrg 0)] [0, 2, 7, 8] zq6 fun j => ?_)
 refine zY ?_
 have hO := hO.no
 have hO := zrl6 hO
 have hO := hO.no
 have hO := zrl7 hO
 refine zbH (fun (n : Nat) e' σ' => ∃ (g0 : Option Addr) (g1 : Nat) (b0 : List zbh) (g2 : Option Addr) (g3 : Nat) (b1 : List zG) (g4 : Option Addr) (g5 : Nat) (g6 : Ob) (b2 : List zM) (b8 : Int) (g7 : Option Addr) (g8 : Nat) (g9 : Ob) (b3 : List zH) (b9 : Int) (h0 : Option Addr) (h1 : Nat) (h2 : Ob) (b4 : List zI) (h3 : Option Addr) (h4 : Nat) (h5 : Ob) (b5 : List Int) (d8 : Option Addr) (d9 : Nat) (h6 : Ob) (z : List zj) (f0 : Option Addr) (f1 : Nat) (h7 : Ob) (D : List UInt8) (b6 : Int) (τ' : Hp), agr [(0, zrh c3), (2, zrn A2 p2 c2), (7, zrn d8 z d9), (8, zrn f0 D f1), (13, zrn A1 p1 c1), (14, zrg (p1.length : Int)), (15, zrg b6)] e' ∧ Obs τ' σ' [zn c3 (zrn g0 b0 g1) (zrn g2 b1 g3) (zrn g4 b2 g5) b8 (zrn g7 b3 g8) b9 (zrn h0 b4 h1) (zrn h3 b5 h4), g6, g9, h2, h5, h6, h7] ∧ Hp.le τ τ' ∧ RdT zx τ' (zrn g0 b0 g1) b0 ∧ RdT zr τ' (zrn g2 b1 g3) b1 ∧ za zp 59 τ' (zrn g4 b2 g5) b2 g6 ∧ za zo 87 τ' (zrn g7 b3 g8) b3 g9 ∧ za zq 82 τ' (zrn h0 b4 h1) b4 h2 ∧ za (Ty.int .i64) 3 τ' (zrn h3 b5 h4) b5 h5 ∧ za zR 140 τ' (zrn d8 z d9) z h6 ∧ za Ty.u8 5 τ' (zrn f0 D f1) D h7 ∧ zeB (zD gn).2.1 p1 p2 n b0 b1 b2 b8 b3 b9 b4 b5 z D b6 = some rr) big ⟨l1, l2, q0.prog.Structs, l3, l4, q0.prog.Funcs, l5, l6, f2, q0.tree.Bodies, q0.tree.Main, l7, l8, f3, q0.tree.Points, q0.fn, l9, m0, f4, q0.vars, m1, m2, f5, q0.scope, none, 0, none, [], none, 0, none, [], 0, _, zrf zq5, hO, hL, (i4.le hL), (i5.le hL), (i6.le hL), (i7.le hL), (i8.le hL), (i9.le hL), za.nil _ _ _, za.nil _ _ _, hF⟩ ?_
 clear hF hO hL
 rintro f6 e σ ⟨g0, g1, b0, g2, g3, b1, g4, g5, g6, b2, b8, g7, g8, g9, b3, b9, h0, h1, h2, b4, h3, h4, h5, b5, d8, d9, h6, z, f0, f1, h7, D, b6, _, hA, hO, hL, G, I, S, U, V, W, o, q, hF⟩
 rw [← zV _ _ hA]
 cases f6 with
 | zero => exact nomatch (show none = some rr from hF)
 | succ f6 =>
 replace hF : zgr (zeB (zD gn).2.1 p1 p2 f6) (zD gn).2.1 p1 p2 b0 b1 b2 b8 b3 b9 b4 b5 z D b6 = some rr := hF
 unfold zgr at hF
 refine ze hO [] [(16, .bool (decide (b6 < (p1.length : Int))))] [0, 2, 7, 8, 13, 14, 15] zq7 fun j => ?_
 refine zy hF rfl (fun hF => ?_) fun hF => ?_
 ·refine zF (zY ?_)
  obtain ⟨c0, n0, hF⟩ := zrm hF
  refine zO (T := z5) (r1.le hL) hO.base rfl rfl n0 (by decide) fun a277 _ n1 n2 => ?_
  obtain ⟨r9, rfl, b7⟩ := zhO n1
  obtain ⟨n3, n4, rfl, -⟩ := b7.form
  refine zE rfl ((n2.le hO.base).all rfl) ?_
  refine zbl hO fun t0 σ hO => ?_
  have hO := zrl8 hO
  refine zC hO (i := 7) rfl (off := 0) rfl rfl rfl rfl (Nat.le_of_ble_eq_true rfl) rfl fun σ hO => ?_
  have hO := zrl8 hO
  refine zf (zd hO 2 [7] [(20, zrh c3), (21, .agg #[(.int .u8 (c0.Kind.toNat : Int)), (.int .i64 c0.Num), (.string c0.Name), (.string c0.Field), (.string c0.Op), (zrn n3 c0.Kids n4)])] [0, 2, 7, 8, 13, 14, 15] (And.intro (And.intro rfl rfl) zq8) fun j => ?_)
  have hO := hO.sel [5, 6, 7, 0, 1, 2, 3, 4]
  rcases z9 hF with ⟨t1, n5, hF⟩ | ⟨g, n6, hF⟩
  ·refine zbs (hs := [_, _, _]) hO (ih_check_checker_exp (q0 := (⟨(⟨b0, b1⟩ : zm), (⟨b2, b8, b3⟩ : zw), b9, b4, b5⟩ : zb)) G I S U V W b7 n5) zqY rfl fun _ σ _ _ hO f7 n7 => ?_
   have hL := hL.trans f7
   have o := o.le f7
   have q := q.le f7
   have b7 := b7.le f7
   obtain ⟨t2, t3, t4, t5, t6, t7, t8, t9, u0, u1, rfl, rfl, j0, j1, j2, j3, j4, j5⟩ := n7
   obtain ⟨u2, u3, rfl, -⟩ := j0.form
   obtain ⟨u4, u5, rfl, -⟩ := j1.form
   obtain ⟨u6, u7, rfl, -⟩ := j2.form
   obtain ⟨u9, v3, rfl, -⟩ := j3.form
   obtain ⟨v4, v5, rfl, -⟩ := j4.form
   obtain ⟨v6, v7, rfl, -⟩ := j5.form
   have hO := zrl8 hO
   cases hF
   have hO := hO.sel [3, 4, 5, 6, 7]
   exact hP _ _ _ _ hO hL ⟨_, _, _, _, _, _, _, _, _, _, rfl, rfl, j0, j1, j2, j3, j4, j5⟩
  refine zbq (hs := [_, _, _]) hO (ih_check_checker_exp (q0 := (⟨(⟨b0, b1⟩ : zm), (⟨b2, b8, b3⟩ : zw), b9, b4, b5⟩ : zb)) G I S U V W b7 n6) zqY rfl fun _ σ _ _ hO f8 n8 => ?_
  have hL := hL.trans f8
  have o := o.le f8
  have q := q.le f8
  have b7 := b7.le f8
  obtain ⟨v8, v9, w2, w3, n9, w4, o1, w5, o2, w6, o3, rfl, rfl, j6, j7, j8, j9, k0, k1, k2⟩ := n8
  obtain ⟨k3, k4, rfl, -⟩ := j6.form
  obtain ⟨o4, o5, rfl, -⟩ := j7.form
  obtain ⟨o6, o7, rfl, -⟩ := j8.form
  obtain ⟨o8, o9, rfl, -⟩ := j9.form
  obtain ⟨p3, p4, rfl, -⟩ := k0.form
  obtain ⟨p5, p6, rfl, -⟩ := k1.form
  obtain ⟨p7, p8, rfl, -⟩ := k2.form
  have hO := zrl8 hO
  refine zd hO 3 [] [(23, .agg #[(.int .u8 (g.1.Kind.toNat : Int)), (.int .u8 (g.1.Op.toNat : Int)), (.int .i64 g.1.Var), (.int .i64 g.1.Num), (zrn k3 g.1.Kids k4)]), (24, .int .u8 g.2.1)] [0, 2, 7, 8, 13, 14, 15] zq8 fun j => ?_
  refine zbl hO fun w7 σ hO => ?_
  have hO := zrl9 hO
  refine zC hO (i := 8) rfl (off := 0) rfl rfl rfl rfl (Nat.le_of_ble_eq_true rfl) rfl fun σ hO => ?_
  have hO := zrl9 hO
  refine ze hO [] [(12, .int .u8 g.2.1)] [0, 2, 7, 8, 11, 13, 14, 15] zq8 fun j => ?_
  refine zbd (zd hO 2 [8] [(25, zrn d8 z d9), (26, .agg #[(.int .u8 (g.1.Kind.toNat : Int)), (.int .u8 (g.1.Op.toNat : Int)), (.int .i64 g.1.Var), (.int .i64 g.1.Num), (zrn k3 g.1.Kids k4)])] [0, 2, 8, 12, 13, 14, 15] (And.intro (And.intro rfl rfl) zq8) fun j => ?_)
  obtain ⟨_, m3, hF⟩ := zrm hF
  refine zdk (T := zR) (y := (⟨g.1.Kind, g.1.Op, g.1.Var, g.1.Num, g.1.Kids⟩ : zj)) hO o (i := 0) rfl rfl (fun _ => rfl) rfl (zlf ⟨_, rfl, j6⟩) rfl m3 (by decide) fun u _ σ p9 k5 hO => ?_
  obtain ⟨k6, k7, rfl, -⟩ := k5.form
  have hO := zrl9 hO
  refine zd hO 2 [] [(29, zrn f0 D f1), (30, .int .u8 g.2.1)] [0, 2, 13, 14, 15, 28] zq7 fun j => ?_
  obtain ⟨z359, m4, hF⟩ := zrm hF
  obtain ⟨_, m5, hF⟩ := zrm hF
  refine zdk (T := Ty.u8) (y := z359) hO q (i := 1) rfl rfl (fun _ => rfl) rfl (u8R m4) rfl m5 (by decide) fun u _ σ q2 k8 hO => ?_
  obtain ⟨k9, l0, rfl, -⟩ := k8.form
  have hO := zrl9 hO
  refine ze hO [] [(7, zrn k6 (z ++ [(⟨g.1.Kind, g.1.Op, g.1.Var, g.1.Num, g.1.Kids⟩ : zj)]) k7), (8, zrn k9 (D ++ [z359]) l0)] [0, 2, 13, 14, 15] zq6 fun j => ?_
  refine zg (z3 (zk (zbd (ze hO [] [(15, zrg (IntKind.i64.wrap (b6 + 1)))] [0, 2, 7, 8, 13, 14] zq6 fun j => ?_))))
  refine zg (zk ?_)
  have hO := hO.sel [3, 4, 5, 6, 7, 0, 1]
  exact ⟨f6, Nat.lt_succ_self _, o4, o5, g.2.2.prog.Structs, o6, o7, g.2.2.prog.Funcs, o8, o9, n9, g.2.2.tree.Bodies, g.2.2.tree.Main, p3, p4, o1, g.2.2.tree.Points, g.2.2.fn, p5, p6, o2, g.2.2.vars, p7, p8, o3, g.2.2.scope, k6, k7, p9, (z ++ [(⟨g.1.Kind, g.1.Op, g.1.Var, g.1.Num, g.1.Kids⟩ : zj)]), k9, l0, q2, (D ++ [z359]), (IntKind.i64.wrap (b6 + 1)), _, zrf zq5, hO, hL, j7, j8, j9, k0, k1, k2, k5, k8, hF⟩
 refine zbF (zbB (zbD (zk (zd hO 2 [] [(34, zrn f0 D f1), (35, zrn A2 p2 c2)] [0, 7] zq3 fun j => ?_))))
 obtain ⟨w8, q3, hF⟩ := zrm hF
 refine zce (hs := [_, _, _, _, _, _]) hO (Ctr.lendG q (fun _ _ _ _ h => h) fun _ r7 r8 => zlT r8 ((r2.le hL).le r7) q3) rfl fun _ σ _ _ hO X q4 => ?_
 have hL := hL.trans X
 have o := o.le X
 have q := q.le X
 have G := G.le X
 have I := I.le X
 have S := S.le X
 have U := U.le X
 have V := V.le X
 have W := W.le X
 obtain ⟨_, rfl, rfl, rfl⟩ := q4
 have hO := zrl7 hO
 rcases z9 hF with ⟨w9, q5, hF⟩ | ⟨x0, q6, hF⟩
 ·refine zbV hO (zbk q5) zqY rfl fun _ σ _ _ hO Y q7 => ?_
  have hL := hL.trans Y
  have o := o.le Y
  have q := q.le Y
  have G := G.le Y
  have I := I.le Y
  have S := S.le Y
  have U := U.le Y
  have V := V.le Y
  have W := W.le Y
  obtain ⟨rfl, rfl⟩ := q7
  have hO := zrl7 hO
  cases hF
  have hO := hO.sel [0, 1, 2, 3, 4]
  exact hP _ _ _ _ hO hL ⟨_, _, _, _, _, _, _, _, _, _, rfl, rfl, G, I, S, U, V, W⟩
 refine zb0 hO (zbk q6) zqY rfl fun _ σ _ _ hO Z q8 => ?_
 have hL := hL.trans Z
 have o := o.le Z
 have q := q.le Z
 have G := G.le Z
 have I := I.le Z
 have S := S.le Z
 have U := U.le Z
 have V := V.le Z
 have W := W.le Z
 obtain ⟨rfl, rfl⟩ := q8
 have hO := zrl7 hO
 refine zf (ze hO [] [(6, zrn d8 z d9)] [0] zq1 fun j => ?_)
 refine zba ?_
 cases hF
 have hO := hO.sel [5, 0, 1, 2, 3, 4]
 refine (hQ _ _ _ _ _ rfl hO hL ?_).1
 exact ⟨_, _, _, _, _, _, _, _, _, _, _, _, rfl, rfl, o, G, I, S, U, V, W⟩
theorem znE {gn : Nat} (ih_check_checker_vals : zfl gn) (ih_check_checker_exp : zfz gn) (ih_check_checker_place : zeT gn) (ih_check_checker_unary : ze3 gn) (ih_check_checker_binary : zeO gn) {τ : Hp} {q0 : zb} {V : Nat} {g0 g1 g2 : Value} {o : Ob} {g3 : Value} {q : Ob} {g4 : Value} {z : Ob} {g5 : Value} {D : Ob} {p1 : zc} {h1 : Value} (g : RdT zx τ g0 q0.prog.Structs) (h : RdT zr τ g1 q0.prog.Funcs) (G : za zp 59 τ g2 q0.tree.Bodies o) (I : za zo 87 τ g3 q0.tree.Points q) (S : za zq 82 τ g4 q0.vars z) (U : za (Ty.int .i64) 3 τ g5 q0.scope D) (b0 : RdT z5 τ h1 p1.Kids) {rr : Except (Value × zb) (zj × Int × zb)} (hF : zgs ((zD gn).1) ((zD gn).2.1) ((zD gn).2.2.1) ((zD gn).2.2.2.1) ((zD gn).2.2.2.2) q0 p1 = some rr) :
  zbu Try.prog 98 #[.pointer (some ⟨V, 0, none⟩), .agg #[.int .u8 p1.Kind.toNat, .int .i64 p1.Num, .string p1.Name, .string p1.Field, .string p1.Op, h1]] τ [zn V g0 g1 g2 q0.tree.Main g3 q0.fn g4 g5, o, q, z, D] (fun v τ' vs' => match (generalizing := false) rr with | .ok rr => ∃ (h2 c5 c6 c7 : Value) (c8 : Ob) (c9 : Value) (d0 : Ob) (d5 : Value) (d6 : Ob) (d7 : Value) (d8 : Ob), v = .tuple #[.agg #[.int .u8 rr.1.Kind.toNat, .int .u8 rr.1.Op.toNat, .int .i64 rr.1.Var, .int .i64 rr.1.Num, h2], .int .u8 rr.2.1] ∧ vs' = [zn V c5 c6 c7 rr.2.2.tree.Main c9 rr.2.2.fn d5 d7, c8, d0, d6, d8] ∧ RdT zR τ' h2 rr.1.Kids ∧ RdT zx τ' c5 rr.2.2.prog.Structs ∧ RdT zr τ' c6 rr.2.2.prog.Funcs ∧ za zp 59 τ' c7 rr.2.2.tree.Bodies c8 ∧ za zo 87 τ' c9 rr.2.2.tree.Points d0 ∧ za zq 82 τ' d5 rr.2.2.vars d6 ∧ za (Ty.int .i64) 3 τ' d7 rr.2.2.scope d8 | .error _ => False) (fun ch τ' vs' => match (generalizing := false) rr with | .ok _ => False | .error ee => ∃ (c5 c6 c7 : Value) (c8 : Ob) (c9 : Value) (d0 : Ob) (d5 : Value) (d6 : Ob) (d7 : Value) (d8 : Ob), ch = [{ v := ee.1, recovered := false }] ∧ vs' = [zn V c5 c6 c7 ee.2.tree.Main c9 ee.2.fn d5 d7, c8, d0, d6, d8] ∧ RdT zx τ' c5 ee.2.prog.Structs ∧ RdT zr τ' c6 ee.2.prog.Funcs ∧ za zp 59 τ' c7 ee.2.tree.Bodies c8 ∧ za zo 87 τ' c9 ee.2.tree.Points d0 ∧ za zq 82 τ' d5 ee.2.vars d6 ∧ za (Ty.int .i64) 3 τ' d7 ee.2.scope d8) := by
 obtain ⟨g6, g7, rfl, -⟩ := g.form
 obtain ⟨g8, g9, rfl, -⟩ := h.form
 obtain ⟨b5, b6, rfl, -⟩ := G.form
 obtain ⟨b8, b9, rfl, -⟩ := I.form
 obtain ⟨c0, c1, rfl, -⟩ := S.form
 obtain ⟨c2, c3, rfl, -⟩ := U.form
 obtain ⟨d9, f0, rfl, -⟩ := b0.form
 refine zcH (args := [.pointer (some ⟨V, 0, none⟩), .agg #[.int .u8 p1.Kind.toNat, .int .i64 p1.Num, .string p1.Name, .string p1.Field, .string p1.Op, (.slice d9 p1.Kids.length f0)]]) hm Try.func98 s98 rfl fun w0 σ hP hO Q hQ => ?_
 unfold zgs at hF
 have hL := Hp.le.refl τ
 show wpn _ _ a98.body _ _ _
 unfold a98
 dsimp only
 refine zbQ (n := 6) hO rfl rfl fun b3 σ hO => ?_
 have hO := zrl6 hO
 refine zbl hO fun b4 σ hO => ?_
 have hO := zrl7 hO
 refine ze hO [] [] [0, 3, 4] zq2 fun j => ?_
 refine zl (ze hO [5] [(8, .int .u8 (p1.Kind.toNat : Int))] [0, 3, 4] (And.intro (And.intro rfl rfl) zq3) fun j => ?_)
 refine zY (ze hO [] [(9, .bool ((p1.Kind.toNat : Int) == 1))] [0, 3, 4, 8] zq4 fun j => ?_)
 refine zbC (zy hF rfl (fun hF => ?_) fun hF => ?_)
 ·refine zl (zd hO 3 [5] [(13, .agg #[(.int .u8 1), (.int .u8 0), (.int .i64 0), (.int .i64 p1.Num), (.slice none 0 0)])] [0, 4] (And.intro (And.intro rfl rfl) zq2) fun j => ?_)
  refine zC hO (i := 6) rfl (off := 0) rfl rfl rfl rfl (Nat.le_of_ble_eq_true rfl) rfl fun σ hO => ?_
  have hO := zrl7 hO
  refine ze hO [] [(5, .int .u8 1)] [0, 4] zq2 fun j => ?_
  refine zbt (zbo (zbc ?_))
  cases hF
  have c4 := hO.val (i := 6) rfl (off := 0) (agg := true) (n := 5) rfl
  have hO := hO.sel [0, 1, 2, 3, 4]
  refine (hQ _ _ _ _ _ (zb8 rfl (c4) (zcv rfl)) hO hL ?_).1
  exact ⟨_, _, _, _, _, _, _, _, _, _, _, rfl, rfl, (RdT.nil _ _), (g.le hL), (h.le hL), (G.le hL), (I.le hL), (S.le hL), (U.le hL)⟩
 refine zl (ze hO [] [(14, .bool ((p1.Kind.toNat : Int) == 2))] [0, 3, 4, 8] zq4 fun j => ?_)
 refine zy hF rfl (fun hF => ?_) fun hF => ?_
 ·refine zl (zd hO 1 [] [(16, .agg #[(.int .u8 1), (.int .u8 0), (.int .i64 0), (.int .i64 0), (.slice none 0 0)])] [0, 3, 4] zq3 fun j => ?_)
  refine zbl hO fun b7 σ hO => ?_
  have hO := zrl8 hO
  refine zC hO (i := 7) rfl (off := 0) rfl rfl rfl rfl (Nat.le_of_ble_eq_true rfl) rfl fun σ hO => ?_
  have hO := zrl8 hO
  refine zf (zl (zl (ze hO [5] [(19, .bool (p1.Num != 0))] [0, 4, 6] (And.intro (And.intro rfl rfl) zq3) fun j => ?_)))
  refine zdD (fun e' σ' => ∃ (A9 : Option Addr) (h3 : Nat) (h4 : Ob) (f6 : List zM) (h5 : Option Addr) (h6 : Nat) (h7 : Ob) (f7 : List zH) (h8 : Option Addr) (h9 : Nat) (i0 : Ob) (f8 : List zI) (i1 : Option Addr) (i2 : Nat) (i3 : Ob) (f9 : List Int) (h0 : Int) (τ' : Hp), agr [(0, zrh V), (4, zrh b4), (6, zrh b7)] e' ∧ Obs τ' σ' [zn V (zrn g6 q0.prog.Structs g7) (zrn g8 q0.prog.Funcs g9) (zrn A9 f6 h3) q0.tree.Main (zrn h5 f7 h6) q0.fn (zrn h8 f8 h9) (zrn i1 f9 i2), h4, h7, i0, i3, zdJ b4 0 0 0 0 (.slice none 0 0), zdJ b7 1 0 0 h0 (.slice none 0 0)] ∧ Hp.le τ τ' ∧ za zp 59 τ' (zrn A9 f6 h3) f6 h4 ∧ za zo 87 τ' (zrn h5 f7 h6) f7 h7 ∧ za zq 82 τ' (zrn h8 f8 h9) f8 i0 ∧ za (Ty.int .i64) 3 τ' (zrn i1 f9 i2) f9 i3 ∧ zgQ q0 f6 f7 f8 f9 h0 = some rr) ?_ ?_
  ·refine zbC (zy hF rfl (fun hF => ?_) fun hF => ?_)
   ·refine zd hO 1 [] [(20, .pointer (some ⟨b7, 3, none⟩))] [0, 4, 6] zq3 fun j => ?_
    refine zC hO (i := 7) rfl (off := 3) rfl rfl rfl rfl (Nat.le_of_ble_eq_true rfl) rfl fun σ hO => ?_
    have hO := zrl8 hO
    refine zf (zg (zk ?_))
    have hO := hO.sel [0, 1, 2, 3, 4, 6, 7]
    exact ⟨b5, b6, o, q0.tree.Bodies, b8, b9, q, q0.tree.Points, c0, c1, z, q0.vars, c2, c3, D, q0.scope, 1, _, zrf zq1, hO, hL, (G.le hL), (I.le hL), (S.le hL), (U.le hL), hF⟩
   refine zF (zg (zk ?_))
   have hO := hO.sel [0, 1, 2, 3, 4, 6, 7]
   exact ⟨b5, b6, o, q0.tree.Bodies, b8, b9, q, q0.tree.Points, c0, c1, z, q0.vars, c2, c3, D, q0.scope, 0, _, zrf zq1, hO, hL, (G.le hL), (I.le hL), (S.le hL), (U.le hL), hF⟩
  rintro e σ ⟨A9, h3, h4, f6, h5, h6, h7, f7, h8, h9, i0, f8, i1, i2, i3, f9, h0, _, hA, hO, hL, p8, p9, q2, q3, hF⟩
  rw [← zV _ _ hA]
  unfold zgQ at hF
  refine zl (zd hO 1 [6] [(21, .agg #[(.int .u8 1), (.int .u8 0), (.int .i64 0), (.int .i64 h0), (.slice none 0 0)])] [0, 4] (And.intro (And.intro rfl rfl) zq2) fun j => ?_)
  refine zC hO (i := 5) rfl (off := 0) rfl rfl rfl rfl (Nat.le_of_ble_eq_true rfl) rfl fun σ hO => ?_
  have hO := zrl7 hO
  refine ze hO [] [(5, .int .u8 2)] [0, 4] zq2 fun j => ?_
  refine zbt (zbo (zbc ?_))
  cases hF
  have c4 := hO.val (i := 5) rfl (off := 0) (agg := true) (n := 5) rfl
  have hO := hO.sel [0, 1, 2, 3, 4]
  refine (hQ _ _ _ _ _ (zb8 rfl (c4) (zcv rfl)) hO hL ?_).1
  exact ⟨_, _, _, _, _, _, _, _, _, _, _, rfl, rfl, (RdT.nil _ _), (g.le hL), (h.le hL), p8, p9, q2, q3⟩
 refine zl (zl (ze hO [] [(22, .bool ((p1.Kind.toNat : Int) == 3))] [0, 3, 4, 8] zq4 fun j => ?_))
 refine zdD (fun e' σ' => ∃ (i4 : Option Addr) (i5 : Nat) (i6 : Ob) (W : List zM) (i7 : Option Addr) (i8 : Nat) (i9 : Ob) (X : List zH) (j0 : Option Addr) (j1 : Nat) (j2 : Ob) (Y : List zI) (j3 : Option Addr) (j4 : Nat) (j5 : Ob) (Z : List Int) (j6 : Bool) (τ' : Hp), agr [(0, zrh V), (3, zrh b3), (4, zrh b4), (8, .int .u8 (p1.Kind.toNat : Int)), (22, .bool j6)] e' ∧ Obs τ' σ' [zn V (zrn g6 q0.prog.Structs g7) (zrn g8 q0.prog.Funcs g9) (zrn i4 W i5) q0.tree.Main (zrn i7 X i8) q0.fn (zrn j0 Y j1) (zrn j3 Z j4), i6, i9, j2, j5, zeL b3 (p1.Kind.toNat : Int) p1.Num p1.Name p1.Field p1.Op (zrn d9 p1.Kids f0), zdJ b4 0 0 0 0 (.slice none 0 0)] ∧ Hp.le τ τ' ∧ za zp 59 τ' (zrn i4 W i5) W i6 ∧ za zo 87 τ' (zrn i7 X i8) X i9 ∧ za zq 82 τ' (zrn j0 Y j1) Y j2 ∧ za (Ty.int .i64) 3 τ' (zrn j3 Z j4) Z j5 ∧ zdR (zD gn).2.2.1 (zD gn).2.2.2.1 (zD gn).2.2.2.2 q0 p1 W X Y Z j6 = some rr) ?_ ?_
 ·refine zbC (zy hF rfl (fun hF => ?_) fun hF => ?_)
  ·refine zF (zg (zk ?_))
   exact ⟨b5, b6, o, q0.tree.Bodies, b8, b9, q, q0.tree.Points, c0, c1, z, q0.vars, c2, c3, D, q0.scope, ((p1.Kind.toNat : Int) == 3), _, zrf zq3, hO, hL, (G.le hL), (I.le hL), (S.le hL), (U.le hL), hF⟩
  refine zl (ze hO [] [(22, .bool ((p1.Kind.toNat : Int) == 4))] [0, 3, 4, 8] zq4 fun j => ?_)
  refine zy hF rfl (fun hF => ?_) fun hF => ?_
  ·refine zF (zg (zk ?_))
   exact ⟨b5, b6, o, q0.tree.Bodies, b8, b9, q, q0.tree.Points, c0, c1, z, q0.vars, c2, c3, D, q0.scope, ((p1.Kind.toNat : Int) == 4), _, zrf zq3, hO, hL, (G.le hL), (I.le hL), (S.le hL), (U.le hL), hF⟩
  refine ze hO [] [(22, .bool ((p1.Kind.toNat : Int) == 5))] [0, 3, 4, 8] zq4 fun j => ?_
  refine zg (zk ?_)
  exact ⟨b5, b6, o, q0.tree.Bodies, b8, b9, q, q0.tree.Points, c0, c1, z, q0.vars, c2, c3, D, q0.scope, ((p1.Kind.toNat : Int) == 5), _, zrf zq3, hO, hL, (G.le hL), (I.le hL), (S.le hL), (U.le hL), hF⟩
 rintro e σ ⟨i4, i5, i6, W, i7, i8, i9, X, j0, j1, j2, Y, j3, j4, j5, Z, j6, _, hA, hO, hL, f2, f3, f4, f5, hF⟩
 rw [← zV _ _ hA]
 unfold zdR at hF
 refine zy hF rfl (fun hF => ?_) fun hF => ?_
 ·refine zl (zd hO 2 [5] [(26, zrh V), (27, .agg #[(.int .u8 (p1.Kind.toNat : Int)), (.int .i64 p1.Num), (.string p1.Name), (.string p1.Field), (.string p1.Op), (zrn d9 p1.Kids f0)])] [0, 4] (And.intro (And.intro rfl rfl) zq3) fun j => ?_)
  have hO := hO.sel [5, 6, 0, 1, 2, 3, 4]
  rcases z9 hF with ⟨E6, q4, hF⟩ | ⟨f1, q5, hF⟩
  ·refine zbs (hs := [_, _]) hO (ih_check_checker_place (q0 := (⟨(⟨q0.prog.Structs, q0.prog.Funcs⟩ : zm), (⟨W, q0.tree.Main, X⟩ : zw), q0.fn, Y, Z⟩ : zb)) (g.le hL) (h.le hL) f2 f3 f4 f5 (b0.le hL) q4) zqY rfl fun _ σ _ _ hO q6 q7 => ?_
   have hL := hL.trans q6
   obtain ⟨E7, E8, E9, F0, F1, F2, F3, F4, F5, F6, rfl, rfl, m9, n0, n1, n2, n3, n4⟩ := q7
   obtain ⟨F7, F8, rfl, -⟩ := m9.form
   obtain ⟨F9, G0, rfl, -⟩ := n0.form
   obtain ⟨G1, G2, rfl, -⟩ := n1.form
   obtain ⟨G3, G4, rfl, -⟩ := n2.form
   obtain ⟨G5, G6, rfl, -⟩ := n3.form
   obtain ⟨G7, G8, rfl, -⟩ := n4.form
   have hO := zrl7 hO
   cases hF
   have hO := hO.sel [2, 3, 4, 5, 6]
   exact hP _ _ _ _ hO hL ⟨_, _, _, _, _, _, _, _, _, _, rfl, rfl, m9, n0, n1, n2, n3, n4⟩
  refine zbq (hs := [_, _]) hO (ih_check_checker_place (q0 := (⟨(⟨q0.prog.Structs, q0.prog.Funcs⟩ : zm), (⟨W, q0.tree.Main, X⟩ : zw), q0.fn, Y, Z⟩ : zb)) (g.le hL) (h.le hL) f2 f3 f4 f5 (b0.le hL) q5) zqY rfl fun _ σ _ _ hO q8 q9 => ?_
  have hL := hL.trans q8
  obtain ⟨G9, H0, H1, r2, r3, r4, r5, r6, r7, r8, r9, rfl, rfl, n5, n6, j7, j8, j9, k0, k1⟩ := q9
  obtain ⟨r0, r1, rfl, -⟩ := n5.form
  obtain ⟨H2, H3, rfl, -⟩ := n6.form
  obtain ⟨t0, t1, rfl, -⟩ := j7.form
  obtain ⟨t2, t3, rfl, -⟩ := j8.form
  obtain ⟨t4, t5, rfl, -⟩ := j9.form
  obtain ⟨t6, t7, rfl, -⟩ := k0.form
  obtain ⟨t8, t9, rfl, -⟩ := k1.form
  have hO := zrl7 hO
  refine zd hO 2 [] [(29, .agg #[(.int .u8 (f1.1.Kind.toNat : Int)), (.int .u8 (f1.1.Op.toNat : Int)), (.int .i64 f1.1.Var), (.int .i64 f1.1.Num), (zrn r0 f1.1.Kids r1)]), (30, .int .u8 f1.2.1)] [0, 4] zq3 fun j => ?_
  refine zC hO (i := 1) rfl (off := 0) rfl rfl rfl rfl (Nat.le_of_ble_eq_true rfl) rfl fun σ hO => ?_
  have hO := zrl7 hO
  refine ze hO [] [(5, .int .u8 f1.2.1)] [0, 4] zq2 fun j => ?_
  refine zbt (zbo (zbc ?_))
  cases hF
  have c4 := hO.val (i := 1) rfl (off := 0) (agg := true) (n := 5) rfl
  have hO := hO.sel [2, 3, 4, 5, 6]
  refine (hQ _ _ _ _ _ (zb8 rfl (c4) (zcv rfl)) hO hL ?_).1
  exact ⟨_, _, _, _, _, _, _, _, _, _, _, rfl, rfl, n5, n6, j7, j8, j9, k0, k1⟩
 refine zl (ze hO [] [(31, .bool ((p1.Kind.toNat : Int) == 6))] [0, 3, 4] zq3 fun j => ?_)
 refine zy hF rfl (fun hF => ?_) fun hF => ?_
 ·refine zl (zd hO 2 [5] [(33, zrh V), (34, .agg #[(.int .u8 (p1.Kind.toNat : Int)), (.int .i64 p1.Num), (.string p1.Name), (.string p1.Field), (.string p1.Op), (zrn d9 p1.Kids f0)])] [0, 4] (And.intro (And.intro rfl rfl) zq3) fun j => ?_)
  have hO := hO.sel [5, 6, 0, 1, 2, 3, 4]
  rcases z9 hF with ⟨u0, n9, hF⟩ | ⟨b1, o0, hF⟩
  ·refine zbs (hs := [_, _]) hO (ih_check_checker_unary (q0 := (⟨(⟨q0.prog.Structs, q0.prog.Funcs⟩ : zm), (⟨W, q0.tree.Main, X⟩ : zw), q0.fn, Y, Z⟩ : zb)) (g.le hL) (h.le hL) f2 f3 f4 f5 (b0.le hL) n9) zqY rfl fun _ σ _ _ hO o1 o2 => ?_
   have hL := hL.trans o1
   obtain ⟨u1, u2, u3, u4, u5, u6, u7, u9, v0, v1, rfl, rfl, k2, k3, k4, k5, k6, k7⟩ := o2
   obtain ⟨v2, v3, rfl, -⟩ := k2.form
   obtain ⟨v4, v5, rfl, -⟩ := k3.form
   obtain ⟨v6, v7, rfl, -⟩ := k4.form
   obtain ⟨v8, v9, rfl, -⟩ := k5.form
   obtain ⟨w2, w3, rfl, -⟩ := k6.form
   obtain ⟨w4, w5, rfl, -⟩ := k7.form
   have hO := zrl7 hO
   cases hF
   have hO := hO.sel [2, 3, 4, 5, 6]
   exact hP _ _ _ _ hO hL ⟨_, _, _, _, _, _, _, _, _, _, rfl, rfl, k2, k3, k4, k5, k6, k7⟩
  refine zbq (hs := [_, _]) hO (ih_check_checker_unary (q0 := (⟨(⟨q0.prog.Structs, q0.prog.Funcs⟩ : zm), (⟨W, q0.tree.Main, X⟩ : zw), q0.fn, Y, Z⟩ : zb)) (g.le hL) (h.le hL) f2 f3 f4 f5 (b0.le hL) o0) zqY rfl fun _ σ _ _ hO o3 o4 => ?_
  have hL := hL.trans o3
  obtain ⟨w6, w7, w8, w9, x0, x1, x2, x3, x4, x5, x6, rfl, rfl, k8, k9, l0, l1, l2, l3, l4⟩ := o4
  obtain ⟨o5, o6, rfl, -⟩ := k8.form
  obtain ⟨x7, x8, rfl, -⟩ := k9.form
  obtain ⟨x9, y0, rfl, -⟩ := l0.form
  obtain ⟨y1, y2, rfl, -⟩ := l1.form
  obtain ⟨y3, y4, rfl, -⟩ := l2.form
  obtain ⟨y5, y6, rfl, -⟩ := l3.form
  obtain ⟨y7, y8, rfl, -⟩ := l4.form
  have hO := zrl7 hO
  refine zd hO 2 [] [(36, .agg #[(.int .u8 (b1.1.Kind.toNat : Int)), (.int .u8 (b1.1.Op.toNat : Int)), (.int .i64 b1.1.Var), (.int .i64 b1.1.Num), (zrn o5 b1.1.Kids o6)]), (37, .int .u8 b1.2.1)] [0, 4] zq3 fun j => ?_
  refine zC hO (i := 1) rfl (off := 0) rfl rfl rfl rfl (Nat.le_of_ble_eq_true rfl) rfl fun σ hO => ?_
  have hO := zrl7 hO
  refine ze hO [] [(5, .int .u8 b1.2.1)] [0, 4] zq2 fun j => ?_
  refine zbt (zbo (zbc ?_))
  cases hF
  have c4 := hO.val (i := 1) rfl (off := 0) (agg := true) (n := 5) rfl
  have hO := hO.sel [2, 3, 4, 5, 6]
  refine (hQ _ _ _ _ _ (zb8 rfl (c4) (zcv rfl)) hO hL ?_).1
  exact ⟨_, _, _, _, _, _, _, _, _, _, _, rfl, rfl, k8, k9, l0, l1, l2, l3, l4⟩
 refine zF (zg (z3 (zk (zd hO 2 [5] [(38, zrh V), (39, .agg #[(.int .u8 (p1.Kind.toNat : Int)), (.int .i64 p1.Num), (.string p1.Name), (.string p1.Field), (.string p1.Op), (zrn d9 p1.Kids f0)])] [0, 4] (And.intro (And.intro rfl rfl) zq3) fun j => ?_))))
 have hO := hO.sel [5, 6, 0, 1, 2, 3, 4]
 rcases z9 hF with ⟨y9, o7, hF⟩ | ⟨b2, o8, hF⟩
 ·refine zbs (hs := [_, _]) hO (ih_check_checker_binary (q0 := (⟨(⟨q0.prog.Structs, q0.prog.Funcs⟩ : zm), (⟨W, q0.tree.Main, X⟩ : zw), q0.fn, Y, Z⟩ : zb)) (g.le hL) (h.le hL) f2 f3 f4 f5 (b0.le hL) o7) zqY rfl fun _ σ _ _ hO o9 p2 => ?_
  have hL := hL.trans o9
  obtain ⟨A0, A1, A2, A3, A4, A5, A6, A7, A8, B0, rfl, rfl, l5, l6, l7, l8, l9, m0⟩ := p2
  obtain ⟨B1, B2, rfl, -⟩ := l5.form
  obtain ⟨B3, B4, rfl, -⟩ := l6.form
  obtain ⟨B5, B6, rfl, -⟩ := l7.form
  obtain ⟨B7, B8, rfl, -⟩ := l8.form
  obtain ⟨B9, C0, rfl, -⟩ := l9.form
  obtain ⟨C1, C2, rfl, -⟩ := m0.form
  have hO := zrl7 hO
  cases hF
  have hO := hO.sel [2, 3, 4, 5, 6]
  exact hP _ _ _ _ hO hL ⟨_, _, _, _, _, _, _, _, _, _, rfl, rfl, l5, l6, l7, l8, l9, m0⟩
 refine zbq (hs := [_, _]) hO (ih_check_checker_binary (q0 := (⟨(⟨q0.prog.Structs, q0.prog.Funcs⟩ : zm), (⟨W, q0.tree.Main, X⟩ : zw), q0.fn, Y, Z⟩ : zb)) (g.le hL) (h.le hL) f2 f3 f4 f5 (b0.le hL) o8) zqY rfl fun _ σ _ _ hO p3 p4 => ?_
 have hL := hL.trans p3
 obtain ⟨C3, C4, C5, C6, C7, C8, C9, D0, D1, D2, D3, rfl, rfl, m1, m2, m3, m4, m5, m6, m7⟩ := p4
 obtain ⟨p5, p6, rfl, -⟩ := m1.form
 obtain ⟨D4, D5, rfl, -⟩ := m2.form
 obtain ⟨D6, D7, rfl, -⟩ := m3.form
 obtain ⟨D8, D9, rfl, -⟩ := m4.form
 obtain ⟨E0, E1, rfl, -⟩ := m5.form
 obtain ⟨E2, E3, rfl, -⟩ := m6.form
 obtain ⟨E4, E5, rfl, -⟩ := m7.form
 have hO := zrl7 hO
 refine zd hO 2 [] [(41, .agg #[(.int .u8 (b2.1.Kind.toNat : Int)), (.int .u8 (b2.1.Op.toNat : Int)), (.int .i64 b2.1.Var), (.int .i64 b2.1.Num), (zrn p5 b2.1.Kids p6)]), (42, .int .u8 b2.2.1)] [0, 4] zq3 fun j => ?_
 refine zC hO (i := 1) rfl (off := 0) rfl rfl rfl rfl (Nat.le_of_ble_eq_true rfl) rfl fun σ hO => ?_
 have hO := zrl7 hO
 refine ze hO [] [(5, .int .u8 b2.2.1)] [0, 4] zq2 fun j => ?_
 refine zba ?_
 cases hF
 have c4 := hO.val (i := 1) rfl (off := 0) (agg := true) (n := 5) rfl
 have hO := hO.sel [2, 3, 4, 5, 6]
 refine (hQ _ _ _ _ _ (zb8 rfl (c4) (zcv rfl)) hO hL ?_).1
 exact ⟨_, _, _, _, _, _, _, _, _, _, _, rfl, rfl, m1, m2, m3, m4, m5, m6, m7⟩
end Go.Proofs.Ytakcaekikfcbpaa
