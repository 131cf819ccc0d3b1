import Derived.Test.YtakcaekikfcbpaaF
import Derived.Test.YtakcaekikfcbpaaM00
import Derived.Test.YtakcaekikfcbpaaM01
namespace Go.Proofs.Ytakcaekikfcbpaa
open Go.Ab Go.RowKit
set_option linter.unusedVariables false
set_option linter.unusedSimpArgs false
set_option maxRecDepth 10000
set_option maxHeartbeats 1000000
theorem zbg {τ : Hp} {p0 : Bool} {p1 : Int}  {rr : Except (Value) (Unit)} (hF : zby p0 p1 = some rr) :
  zbu Try.prog 54 #[.bool p0, .int .i64 p1] τ [] (fun v τ' vs' => match (generalizing := false) rr with | .ok rr => v = .tuple #[] ∧ vs' = [] | .error _ => False) (fun ch τ' vs' => match (generalizing := false) rr with | .ok _ => False | .error ee => ch = [{ v := ee, recovered := false }] ∧ vs' = []) := by
 refine zcz (args := [.bool p0, .int .i64 p1]) hm Try.func54 s54 rfl fun w0 σ hP hO Q hQ => ?_
 unfold zby at hF
 have hL := Hp.le.refl τ
 show wpn _ _ a54.body _ _ _
 unfold a54
 dsimp only
 refine zd hO [] [(5, .bool (!p0))] [1] zn5 fun j => ?_
 refine zbz (zz hF rfl (fun hF => ?_) fun hF => ?_)
 ·refine zM hO 2 [] [(7, .iface 134 (.int .i64 p1))] zn4 fun j => ?_
  refine zlD rfl ?_
  cases hF
  exact hP _ _ _ _ hO hL ⟨rfl, rfl⟩
 refine zN (zh ?_)
 cases hF
 refine (hQ _ _ _ _ _ rfl hO hL ?_).2
 exact ⟨rfl, rfl⟩
theorem zjh {τ : Hp} {z : Value} {p0 : (List ByteArray)} {p1 : ByteArray} (B : RdT Ty.str τ z p0) {rr : Int} (hF : zfi p0 p1 = some rr) :
  Ctr Try.prog 84 #[z, .string p1] τ [] (fun v τ' vs' => v = .int .i64 rr ∧ vs' = []) := by
 obtain ⟨o, q, rfl, -⟩ := B.form
 refine zbp (args := [.slice o p0.length q, .string p1]) hm Try.func84 s84 rfl fun w0 σ hO Q hQ => ?_
 unfold zfi at hF
 have hL := Hp.le.refl τ
 show wpn _ _ a84.body _ _ _
 unfold a84
 dsimp only
 refine zd hO [] [] [0, 1] zn5 fun j => ?_
 refine zn (zd hO [] [(7, zok (p0.length : Int)), (8, zok 0)] [0, 1] zn7 fun j => ?_)
 refine zbr (zcg (fun (n : Nat) e' σ' => ∃ (g : Int) (τ' : Hp), agr [(0, zor o p0 q), (1, .string p1), (7, zok (p0.length : Int)), (8, zok g)] e' ∧ Obs τ' σ' [] ∧ Hp.le τ τ' ∧ zgU p0 p1 n g = some rr) big ⟨0, _, zoj zn6, hO, hL, hF⟩ ?_)
 clear hF hO hL
 rintro h e σ ⟨g, _, hA, hO, hL, hF⟩
 rw [← zW _ _ hA]
 cases h with
 | zero => exact nomatch (show none = some rr from hF)
 | succ h =>
 replace hF : zhZ (zgU p0 p1 h) p0 p1 g = some rr := hF
 unfold zhZ at hF
 refine zd hO [] [(9, .bool (decide (g < (p0.length : Int))))] [0, 1, 7, 8] zn8 fun j => ?_
 refine zz hF rfl (fun hF => ?_) fun hF => ?_
 ·refine zN (zbr (zd hO [] [(5, zok g)] [0, 1, 7, 8] zn8 fun j => ?_))
  refine zg hO 3 [] [(11, .string p1), (12, zor o p0 q), (13, zok g)] [0, 1, 5, 7, 8] zob fun j => ?_
  obtain ⟨k, D, hF⟩ := zoq hF
  refine zbG (T := Ty.str) (B.le hL) hO.base rfl rfl D (by decide) fun a22 _ E G => ?_
  obtain rfl : _ = ([.string k] : List Value) := E
  refine zbh rfl (G.le hO.base).fst ?_
  refine zd hO [] [(16, .bool (z9 p1 k))] [0, 1, 5, 7, 8] zn9 fun j => ?_
  refine zbz (zz hF rfl (fun hF => ?_) fun hF => ?_)
  ·refine zn (zD hO [] [(4, zok g)] zn4 fun j => ?_)
   refine zbH (zbE (zbw (zbw (zbE (zbw ?_)))))
   cases hF
   exact hQ _ _ _ _ _ rfl hO hL ⟨rfl, rfl⟩
  refine zN (zh (zX (zi (zbi (zd hO [] [(8, zok (IntKind.i64.wrap (g + 1)))] [0, 1, 7] zn7 fun j => ?_)))))
  refine zh (zi ?_)
  exact ⟨h, Nat.lt_succ_self _, (IntKind.i64.wrap (g + 1)), _, zoj zn6, hO, hL, hF⟩
 refine zb9 (zbR (zbX (zi (zD hO [] [(4, zok (-1))] zn4 fun j => ?_))))
 refine zbb ?_
 cases hF
 exact hQ _ _ _ _ _ rfl hO hL ⟨rfl, rfl⟩
theorem zk1 {τ : Hp} {g : Value} {p0 : (List ByteArray)} {p1 : ByteArray} (h : RdT Ty.str τ g p0) {rr : Bool} (hF : zfe p0 p1 = some rr) :
  Ctr Try.prog 77 #[g, .string p1] τ [] (fun v τ' vs' => v = .bool rr ∧ vs' = []) := by
 obtain ⟨k, o, rfl, -⟩ := h.form
 refine zbp (args := [.slice k p0.length o, .string p1]) hm Try.func77 s77 rfl fun w0 σ hO Q hQ => ?_
 unfold zfe at hF
 have hL := Hp.le.refl τ
 show wpn _ _ a77.body _ _ _
 unfold a77
 dsimp only
 refine zd hO [] [] [0, 1] zn5 fun j => ?_
 refine zM hO 2 [] [(5, zor k p0 o), (6, .string p1)] zn5 fun j => ?_
 obtain ⟨q, z, hF⟩ := zoq hF
 refine z3 hO (zjh (h.le hL) z) rfl fun _ σ _ _ hO B D => ?_
 have hL := hL.trans B
 obtain ⟨rfl, rfl⟩ := D
 have hO : Obs _ _ [] := hO
 refine zD hO [] [(4, .bool (decide (q ≥ 0)))] zn4 fun j => ?_
 refine zbb ?_
 cases hF
 exact hQ _ _ _ _ _ rfl hO hL ⟨rfl, rfl⟩
theorem zjG {τ : Hp} {E : Value} {p0 : (List ByteArray)} (D : RdT Ty.str τ E p0) {rr : Bool} (hF : zfx p0 = some rr) :
  Ctr Try.prog 61 #[E] τ [] (fun v τ' vs' => v = .bool rr ∧ vs' = []) := by
 obtain ⟨o, q, rfl, -⟩ := D.form
 refine zbp (args := [.slice o p0.length q]) hm Try.func61 s61 rfl fun w0 σ hO Q hQ => ?_
 unfold zfx at hF
 have hL := Hp.le.refl τ
 show wpn _ _ a61.body _ _ _
 unfold a61
 dsimp only
 refine zd hO [] [] [0] zn4 fun j => ?_
 refine zn (zd hO [] [(5, zor o p0 q), (6, zok (p0.length : Int)), (7, zok 0)] [0] zn7 fun j => ?_)
 refine zbr (zcg (fun (n : Nat) e' σ' => ∃ (g : Int) (τ' : Hp), agr [(0, zor o p0 q), (5, zor o p0 q), (6, zok (p0.length : Int)), (7, zok g)] e' ∧ Obs τ' σ' [] ∧ Hp.le τ τ' ∧ zeO p0 n g = some rr) big ⟨0, _, zoj zn6, hO, hL, hF⟩ ?_)
 clear hF hO hL
 rintro h e σ ⟨g, _, hA, hO, hL, hF⟩
 rw [← zW _ _ hA]
 cases h with
 | zero => exact nomatch (show none = some rr from hF)
 | succ h =>
 replace hF : ze5 (zeO p0 h) p0 g = some rr := hF
 unfold ze5 at hF
 refine zd hO [] [(8, .bool (decide (g < (p0.length : Int))))] [0, 5, 6, 7] zn8 fun j => ?_
 refine zz hF rfl (fun hF => ?_) fun hF => ?_
 ·refine zN (zbr (zg hO 1 [] [(9, zok g)] [0, 5, 6, 7] zn8 fun j => ?_))
  obtain ⟨z, G, hF⟩ := zoq hF
  refine zbG (T := Ty.str) (D.le hL) hO.base rfl rfl G (by decide) fun a39 _ I S => ?_
  obtain rfl : _ = ([.string z] : List Value) := I
  refine zbh rfl (S.le hO.base).fst ?_
  refine zd hO [] [(3, zok g), (4, .string z)] [0, 5, 6, 7] zn9 fun j => ?_
  refine zg hO 2 [] [(12, zor o p0 q), (13, zok g)] [0, 4, 5, 6, 7] zoa fun j => ?_
  obtain ⟨X, U, hF⟩ := zoq hF
  refine znl (T := Ty.str) (D.le hL) rfl rfl rfl U fun _ k => ?_
  obtain ⟨Y, Z, rfl, -⟩ := k.form
  refine zg hO 1 [] [(15, .string z)] [0, 5, 6, 7, 14] zn9 fun j => ?_
  obtain ⟨b0, V, hF⟩ := zoq hF
  refine z3 hO (zk1 k V) rfl fun _ σ _ _ hO B W => ?_
  have hL := hL.trans B
  have k := k.le B
  obtain ⟨rfl, rfl⟩ := W
  have hO : Obs _ _ [] := hO
  refine ze (zbz (zz hF rfl (fun hF => ?_) fun hF => ?_))
  ·refine zn (zD hO [] [(2, .bool true)] zn4 fun j => ?_)
   refine zbH (zbE (zbw (zbw (zbE (zbw ?_)))))
   cases hF
   exact hQ _ _ _ _ _ rfl hO hL ⟨rfl, rfl⟩
  refine zN (zh (zX (zi (zbi (zd hO [] [(7, zok (IntKind.i64.wrap (g + 1)))] [0, 5, 6] zn7 fun j => ?_)))))
  refine zh (zi ?_)
  exact ⟨h, Nat.lt_succ_self _, (IntKind.i64.wrap (g + 1)), _, zoj zn6, hO, hL, hF⟩
 refine zb9 (zbR (zbX (zi (zD hO [] [(2, .bool false)] zn4 fun j => ?_))))
 refine zbb ?_
 cases hF
 exact hQ _ _ _ _ _ rfl hO hL ⟨rfl, rfl⟩
theorem zne {τ : Hp} {p0 : zbj} {o : Value} {g : zbj} {h : Value} {k : Addr} (z : RdT Ty.str τ o p0.Fields) (q : RdT Ty.str τ h g.Fields) (E : At τ k [.string g.Name, h]) {rr : Bool} (hF : zib p0 g = some rr) :
  Ctr Try.prog 60 #[.agg #[.string p0.Name, o], .pointer (some k)] τ [] (fun v τ' vs' => v = .bool rr ∧ vs' = []) := by
 obtain ⟨B, D, rfl, -⟩ := z.form
 obtain ⟨G, I, rfl, -⟩ := q.form
 refine zbp (args := [.agg #[.string p0.Name, (.slice B p0.Fields.length D)], .pointer (some k)]) hm Try.func60 s60 rfl fun w0 σ hO Q hQ => ?_
 unfold zib at hF
 have hL := Hp.le.refl τ
 show wpn _ _ a60.body _ _ _
 unfold a60
 dsimp only
 refine zbJ (n := 2) hO rfl rfl fun S σ hO => ?_
 have hO := zop1 hO
 refine zd hO [] [] [1, 2] zn5 fun j => ?_
 refine zM hO 3 [0] [(5, .string p0.Name), (6, .pointer (some k))] (And.intro (And.intro rfl rfl) zn5) fun j => ?_
 refine zbh rfl ((E.le hL).le hO.base).fst ?_
 refine zD hO [] [(3, .bool (z9 p0.Name g.Name))] zn4 fun j => ?_
 refine zbb ?_
 cases hF
 have hO := hO.sel []
 exact hQ _ _ _ _ _ rfl hO hL ⟨rfl, rfl⟩
theorem zmu {τ : Hp} {I : Value} {p0 : (List zbj)} {h : zbj} {v1_0_1 : Value} {k : Addr} (S : RdT zw τ I p0) (r1_0_1 : RdT Ty.str τ v1_0_1 h.Fields) (D : At τ k [.string h.Name, v1_0_1]) {rr : Int} (hF : zgN p0 h = some rr) :
  Ctr Try.prog 59 #[I, .func (.func 60) #[] #[(.pointer (some k))]] τ [] (fun v τ' vs' => v = .int .i64 rr ∧ vs' = []) := by
 obtain ⟨E, G, rfl, -⟩ := S.form
 obtain ⟨A1_0_1, c1_0_1, rfl, -⟩ := r1_0_1.form
 refine zbp (args := [zor E p0 G, .func (.func 60) #[] #[(.pointer (some k))]]) hm Try.func59 s59 rfl fun w0 σ hO Q hQ => ?_
 unfold zgN at hF
 have hL := Hp.le.refl τ
 show wpn _ _ a59.body _ _ _
 unfold a59
 dsimp only
 refine zd hO [] [] [0, 1] zn5 fun j => ?_
 refine zn (zd hO [] [(7, zok (p0.length : Int)), (8, zok 0)] [0, 1] zn7 fun j => ?_)
 refine zbr (zcg (fun (n : Nat) e' σ' => ∃ (g : Int) (τ' : Hp), agr [(0, zor E p0 G), (1, .func (.func 60) #[] #[(.pointer (some k))]), (7, zok (p0.length : Int)), (8, zok g)] e' ∧ Obs τ' σ' [] ∧ Hp.le τ τ' ∧ zgl p0 h n g = some rr) big ⟨0, _, zoj zn6, hO, hL, hF⟩ ?_)
 clear hF hO hL
 rintro o e σ ⟨g, _, hA, hO, hL, hF⟩
 rw [← zW _ _ hA]
 cases o with
 | zero => exact nomatch (show none = some rr from hF)
 | succ o =>
 replace hF : zhv (zgl p0 h o) p0 h g = some rr := hF
 unfold zhv at hF
 refine zd hO [] [(9, .bool (decide (g < (p0.length : Int))))] [0, 1, 7, 8] zn8 fun j => ?_
 refine zz hF rfl (fun hF => ?_) fun hF => ?_
 ·refine zN (zbr (zd hO [] [(5, zok g)] [0, 1, 7, 8] zn8 fun j => ?_))
  refine zg hO 3 [] [(11, .func (.func 60) #[] #[(.pointer (some k))]), (12, zor E p0 G), (13, zok g)] [0, 1, 5, 7, 8] zob fun j => ?_
  obtain ⟨Y, U, hF⟩ := zoq hF
  refine zbG (T := zw) (S.le hL) hO.base rfl rfl U (by decide) fun a38 _ V z => ?_
  obtain ⟨Z, rfl, q⟩ := V
  obtain ⟨b0, b1, rfl, -⟩ := q.form
  refine zbh rfl ((z.le hO.base).all rfl) ?_
  obtain ⟨b2, W, hF⟩ := zoq hF
  refine ze1 rfl (by kernel_rfl) hO (zne q (r1_0_1.le hL) (D.le hL) W) rfl fun _ σ _ _ hO B X => ?_
  have hL := hL.trans B
  have z := z.le B
  have q := q.le B
  obtain ⟨rfl, rfl⟩ := X
  have hO : Obs _ _ [] := hO
  refine ze (zbz (zz hF rfl (fun hF => ?_) fun hF => ?_))
  ·refine zn (zD hO [] [(4, zok g)] zn4 fun j => ?_)
   refine zbH (zbE (zbw (zbw (zbE (zbw ?_)))))
   cases hF
   exact hQ _ _ _ _ _ rfl hO hL ⟨rfl, rfl⟩
  refine zN (zh (zX (zi (zbi (zd hO [] [(8, zok (IntKind.i64.wrap (g + 1)))] [0, 1, 7] zn7 fun j => ?_)))))
  refine zh (zi ?_)
  exact ⟨o, Nat.lt_succ_self _, (IntKind.i64.wrap (g + 1)), _, zoj zn6, hO, hL, hF⟩
 refine zb9 (zbR (zbX (zi (zD hO [] [(4, zok (-1))] zn4 fun j => ?_))))
 refine zbb ?_
 cases hF
 exact hQ _ _ _ _ _ rfl hO hL ⟨rfl, rfl⟩
theorem zkG {τ : Hp} {p0 : zB} {g h : Value} {k : ByteArray} {o : Addr} (q : RdT zcJ τ g p0.Params) (z : RdT zH τ h p0.Body) (I : At τ o [.string k]) {rr : Bool} (hF : zhn p0 k = some rr) :
  Ctr Try.prog 67 #[.agg #[.string p0.Name, .int .i64 p0.Line, g, .int .u8 p0.Result.Kind.toNat, .int .i64 p0.Result.N, .string p0.Result.Name, h], .pointer (some o)] τ [] (fun v τ' vs' => v = .bool rr ∧ vs' = []) := by
 obtain ⟨B, D, rfl, -⟩ := q.form
 obtain ⟨E, G, rfl, -⟩ := z.form
 refine zbp (args := [.agg #[.string p0.Name, .int .i64 p0.Line, (.slice B p0.Params.length D), .int .u8 p0.Result.Kind.toNat, .int .i64 p0.Result.N, .string p0.Result.Name, (.slice E p0.Body.length G)], .pointer (some o)]) hm Try.func67 s67 rfl fun w0 σ hO Q hQ => ?_
 unfold zhn at hF
 have hL := Hp.le.refl τ
 show wpn _ _ a67.body _ _ _
 unfold a67
 dsimp only
 refine zbJ (n := 7) hO rfl rfl fun S σ hO => ?_
 have hO := zop1 hO
 refine zd hO [] [] [1, 2] zn5 fun j => ?_
 refine zg hO 2 [0] [(5, .string p0.Name)] [1] (And.intro (And.intro rfl rfl) zn5) fun j => ?_
 refine zbh rfl ((I.le hL).le hO.base).fst ?_
 refine zD hO [] [(3, .bool (z9 p0.Name k))] zn4 fun j => ?_
 refine zbb ?_
 cases hF
 have hO := hO.sel []
 exact hQ _ _ _ _ _ rfl hO hL ⟨rfl, rfl⟩
theorem zjy {τ : Hp} {S : Value} {p0 : (List zB)} {h : ByteArray} {k : Addr} (U : RdT zt τ S p0) (E : At τ k [.string h]) {rr : Int} (hF : ze3 p0 h = some rr) :
  Ctr Try.prog 66 #[S, .func (.func 67) #[] #[(.pointer (some k))]] τ [] (fun v τ' vs' => v = .int .i64 rr ∧ vs' = []) := by
 obtain ⟨G, I, rfl, -⟩ := U.form
 refine zbp (args := [zor G p0 I, .func (.func 67) #[] #[(.pointer (some k))]]) hm Try.func66 s66 rfl fun w0 σ hO Q hQ => ?_
 unfold ze3 at hF
 have hL := Hp.le.refl τ
 show wpn _ _ a66.body _ _ _
 unfold a66
 dsimp only
 refine zd hO [] [] [0, 1] zn5 fun j => ?_
 refine zn (zd hO [] [(7, zok (p0.length : Int)), (8, zok 0)] [0, 1] zn7 fun j => ?_)
 refine zbr (zcg (fun (n : Nat) e' σ' => ∃ (g : Int) (τ' : Hp), agr [(0, zor G p0 I), (1, .func (.func 67) #[] #[(.pointer (some k))]), (7, zok (p0.length : Int)), (8, zok g)] e' ∧ Obs τ' σ' [] ∧ Hp.le τ τ' ∧ zfU p0 h n g = some rr) big ⟨0, _, zoj zn6, hO, hL, hF⟩ ?_)
 clear hF hO hL
 rintro o e σ ⟨g, _, hA, hO, hL, hF⟩
 rw [← zW _ _ hA]
 cases o with
 | zero => exact nomatch (show none = some rr from hF)
 | succ o =>
 replace hF : zil (zfU p0 h o) p0 h g = some rr := hF
 unfold zil at hF
 refine zd hO [] [(9, .bool (decide (g < (p0.length : Int))))] [0, 1, 7, 8] zn8 fun j => ?_
 refine zz hF rfl (fun hF => ?_) fun hF => ?_
 ·refine zN (zbr (zd hO [] [(5, zok g)] [0, 1, 7, 8] zn8 fun j => ?_))
  refine zg hO 3 [] [(11, .func (.func 67) #[] #[(.pointer (some k))]), (12, zor G p0 I), (13, zok g)] [0, 1, 5, 7, 8] zob fun j => ?_
  obtain ⟨Z, V, hF⟩ := zoq hF
  refine zbG (T := zt) (U.le hL) hO.base rfl rfl V (by decide) fun a46 _ W D => ?_
  obtain ⟨b0, b1, rfl, q, z⟩ := W
  obtain ⟨b2, b3, rfl, -⟩ := q.form
  obtain ⟨b4, b5, rfl, -⟩ := z.form
  refine zbh rfl ((D.le hO.base).all rfl) ?_
  obtain ⟨b6, X, hF⟩ := zoq hF
  refine ze1 rfl (by kernel_rfl) hO (zkG q z (E.le hL) X) rfl fun _ σ _ _ hO B Y => ?_
  have hL := hL.trans B
  have D := D.le B
  have q := q.le B
  have z := z.le B
  obtain ⟨rfl, rfl⟩ := Y
  have hO : Obs _ _ [] := hO
  refine ze (zbz (zz hF rfl (fun hF => ?_) fun hF => ?_))
  ·refine zn (zD hO [] [(4, zok g)] zn4 fun j => ?_)
   refine zbH (zbE (zbw (zbw (zbE (zbw ?_)))))
   cases hF
   exact hQ _ _ _ _ _ rfl hO hL ⟨rfl, rfl⟩
  refine zN (zh (zX (zi (zbi (zd hO [] [(8, zok (IntKind.i64.wrap (g + 1)))] [0, 1, 7] zn7 fun j => ?_)))))
  refine zh (zi ?_)
  exact ⟨o, Nat.lt_succ_self _, (IntKind.i64.wrap (g + 1)), _, zoj zn6, hO, hL, hF⟩
 refine zb9 (zbR (zbX (zi (zD hO [] [(4, zok (-1))] zn4 fun j => ?_))))
 refine zbb ?_
 cases hF
 exact hQ _ _ _ _ _ rfl hO hL ⟨rfl, rfl⟩
theorem zmT {τ : Hp} {q0 : zb} {I : Nat} {g h k : Value} {o : Ob} {q : Value} {z : Ob} {B : Value} {D : Ob} {E : Value} {G : Ob} {p1 : ByteArray} (U : RdT zw τ g q0.prog.Structs) (S : RdT zt τ h q0.prog.Funcs) (V : za zq 59 τ k q0.tree.Bodies o) (W : za zr 87 τ q q0.tree.Points z) (X : za zo 82 τ B q0.vars D) (Y : za (Ty.int .i64) 3 τ E q0.scope G) {rr : Int} (hF : zet q0 p1 = some rr) :
  Ctr Try.prog 53 #[.pointer (some ⟨I, 0, none⟩), .string p1] τ [zm I g h k q0.tree.Main q q0.fn B E, o, z, D, G] (fun v τ' vs' => v = .int .i64 rr ∧ vs' = [zm I g h k q0.tree.Main q q0.fn B E, o, z, D, G]) := by
 obtain ⟨b4, b5, rfl, -⟩ := U.form
 obtain ⟨Z, b0, rfl, -⟩ := S.form
 obtain ⟨b6, b7, rfl, -⟩ := V.form
 obtain ⟨b8, b9, rfl, -⟩ := W.form
 obtain ⟨c0, c1, rfl, -⟩ := X.form
 obtain ⟨c2, c3, rfl, -⟩ := Y.form
 refine zbp (args := [.pointer (some ⟨I, 0, none⟩), .string p1]) hm Try.func53 s53 rfl fun w0 σ hO Q hQ => ?_
 unfold zet at hF
 have hL := Hp.le.refl τ
 show wpn _ _ a53.body _ _ _
 unfold a53
 dsimp only
 refine zbJ (n := 1) hO rfl rfl fun b3 σ hO => ?_
 have hO := zop6 hO
 refine zd hO [] [] [0, 3] zn5 fun j => ?_
 refine zg hO 6 [0] [(9, zor Z q0.prog.Funcs b0), (10, .func (.func 67) #[] #[(.pointer (some ⟨b3, 0, none⟩))])] [0] (And.intro (And.intro rfl rfl) zn6) fun j => ?_
 obtain ⟨_, h5, m4, hO⟩ := hO.shareV (i := 5) rfl
 have hL := hL.trans h5
 have hO := zop6 hO
 obtain ⟨c6, h7, hF⟩ := zoq hF
 refine z3 hO (zjy (S.le hL) m4 h7) rfl fun _ σ _ _ hO h8 h9 => ?_
 have hL := hL.trans h8
 have m4 := m4.le h8
 obtain ⟨rfl, rfl⟩ := h9
 have hO := zop6 hO
 refine zd hO [] [(4, zok c6)] [0] zn5 fun j => ?_
 refine zbb ?_
 cases hF
 have hO := hO.sel [0, 1, 2, 3, 4]
 exact hQ _ _ _ _ _ rfl hO hL ⟨rfl, rfl⟩
theorem zfs {τ : Hp} {p0 : zk}  {rr : Bool} (hF : zcY p0 = some rr) :
  Ctr Try.prog 62 #[.agg #[.int .u8 p0.Kind.toNat, .int .i64 p0.N, .string p0.Name]] τ [] (fun v τ' vs' => v = .bool rr ∧ vs' = []) := by
 refine zbp (args := [.agg #[.int .u8 p0.Kind.toNat, .int .i64 p0.N, .string p0.Name]]) hm Try.func62 s62 rfl fun w0 σ hO Q hQ => ?_
 unfold zcY at hF
 have hL := Hp.le.refl τ
 show wpn _ _ a62.body _ _ _
 unfold a62
 dsimp only
 refine zbJ (n := 3) hO rfl rfl fun g σ hO => ?_
 have hO := zop1 hO
 refine zd hO [] [] [1] zn4 fun j => ?_
 refine zD hO [0, 0] [(2, .bool (((p0.Kind.toNat : Int) == 1) || ((p0.Kind.toNat : Int) == 2)))] (And.intro (And.intro rfl rfl) (And.intro (And.intro rfl rfl) (And.intro (And.intro rfl rfl) (fun _ => zoj trivial)))) fun j => ?_
 refine zbb ?_
 cases hF
 have hO := hO.sel []
 exact hQ _ _ _ _ _ rfl hO hL ⟨rfl, rfl⟩
theorem zkM {τ : Hp} {p0 : zbj} {g : Value} {h : ByteArray} {k : Addr} (o : RdT Ty.str τ g p0.Fields) (B : At τ k [.string h]) {rr : Bool} (hF : zh2 p0 h = some rr) :
  Ctr Try.prog 85 #[.agg #[.string p0.Name, g], .pointer (some k)] τ [] (fun v τ' vs' => v = .bool rr ∧ vs' = []) := by
 obtain ⟨q, z, rfl, -⟩ := o.form
 refine zbp (args := [.agg #[.string p0.Name, (.slice q p0.Fields.length z)], .pointer (some k)]) hm Try.func85 s85 rfl fun w0 σ hO Q hQ => ?_
 unfold zh2 at hF
 have hL := Hp.le.refl τ
 show wpn _ _ a85.body _ _ _
 unfold a85
 dsimp only
 refine zbJ (n := 2) hO rfl rfl fun D σ hO => ?_
 have hO := zop1 hO
 refine zd hO [] [] [1, 2] zn5 fun j => ?_
 refine zg hO 2 [0] [(5, .string p0.Name)] [1] (And.intro (And.intro rfl rfl) zn5) fun j => ?_
 refine zbh rfl ((B.le hL).le hO.base).fst ?_
 refine zD hO [] [(3, .bool (z9 p0.Name h))] zn4 fun j => ?_
 refine zbb ?_
 cases hF
 have hO := hO.sel []
 exact hQ _ _ _ _ _ rfl hO hL ⟨rfl, rfl⟩
theorem zmj {τ : Hp} {I : Value} {p0 : (List zbj)} {h : ByteArray} {k : Addr} (S : RdT zw τ I p0) (D : At τ k [.string h]) {rr : Int} (hF : zgh p0 h = some rr) :
  Ctr Try.prog 59 #[I, .func (.func 85) #[] #[(.pointer (some k))]] τ [] (fun v τ' vs' => v = .int .i64 rr ∧ vs' = []) := by
 obtain ⟨E, G, rfl, -⟩ := S.form
 refine zbp (args := [zor E p0 G, .func (.func 85) #[] #[(.pointer (some k))]]) hm Try.func59 s59 rfl fun w0 σ hO Q hQ => ?_
 unfold zgh at hF
 have hL := Hp.le.refl τ
 show wpn _ _ a59.body _ _ _
 unfold a59
 dsimp only
 refine zd hO [] [] [0, 1] zn5 fun j => ?_
 refine zn (zd hO [] [(7, zok (p0.length : Int)), (8, zok 0)] [0, 1] zn7 fun j => ?_)
 refine zbr (zcg (fun (n : Nat) e' σ' => ∃ (g : Int) (τ' : Hp), agr [(0, zor E p0 G), (1, .func (.func 85) #[] #[(.pointer (some k))]), (7, zok (p0.length : Int)), (8, zok g)] e' ∧ Obs τ' σ' [] ∧ Hp.le τ τ' ∧ zf4 p0 h n g = some rr) big ⟨0, _, zoj zn6, hO, hL, hF⟩ ?_)
 clear hF hO hL
 rintro o e σ ⟨g, _, hA, hO, hL, hF⟩
 rw [← zW _ _ hA]
 cases o with
 | zero => exact nomatch (show none = some rr from hF)
 | succ o =>
 replace hF : zhl (zf4 p0 h o) p0 h g = some rr := hF
 unfold zhl at hF
 refine zd hO [] [(9, .bool (decide (g < (p0.length : Int))))] [0, 1, 7, 8] zn8 fun j => ?_
 refine zz hF rfl (fun hF => ?_) fun hF => ?_
 ·refine zN (zbr (zd hO [] [(5, zok g)] [0, 1, 7, 8] zn8 fun j => ?_))
  refine zg hO 3 [] [(11, .func (.func 85) #[] #[(.pointer (some k))]), (12, zor E p0 G), (13, zok g)] [0, 1, 5, 7, 8] zob fun j => ?_
  obtain ⟨Y, U, hF⟩ := zoq hF
  refine zbG (T := zw) (S.le hL) hO.base rfl rfl U (by decide) fun a38 _ V z => ?_
  obtain ⟨Z, rfl, q⟩ := V
  obtain ⟨b0, b1, rfl, -⟩ := q.form
  refine zbh rfl ((z.le hO.base).all rfl) ?_
  obtain ⟨b2, W, hF⟩ := zoq hF
  refine ze1 rfl (by kernel_rfl) hO (zkM q (D.le hL) W) rfl fun _ σ _ _ hO B X => ?_
  have hL := hL.trans B
  have z := z.le B
  have q := q.le B
  obtain ⟨rfl, rfl⟩ := X
  have hO : Obs _ _ [] := hO
  refine ze (zbz (zz hF rfl (fun hF => ?_) fun hF => ?_))
  ·refine zn (zD hO [] [(4, zok g)] zn4 fun j => ?_)
   refine zbH (zbE (zbw (zbw (zbE (zbw ?_)))))
   cases hF
   exact hQ _ _ _ _ _ rfl hO hL ⟨rfl, rfl⟩
  refine zN (zh (zX (zi (zbi (zd hO [] [(8, zok (IntKind.i64.wrap (g + 1)))] [0, 1, 7] zn7 fun j => ?_)))))
  refine zh (zi ?_)
  exact ⟨o, Nat.lt_succ_self _, (IntKind.i64.wrap (g + 1)), _, zoj zn6, hO, hL, hF⟩
 refine zb9 (zbR (zbX (zi (zD hO [] [(4, zok (-1))] zn4 fun j => ?_))))
 refine zbb ?_
 cases hF
 exact hQ _ _ _ _ _ rfl hO hL ⟨rfl, rfl⟩
theorem zkp {τ : Hp} {q0 : zb} {S : Nat} {g h k : Value} {o : Ob} {q : Value} {z : Ob} {B : Value} {D : Ob} {E : Value} {G : Ob} {p1 : ByteArray} (I : RdT zw τ g q0.prog.Structs) (W : RdT zt τ h q0.prog.Funcs) (X : za zq 59 τ k q0.tree.Bodies o) (Y : za zr 87 τ q q0.tree.Points z) (Z : za zo 82 τ B q0.vars D) (b0 : za (Ty.int .i64) 3 τ E q0.scope G) {rr : (List ByteArray) × Bool} (hF : zeX q0 p1 = some rr) :
  Ctr Try.prog 78 #[.pointer (some ⟨S, 0, none⟩), .string p1] τ [zm S g h k q0.tree.Main q q0.fn B E, o, z, D, G] (fun v τ' vs' => ∃ (v0 : Value), v = .tuple #[v0, .bool rr.2] ∧ vs' = [zm S g h k q0.tree.Main q q0.fn B E, o, z, D, G] ∧ RdT Ty.str τ' v0 rr.1) := by
 obtain ⟨U, V, rfl, -⟩ := I.form
 obtain ⟨c3, c4, rfl, -⟩ := W.form
 obtain ⟨c5, c7, rfl, -⟩ := X.form
 obtain ⟨c8, c9, rfl, -⟩ := Y.form
 obtain ⟨d0, d5, rfl, -⟩ := Z.form
 obtain ⟨d6, d7, rfl, -⟩ := b0.form
 refine zbp (args := [.pointer (some ⟨S, 0, none⟩), .string p1]) hm Try.func78 s78 rfl fun w0 σ hO Q hQ => ?_
 unfold zeX at hF
 have hL := Hp.le.refl τ
 show wpn _ _ a78.body _ _ _
 unfold a78
 dsimp only
 refine zbJ (n := 1) hO rfl rfl fun b3 σ hO => ?_
 have hO := zop6 hO
 refine zd hO [] [] [0, 3] zn5 fun j => ?_
 refine zg hO 6 [0] [(11, zor U q0.prog.Structs V), (12, .func (.func 85) #[] #[(.pointer (some ⟨b3, 0, none⟩))])] [0] (And.intro (And.intro rfl rfl) zn6) fun j => ?_
 obtain ⟨_, h5, m4, hO⟩ := hO.shareV (i := 5) rfl
 have hL := hL.trans h5
 have hO := zop6 hO
 obtain ⟨c6, h7, hF⟩ := zoq hF
 refine z3 hO (zmj (I.le hL) m4 h7) rfl fun _ σ _ _ hO h8 h9 => ?_
 have hL := hL.trans h8
 have m4 := m4.le h8
 obtain ⟨rfl, rfl⟩ := h9
 have hO := zop6 hO
 refine zd hO [] [(6, zok c6)] [0] zn5 fun j => ?_
 refine zn (zd hO [] [(15, .bool (decide (c6 < 0)))] [0, 6] zn6 fun j => ?_)
 refine zz hF rfl (fun hF => ?_) fun hF => ?_
 ·refine zn (zd hO [] [(4, .slice none 0 0), (5, .bool false)] [0] zn6 fun j => ?_)
  refine zbH ?_
  cases hF
  have hO := hO.sel [0, 1, 2, 3, 4]
  exact hQ _ _ _ _ _ rfl hO hL ⟨_, rfl, rfl, (RdT.nil _ _)⟩
 refine zN (zg hO 6 [0] [(20, zor U q0.prog.Structs V), (21, zok c6)] [0] (And.intro (And.intro rfl rfl) zn6) fun j => ?_)
 obtain ⟨b7, b8, hF⟩ := zoq hF
 refine zbG (T := zw) (I.le hL) hO.base rfl rfl b8 (by decide) fun a13 _ b9 c0 => ?_
 obtain ⟨f2, rfl, b1⟩ := b9
 obtain ⟨c1, c2, rfl, -⟩ := b1.form
 refine zg hO 1 [] [(23, .pointer (some (a13.add 1)))] [0] zn5 fun j => ?_
 refine zbh rfl ((c0.le hO.base).one 1 rfl) ?_
 refine zd hO [] [(4, zor c1 b7.Fields c2), (5, .bool true)] [0] zn6 fun j => ?_
 refine zbb ?_
 cases hF
 have hO := hO.sel [0, 1, 2, 3, 4]
 exact hQ _ _ _ _ _ rfl hO hL ⟨_, rfl, rfl, b1⟩
theorem zgZ {τ : Hp} {q0 : zb} {I : Nat} {g h k : Value} {o : Ob} {q : Value} {z : Ob} {B : Value} {D : Ob} {E : Value} {G : Ob} {p1 : zk} (S : RdT zw τ g q0.prog.Structs) (U : RdT zt τ h q0.prog.Funcs) (V : za zq 59 τ k q0.tree.Bodies o) (W : za zr 87 τ q q0.tree.Points z) (X : za zo 82 τ B q0.vars D) (Y : za (Ty.int .i64) 3 τ E q0.scope G) {rr : Bool} (hF : zc1 q0 p1 = some rr) :
  Ctr Try.prog 63 #[.pointer (some ⟨I, 0, none⟩), .agg #[.int .u8 p1.Kind.toNat, .int .i64 p1.N, .string p1.Name]] τ [zm I g h k q0.tree.Main q q0.fn B E, o, z, D, G] (fun v τ' vs' => v = .bool rr ∧ vs' = [zm I g h k q0.tree.Main q q0.fn B E, o, z, D, G]) := by
 obtain ⟨b1, b2, rfl, -⟩ := S.form
 obtain ⟨b4, b5, rfl, -⟩ := U.form
 obtain ⟨b6, b7, rfl, -⟩ := V.form
 obtain ⟨b8, b9, rfl, -⟩ := W.form
 obtain ⟨c0, c1, rfl, -⟩ := X.form
 obtain ⟨c2, c3, rfl, -⟩ := Y.form
 refine zbp (args := [.pointer (some ⟨I, 0, none⟩), .agg #[.int .u8 p1.Kind.toNat, .int .i64 p1.N, .string p1.Name]]) hm Try.func63 s63 rfl fun w0 σ hO Q hQ => ?_
 unfold zc1 at hF
 have hL := Hp.le.refl τ
 show wpn _ _ a63.body _ _ _
 unfold a63
 dsimp only
 refine zbJ (n := 3) hO rfl rfl fun b3 σ hO => ?_
 have hO := zop6 hO
 refine zd hO [] [] [0, 3] zn5 fun j => ?_
 refine zg hO 3 [5] [(8, zol I), (10, .string p1.Name)] [0, 3] (And.intro (And.intro rfl rfl) zn7) fun j => ?_
 obtain ⟨Z, h5, hF⟩ := zoq hF
 have hO := hO.sel [5, 0, 1, 2, 3, 4]
 refine zb1 (hs := [_]) hO (zkp (S.le hL) (U.le hL) (V.le hL) (W.le hL) (X.le hL) (Y.le hL) h5) rfl fun _ σ _ _ hO h6 h7 => ?_
 have hL := hL.trans h6
 obtain ⟨v8, rfl, rfl, b0⟩ := h7
 obtain ⟨A9, c8, rfl, -⟩ := b0.form
 have hO := zop6 hO
 have hO := hO.sel [1, 2, 3, 4, 5, 0]
 have hO := zop6 hO
 refine zd hO [] [(6, .bool Z.2)] [0, 3] zn6 fun j => ?_
 refine zd hO [5] [(4, .bool (((p1.Kind.toNat : Int) != 4) || Z.2))] [0] (And.intro (And.intro rfl rfl) (And.intro (And.intro rfl rfl) (fun _ => zoj zn4))) fun j => ?_
 refine zbb ?_
 cases hF
 have hO := hO.sel [0, 1, 2, 3, 4]
 exact hQ _ _ _ _ _ rfl hO hL ⟨rfl, rfl⟩
theorem zmF {τ : Hp} {h : Value} {p0 : (List Int)} (o : RdT (Ty.int .i64) τ h p0) {rr : (List Int)} (hF : zgC p0 = some rr) :
  Ctr Try.prog 86 #[h] τ [] (fun v τ' vs' => ∃ (h : Value) (q : Ob), v = h ∧ vs' = [q] ∧ za (Ty.int .i64) 3 τ' h rr q) := by
 obtain ⟨g, k, rfl, -⟩ := o.form
 refine zbp (args := [.slice g p0.length k]) hm Try.func86 s86 rfl fun w0 σ hO Q hQ => ?_
 unfold zgC at hF
 obtain ⟨_, hr, hF⟩ := zoq hF
 injection hF with hF
 subst hF
 have hL := Hp.le.refl τ
 show wpn _ _ a86.body _ _ _
 unfold a86
 dsimp only
 refine zD hO [] [(0, zor g p0 k)] zn4 fun j => ?_
 refine zn (zD hO [] [(0, zor g p0 k), (4, .bool g.isNone)] zn5 fun j => ?_)
 rcases (Bool.eq_false_or_eq_true g.isNone).symm with hA | hA
 ·refine zfl (zom hA) ?_
  refine zN (z5 (T := (Ty.int .i64)) (l := []) (cs := []) hO rfl rfl rfl (by decide) fun _ σ E w1 hO => ?_)
  obtain ⟨z, B, rfl, -⟩ := w1.form
  refine zM hO 1 [] [(5, .slice z 0 B), (6, zor g p0 k)] zn5 fun j => ?_
  refine zeY (T := (Ty.int .i64)) hO w1 (i := 0) rfl rfl rfl o (by simpa using hr) (by decide) fun _ σ G D hO => ?_
  refine zD hO [] [(2, _)] zn4 fun j => ?_
  refine zbb ?_
  exact hQ _ _ _ _ _ rfl hO hL ⟨_, _, rfl, rfl, D⟩
 refine zf6 (zom hA) ?_
 have := o.empty (by decide) hA
 subst this
 refine zn (zD hO [] [(2, .slice none 0 0)] zn4 fun j => ?_)
 refine zbH ?_
 have hO := hO.no
 exact hQ _ _ _ _ _ rfl hO hL ⟨_, _, rfl, rfl, za.nil _ _ _⟩
theorem zmd {τ : Hp} {p0 : zG} {g : Value} {h : ByteArray} {k : Addr} (o : RdT Ty.str τ g p0.Fields) (B : At τ k [.string h]) {rr : Bool} (hF : zio p0 h = some rr) :
  Ctr Try.prog 101 #[.agg #[.string p0.Name, .int .u8 p0.Type_.Kind.toNat, .int .i64 p0.Type_.N, .string p0.Type_.Name, .int .i64 p0.Words, g], .pointer (some k)] τ [] (fun v τ' vs' => v = .bool rr ∧ vs' = []) := by
 obtain ⟨q, z, rfl, -⟩ := o.form
 refine zbp (args := [.agg #[.string p0.Name, .int .u8 p0.Type_.Kind.toNat, .int .i64 p0.Type_.N, .string p0.Type_.Name, .int .i64 p0.Words, (.slice q p0.Fields.length z)], .pointer (some k)]) hm Try.func101 znn rfl fun w0 σ hO Q hQ => ?_
 unfold zio at hF
 have hL := Hp.le.refl τ
 show wpn _ _ zin.body _ _ _
 unfold zin
 dsimp only
 refine zbJ (n := 6) hO rfl rfl fun D σ hO => ?_
 have hO := zop1 hO
 refine zd hO [] [] [1, 2] zn5 fun j => ?_
 refine zg hO 2 [0] [(5, .string p0.Name)] [1] (And.intro (And.intro rfl rfl) zn5) fun j => ?_
 refine zbh rfl ((B.le hL).le hO.base).fst ?_
 refine zD hO [] [(3, .bool (z9 p0.Name h))] zn4 fun j => ?_
 refine zbb ?_
 cases hF
 have hO := hO.sel []
 exact hQ _ _ _ _ _ rfl hO hL ⟨rfl, rfl⟩
theorem zlP {τ : Hp} {I : Value} {p0 : (List zG)} {h : ByteArray} {k : Addr} (S : RdT zo τ I p0) (D : At τ k [.string h]) {rr : Int} (hF : zf9 p0 h = some rr) :
  Ctr Try.prog 100 #[I, .func (.func 101) #[] #[(.pointer (some k))]] τ [] (fun v τ' vs' => v = .int .i64 rr ∧ vs' = []) := by
 obtain ⟨E, G, rfl, -⟩ := S.form
 refine zbp (args := [zor E p0 G, .func (.func 101) #[] #[(.pointer (some k))]]) hm Try.func100 zmU rfl fun w0 σ hO Q hQ => ?_
 unfold zf9 at hF
 have hL := Hp.le.refl τ
 show wpn _ _ ziu.body _ _ _
 unfold ziu
 dsimp only
 refine zd hO [] [] [0, 1] zn5 fun j => ?_
 refine zn (zd hO [] [(7, zok (p0.length : Int)), (8, zok 0)] [0, 1] zn7 fun j => ?_)
 refine zbr (zcg (fun (n : Nat) e' σ' => ∃ (g : Int) (τ' : Hp), agr [(0, zor E p0 G), (1, .func (.func 101) #[] #[(.pointer (some k))]), (7, zok (p0.length : Int)), (8, zok g)] e' ∧ Obs τ' σ' [] ∧ Hp.le τ τ' ∧ zgv p0 h n g = some rr) big ⟨0, _, zoj zn6, hO, hL, hF⟩ ?_)
 clear hF hO hL
 rintro o e σ ⟨g, _, hA, hO, hL, hF⟩
 rw [← zW _ _ hA]
 cases o with
 | zero => exact nomatch (show none = some rr from hF)
 | succ o =>
 replace hF : zia (zgv p0 h o) p0 h g = some rr := hF
 unfold zia at hF
 refine zd hO [] [(9, .bool (decide (g < (p0.length : Int))))] [0, 1, 7, 8] zn8 fun j => ?_
 refine zz hF rfl (fun hF => ?_) fun hF => ?_
 ·refine zN (zbr (zd hO [] [(5, zok g)] [0, 1, 7, 8] zn8 fun j => ?_))
  refine zg hO 3 [] [(11, .func (.func 101) #[] #[(.pointer (some k))]), (12, zor E p0 G), (13, zok g)] [0, 1, 5, 7, 8] zob fun j => ?_
  obtain ⟨Y, U, hF⟩ := zoq hF
  refine zbG (T := zo) (S.le hL) hO.base rfl rfl U (by decide) fun a38 _ V z => ?_
  obtain ⟨Z, rfl, q⟩ := V
  obtain ⟨b0, b1, rfl, -⟩ := q.form
  refine zbh rfl ((z.le hO.base).all rfl) ?_
  obtain ⟨b2, W, hF⟩ := zoq hF
  refine ze1 rfl (by kernel_rfl) hO (zmd q (D.le hL) W) rfl fun _ σ _ _ hO B X => ?_
  have hL := hL.trans B
  have z := z.le B
  have q := q.le B
  obtain ⟨rfl, rfl⟩ := X
  have hO : Obs _ _ [] := hO
  refine ze (zbz (zz hF rfl (fun hF => ?_) fun hF => ?_))
  ·refine zn (zD hO [] [(4, zok g)] zn4 fun j => ?_)
   refine zbH (zbE (zbw (zbw (zbE (zbw ?_)))))
   cases hF
   exact hQ _ _ _ _ _ rfl hO hL ⟨rfl, rfl⟩
  refine zN (zh (zX (zi (zbi (zd hO [] [(8, zok (IntKind.i64.wrap (g + 1)))] [0, 1, 7] zn7 fun j => ?_)))))
  refine zh (zi ?_)
  exact ⟨o, Nat.lt_succ_self _, (IntKind.i64.wrap (g + 1)), _, zoj zn6, hO, hL, hF⟩
 refine zb9 (zbR (zbX (zi (zD hO [] [(4, zok (-1))] zn4 fun j => ?_))))
 refine zbb ?_
 cases hF
 exact hQ _ _ _ _ _ rfl hO hL ⟨rfl, rfl⟩
theorem zkg {τ : Hp} {q0 : zb} {S : Nat} {g k o : Value} {q : Ob} {z : Value} {B : Ob} {D : Value} {E : Ob} {G : Value} {I : Ob} {p1 : ByteArray} (V : RdT zw τ g q0.prog.Structs) (W : RdT zt τ k q0.prog.Funcs) (X : za zq 59 τ o q0.tree.Bodies q) (Y : za zr 87 τ z q0.tree.Points B) (U : za zo 82 τ D q0.vars E) (Z : za (Ty.int .i64) 3 τ G q0.scope I) {rr : Int} (hF : zes q0 p1 = some rr) :
  Ctr Try.prog 93 #[.pointer (some ⟨S, 0, none⟩), .string p1] τ [zm S g k o q0.tree.Main z q0.fn D G, q, B, E, I] (fun v τ' vs' => v = .int .i64 rr ∧ vs' = [zm S g k o q0.tree.Main z q0.fn D G, q, B, E, I]) := by
 obtain ⟨b7, b8, rfl, -⟩ := V.form
 obtain ⟨b9, c0, rfl, -⟩ := W.form
 obtain ⟨c1, c2, rfl, -⟩ := X.form
 obtain ⟨c3, c4, rfl, -⟩ := Y.form
 obtain ⟨b0, b1, rfl, -⟩ := U.form
 obtain ⟨c5, c7, rfl, -⟩ := Z.form
 refine zbp (args := [.pointer (some ⟨S, 0, none⟩), .string p1]) hm Try.func93 s93 rfl fun w0 σ hO Q hQ => ?_
 unfold zes at hF
 have hL := Hp.le.refl τ
 show wpn _ _ a93.body _ _ _
 unfold a93
 dsimp only
 refine zbJ (n := 1) hO rfl rfl fun b3 σ hO => ?_
 have hO := zop6 hO
 refine zd hO [] [] [0, 3] zn5 fun j => ?_
 refine zg hO 5 [0] [(8, zor b0 q0.vars b1), (9, .func (.func 101) #[] #[(.pointer (some ⟨b3, 0, none⟩))])] [0] (And.intro (And.intro rfl rfl) zn6) fun j => ?_
 obtain ⟨_, h5, m4, hO⟩ := hO.shareV (i := 5) rfl
 have hL := hL.trans h5
 have hO := zop6 hO
 obtain ⟨c6, h7, hF⟩ := zoq hF
 have hO := hO.sel [0, 1, 2, 4, 5, 3]
 refine zb1 (hs := [_, _, _, _, _]) hO (Ctr.lendG (U.le hL) (fun _ _ _ _ h => h) fun _ b4 b5 => zlP b5 (m4.le b4) h7) rfl fun _ σ _ _ hO h8 h9 => ?_
 have hL := hL.trans h8
 have m4 := m4.le h8
 obtain ⟨_, rfl, rfl, rfl⟩ := h9
 have hO := zop6 hO
 have hO := hO.sel [0, 1, 2, 5, 3, 4]
 have hO := zop6 hO
 refine zd hO [] [(4, zok c6)] [0] zn5 fun j => ?_
 refine zbb ?_
 cases hF
 have hO := hO.sel [0, 1, 2, 3, 4]
 exact hQ _ _ _ _ _ rfl hO hL ⟨rfl, rfl⟩
theorem zmN {τ : Hp} {z : Value} {p0 : (List Int)} {p1 : Int} (B : RdT (Ty.int .i64) τ z p0) {rr : Int} (hF : zgp p0 p1 = some rr) :
  Ctr Try.prog 106 #[z, .int .i64 p1] τ [] (fun v τ' vs' => v = .int .i64 rr ∧ vs' = []) := by
 obtain ⟨o, q, rfl, -⟩ := B.form
 refine zbp (args := [.slice o p0.length q, .int .i64 p1]) hm Try.func106 zkI rfl fun w0 σ hO Q hQ => ?_
 unfold zgp at hF
 have hL := Hp.le.refl τ
 show wpn _ _ zhK.body _ _ _
 unfold zhK
 dsimp only
 refine zd hO [] [] [0, 1] zn5 fun j => ?_
 refine zn (zd hO [] [(7, zok (p0.length : Int)), (8, zok 0)] [0, 1] zn7 fun j => ?_)
 refine zbr (zcg (fun (n : Nat) e' σ' => ∃ (g : Int) (τ' : Hp), agr [(0, zor o p0 q), (1, zok p1), (7, zok (p0.length : Int)), (8, zok g)] e' ∧ Obs τ' σ' [] ∧ Hp.le τ τ' ∧ zgk p0 p1 n g = some rr) big ⟨0, _, zoj zn6, hO, hL, hF⟩ ?_)
 clear hF hO hL
 rintro h e σ ⟨g, _, hA, hO, hL, hF⟩
 rw [← zW _ _ hA]
 cases h with
 | zero => exact nomatch (show none = some rr from hF)
 | succ h =>
 replace hF : zg4 (zgk p0 p1 h) p0 p1 g = some rr := hF
 unfold zg4 at hF
 refine zd hO [] [(9, .bool (decide (g < (p0.length : Int))))] [0, 1, 7, 8] zn8 fun j => ?_
 refine zz hF rfl (fun hF => ?_) fun hF => ?_
 ·refine zN (zbr (zd hO [] [(5, zok g)] [0, 1, 7, 8] zn8 fun j => ?_))
  refine zg hO 3 [] [(11, zok p1), (12, zor o p0 q), (13, zok g)] [0, 1, 5, 7, 8] zob fun j => ?_
  obtain ⟨k, D, hF⟩ := zoq hF
  refine zbG (T := (Ty.int .i64)) (B.le hL) hO.base rfl rfl D (by decide) fun a22 _ E G => ?_
  obtain rfl : _ = ([.int .i64 k] : List Value) := E
  refine zbh rfl (G.le hO.base).fst ?_
  refine zd hO [] [(16, .bool (p1 == k))] [0, 1, 5, 7, 8] zn9 fun j => ?_
  refine zbz (zz hF rfl (fun hF => ?_) fun hF => ?_)
  ·refine zn (zD hO [] [(4, zok g)] zn4 fun j => ?_)
   refine zbH (zbE (zbw (zbw (zbE (zbw ?_)))))
   cases hF
   exact hQ _ _ _ _ _ rfl hO hL ⟨rfl, rfl⟩
  refine zN (zh (zX (zi (zbi (zd hO [] [(8, zok (IntKind.i64.wrap (g + 1)))] [0, 1, 7] zn7 fun j => ?_)))))
  refine zh (zi ?_)
  exact ⟨h, Nat.lt_succ_self _, (IntKind.i64.wrap (g + 1)), _, zoj zn6, hO, hL, hF⟩
 refine zb9 (zbR (zbX (zi (zD hO [] [(4, zok (-1))] zn4 fun j => ?_))))
 refine zbb ?_
 cases hF
 exact hQ _ _ _ _ _ rfl hO hL ⟨rfl, rfl⟩
theorem zlI {τ : Hp} {g : Value} {p0 : (List Int)} {p1 : Int} (h : RdT (Ty.int .i64) τ g p0) {rr : Bool} (hF : zfE p0 p1 = some rr) :
  Ctr Try.prog 102 #[g, .int .i64 p1] τ [] (fun v τ' vs' => v = .bool rr ∧ vs' = []) := by
 obtain ⟨k, o, rfl, -⟩ := h.form
 refine zbp (args := [.slice k p0.length o, .int .i64 p1]) hm Try.func102 zlJ rfl fun w0 σ hO Q hQ => ?_
 unfold zfE at hF
 have hL := Hp.le.refl τ
 show wpn _ _ zhi.body _ _ _
 unfold zhi
 dsimp only
 refine zd hO [] [] [0, 1] zn5 fun j => ?_
 refine zM hO 2 [] [(5, zor k p0 o), (6, zok p1)] zn5 fun j => ?_
 obtain ⟨q, z, hF⟩ := zoq hF
 refine z3 hO (zmN (h.le hL) z) rfl fun _ σ _ _ hO B D => ?_
 have hL := hL.trans B
 obtain ⟨rfl, rfl⟩ := D
 have hO : Obs _ _ [] := hO
 refine zD hO [] [(4, .bool (decide (q ≥ 0)))] zn4 fun j => ?_
 refine zbb ?_
 cases hF
 exact hQ _ _ _ _ _ rfl hO hL ⟨rfl, rfl⟩
theorem zeu {τ : Hp} {q0 : zb} {z : Nat} {B D E : Value} {g : Ob} {G : Value} {k : Ob} {I : Value} {o : Ob} {S : Value} {q : Ob} {p1 : ByteArray} (W : RdT zw τ B q0.prog.Structs) (X : RdT zt τ D q0.prog.Funcs) (Y : za zq 59 τ E q0.tree.Bodies g) (Z : za zr 87 τ G q0.tree.Points k) (b0 : za zo 82 τ I q0.vars o) (U : za (Ty.int .i64) 3 τ S q0.scope q) {rr : Except (Value) (Int)} (hF : zd6 q0 p1 = some rr) :
  zbu Try.prog 95 #[.pointer (some ⟨z, 0, none⟩), .string p1] τ [zm z B D E q0.tree.Main G q0.fn I S, g, k, o, q] (fun v τ' vs' => match (generalizing := false) rr with | .ok rr => v = .int .i64 rr ∧ vs' = [zm z B D E q0.tree.Main G q0.fn I S, g, k, o, q] | .error _ => False) (fun ch τ' vs' => match (generalizing := false) rr with | .ok _ => False | .error ee => ch = [{ v := ee, recovered := false }] ∧ vs' = [zm z B D E q0.tree.Main G q0.fn I S, g, k, o, q]) := by
 obtain ⟨b4, b5, rfl, -⟩ := W.form
 obtain ⟨b6, b7, rfl, -⟩ := X.form
 obtain ⟨b8, b9, rfl, -⟩ := Y.form
 obtain ⟨c0, c1, rfl, -⟩ := Z.form
 obtain ⟨c2, c4, rfl, -⟩ := b0.form
 obtain ⟨b1, b2, rfl, -⟩ := U.form
 refine zcz (args := [.pointer (some ⟨z, 0, none⟩), .string p1]) hm Try.func95 s95 rfl fun w0 σ hP hO Q hQ => ?_
 unfold zd6 at hF
 have hL := Hp.le.refl τ
 show wpn _ _ a95.body _ _ _
 unfold a95
 dsimp only
 refine zd hO [] [] [0, 1] zn5 fun j => ?_
 refine zg hO 2 [] [(6, zol z), (7, .string p1)] [0] zn6 fun j => ?_
 obtain ⟨c3, h4, hF⟩ := zoq hF
 refine zb1 (hs := []) hO (zkg (W.le hL) (X.le hL) (Y.le hL) (Z.le hL) (b0.le hL) (U.le hL) h4) rfl fun _ σ _ _ hO h5 h6 => ?_
 have hL := hL.trans h5
 obtain ⟨rfl, rfl⟩ := h6
 have hO := zop5 hO
 refine zd hO [] [(5, zok c3)] [0] zn5 fun j => ?_
 refine zg hO 3 [] [(11, .bool (decide (c3 ≥ 0)))] [0, 5] zn6 fun j => ?_
 obtain ⟨c7, h8, hF⟩ := zoq hF
 refine zcW 2 (fun e' σ' => ∃ (τ' : Hp), agr [(18, .bool c7), (0, zol z), (5, zok c3)] e' ∧ Obs τ' σ' [zm z (zor b4 q0.prog.Structs b5) (zor b6 q0.prog.Funcs b7) (zor b8 q0.tree.Bodies b9) q0.tree.Main (zor c0 q0.tree.Points c1) q0.fn (zor c2 q0.vars c4) (zor b1 q0.scope b2), g, k, o, q] ∧ Hp.le τ τ') ?_ ?_
 ·have hF := h8
  rcases zb8 hF with ⟨V, hF⟩ | ⟨V, hF⟩
  ·refine zbA (zoo V) ?_
   refine zg hO 5 [0] [(15, zor b1 q0.scope b2), (16, zok c3)] [0, 5, 11] (And.intro (And.intro rfl rfl) zn8) fun j => ?_
   obtain ⟨f5, c5, hF⟩ := zoq hF
   refine zb1 (hs := [_, _, _, _]) hO (Ctr.lendG (U.le hL) (fun _ _ _ _ h => h) fun _ f6 c6 => zlI c6 c5) rfl fun _ σ _ _ hO c8 c9 => ?_
   have hL := hL.trans c8
   obtain ⟨_, rfl, rfl, rfl⟩ := c9
   have hO := zop5 hO
   refine zbf (zom V) ?_
   refine ze ?_
   cases hF
   refine zh ?_
   exact ⟨rfl, _, zoj zn5, hO, hL⟩
  refine zbI (zoo V) ?_
  refine zbf (zom V) ?_
  refine ze ?_
  cases hF
  refine zh ?_
  exact ⟨rfl, _, zoj zn5, hO, hL⟩
 rintro e σ ⟨_, hA, hO, hL⟩
 rw [← zW _ _ hA]
 rcases zP hF with ⟨f7, d0, hF⟩ | ⟨f8, d5, hF⟩
 ·refine zbM hO (zbg d0) zn2 rfl fun _ σ _ _ hO d6 d7 => ?_
  have hL := hL.trans d6
  obtain ⟨rfl, rfl⟩ := d7
  have hO := zop5 hO
  cases hF
  exact hP _ _ _ _ hO hL ⟨rfl, rfl⟩
 refine zbO hO (zbg d5) zn2 rfl fun _ σ _ _ hO d8 d9 => ?_
 have hL := hL.trans d8
 obtain ⟨rfl, rfl⟩ := d9
 have hO := zop5 hO
 refine ze (zd hO [] [(4, zok c3)] [0] zn5 fun j => ?_)
 refine zbb ?_
 cases hF
 refine (hQ _ _ _ _ _ rfl hO hL ?_).1
 exact ⟨rfl, rfl⟩
theorem zc9 {τ : Hp} {q0 : zb} {I : Nat} {g h k : Value} {o : Ob} {q : Value} {z : Ob} {B : Value} {D : Ob} {E : Value} {G : Ob} {p1 U : Int} (V : RdT zw τ g q0.prog.Structs) (W : RdT zt τ h q0.prog.Funcs) (X : za zq 59 τ k q0.tree.Bodies o) (Y : za zr 87 τ q q0.tree.Points z) (S : za zo 82 τ B q0.vars D) (Z : za (Ty.int .i64) 3 τ E q0.scope G) {rr : Except (Value) (Unit)} (hF : zdp q0 p1 U = some rr) :
  zbu Try.prog 96 #[.pointer (some ⟨I, 0, none⟩), .int .i64 p1, .int .u8 U] τ [zm I g h k q0.tree.Main q q0.fn B E, o, z, D, G] (fun v τ' vs' => match (generalizing := false) rr with | .ok rr => v = .tuple #[] ∧ vs' = [zm I g h k q0.tree.Main q q0.fn B E, o, z, D, G] | .error _ => False) (fun ch τ' vs' => match (generalizing := false) rr with | .ok _ => False | .error ee => ch = [{ v := ee, recovered := false }] ∧ vs' = [zm I g h k q0.tree.Main q q0.fn B E, o, z, D, G]) := by
 obtain ⟨c0, c1, rfl, -⟩ := V.form
 obtain ⟨c2, c3, rfl, -⟩ := W.form
 obtain ⟨c4, c5, rfl, -⟩ := X.form
 obtain ⟨c6, c7, rfl, -⟩ := Y.form
 obtain ⟨b0, b1, rfl, -⟩ := S.form
 obtain ⟨c8, c9, rfl, -⟩ := Z.form
 refine zcz (args := [.pointer (some ⟨I, 0, none⟩), .int .i64 p1, .int .u8 U]) hm Try.func96 s96 rfl fun w0 σ hP hO Q hQ => ?_
 unfold zdp at hF
 have hL := Hp.le.refl τ
 show wpn _ _ a96.body _ _ _
 unfold a96
 dsimp only
 refine zbi (zg hO 5 [0] [(9, zor b0 q0.vars b1), (10, zok p1)] [0, 2] (And.intro (And.intro rfl rfl) zn7) fun j => ?_)
 obtain ⟨y4, g5, hF⟩ := zoq hF
 refine zdg (T := zo) hO (S.le hL) (i := 3) rfl rfl rfl g5 (by decide) fun a6 _ k7 m8 i9 => ?_
 have b2 := k7
 obtain ⟨d8, rfl, b3⟩ := b2
 obtain ⟨d9, f0, rfl, -⟩ := b3.form
 refine zg hO 2 [] [(13, .pointer (some (a6.add 1)))] [0, 2] zn6 fun j => ?_
 refine zbh rfl (m8.one 1 rfl) ?_
 refine zg hO 2 [] [(16, .bool ((y4.Type_.Kind.toNat : Int) == U))] [0] zn5 fun j => ?_
 rcases zP hF with ⟨f1, b4, hF⟩ | ⟨f2, b5, hF⟩
 ·refine zbM hO (zbg b4) zn2 rfl fun _ σ _ _ hO b6 b7 => ?_
  have hL := hL.trans b6
  obtain ⟨rfl, rfl⟩ := b7
  have hO := zop5 hO
  cases hF
  exact hP _ _ _ _ hO hL ⟨rfl, rfl⟩
 refine zbO hO (zbg b5) zn2 rfl fun _ σ _ _ hO b8 b9 => ?_
 have hL := hL.trans b8
 obtain ⟨rfl, rfl⟩ := b9
 have hO := zop5 hO
 refine ze (zh ?_)
 cases hF
 refine (hQ _ _ _ _ _ rfl hO hL ?_).2
 exact ⟨rfl, rfl⟩
theorem zgx {τ : Hp} {q0 : zb} {I : Nat} {g h k : Value} {o : Ob} {q : Value} {z : Ob} {B : Value} {D : Ob} {E : Value} {G : Ob} {p1 : Int} {W : ByteArray} (X : RdT zw τ g q0.prog.Structs) (Y : RdT zt τ h q0.prog.Funcs) (Z : za zq 59 τ k q0.tree.Bodies o) (b0 : za zr 87 τ q q0.tree.Points z) (S : za zo 82 τ B q0.vars D) (b1 : za (Ty.int .i64) 3 τ E q0.scope G) {rr : Except (Value) (Int)} (hF : zd3 q0 p1 W = some rr) :
  zbu Try.prog 97 #[.pointer (some ⟨I, 0, none⟩), .int .i64 p1, .string W] τ [zm I g h k q0.tree.Main q q0.fn B E, o, z, D, G] (fun v τ' vs' => match (generalizing := false) rr with | .ok rr => v = .int .i64 rr ∧ vs' = [zm I g h k q0.tree.Main q q0.fn B E, o, z, D, G] | .error _ => False) (fun ch τ' vs' => match (generalizing := false) rr with | .ok _ => False | .error ee => ch = [{ v := ee, recovered := false }] ∧ vs' = [zm I g h k q0.tree.Main q q0.fn B E, o, z, D, G]) := by
 obtain ⟨c4, c5, rfl, -⟩ := X.form
 obtain ⟨c6, c7, rfl, -⟩ := Y.form
 obtain ⟨c8, c9, rfl, -⟩ := Z.form
 obtain ⟨d0, d5, rfl, -⟩ := b0.form
 obtain ⟨b2, b3, rfl, -⟩ := S.form
 obtain ⟨d6, d7, rfl, -⟩ := b1.form
 refine zcz (args := [.pointer (some ⟨I, 0, none⟩), .int .i64 p1, .string W]) hm Try.func97 s97 rfl fun w0 σ hP hO Q hQ => ?_
 unfold zd3 at hF
 have hL := Hp.le.refl τ
 show wpn _ _ a97.body _ _ _
 unfold a97
 dsimp only
 refine zd hO [] [] [0, 1, 2] zn6 fun j => ?_
 refine zg hO 5 [0] [(11, zor b2 q0.vars b3), (12, zok p1)] [0, 2] (And.intro (And.intro rfl rfl) zn7) fun j => ?_
 obtain ⟨y4, g5, hF⟩ := zoq hF
 refine zdg (T := zo) hO (S.le hL) (i := 3) rfl rfl rfl g5 (by decide) fun a6 _ k7 m8 i9 => ?_
 have b5 := k7
 obtain ⟨f1, rfl, U⟩ := b5
 obtain ⟨f2, f3, rfl, -⟩ := U.form
 refine zg hO 1 [] [(14, .pointer (some (a6.add 5)))] [0, 2] zn6 fun j => ?_
 refine zbh rfl (m8.one 5 rfl) ?_
 refine zg hO 1 [] [(16, .string W)] [0, 15] zn6 fun j => ?_
 obtain ⟨V, b6, hF⟩ := zoq hF
 refine z3 hO (zjh U b6) rfl fun _ σ _ _ hO b4 b7 => ?_
 have hL := hL.trans b4
 have U := U.le b4
 obtain ⟨rfl, rfl⟩ := b7
 have hO := zop5 hO
 refine zd hO [] [(7, zok V)] [0] zn5 fun j => ?_
 refine zg hO 2 [] [(19, .bool (decide (V ≥ 0)))] [0, 7] zn6 fun j => ?_
 rcases zP hF with ⟨f4, b8, hF⟩ | ⟨f5, b9, hF⟩
 ·refine zbM hO (zbg b8) zn2 rfl fun _ σ _ _ hO c0 c1 => ?_
  have hL := hL.trans c0
  obtain ⟨rfl, rfl⟩ := c1
  have hO := zop5 hO
  cases hF
  exact hP _ _ _ _ hO hL ⟨rfl, rfl⟩
 refine zbO hO (zbg b9) zn2 rfl fun _ σ _ _ hO c2 c3 => ?_
 have hL := hL.trans c2
 obtain ⟨rfl, rfl⟩ := c3
 have hO := zop5 hO
 refine ze (zd hO [] [(6, zok V)] [0] zn5 fun j => ?_)
 refine zbb ?_
 cases hF
 refine (hQ _ _ _ _ _ rfl hO hL ?_).1
 exact ⟨rfl, rfl⟩
theorem ziY {τ : Hp} {E : Value} {p0 : (List UInt8)} {G : Value} {p1 : (List UInt8)} (I : RdT Ty.u8 τ E p0) (S : RdT Ty.u8 τ G p1) {rr : Bool} (hF : zeP p0 p1 = some rr) :
  Ctr Try.prog 99 #[E, G] τ [] (fun v τ' vs' => v = .bool rr ∧ vs' = []) := by
 obtain ⟨q, z, rfl, -⟩ := I.form
 obtain ⟨B, D, rfl, -⟩ := S.form
 refine zbp (args := [.slice q p0.length z, .slice B p1.length D]) hm Try.func99 s99 rfl fun w0 σ hO Q hQ => ?_
 unfold zeP at hF
 have hL := Hp.le.refl τ
 show wpn _ _ a99.body _ _ _
 unfold a99
 dsimp only
 refine zd hO [] [] [0, 1] zn5 fun j => ?_
 refine zn (zd hO [] [(10, .bool ((p0.length : Int) != (p1.length : Int)))] [0, 1] zn6 fun j => ?_)
 refine zz hF rfl (fun hF => ?_) fun hF => ?_
 ·refine zn (zD hO [] [(4, .bool false)] zn4 fun j => ?_)
  refine zbH ?_
  cases hF
  exact hQ _ _ _ _ _ rfl hO hL ⟨rfl, rfl⟩
 refine zN (zn (zd hO [] [(12, zok (p0.length : Int)), (13, zok 0)] [0, 1] zn7 fun j => ?_))
 refine zbr (zcg (fun (n : Nat) e' σ' => ∃ (g : Int) (τ' : Hp), agr [(0, zor q p0 z), (1, zor B p1 D), (12, zok (p0.length : Int)), (13, zok g)] e' ∧ Obs τ' σ' [] ∧ Hp.le τ τ' ∧ zeo p0 p1 n g = some rr) big ⟨0, _, zoj zn6, hO, hL, hF⟩ ?_)
 clear hF hO hL
 rintro h e σ ⟨g, _, hA, hO, hL, hF⟩
 rw [← zW _ _ hA]
 cases h with
 | zero => exact nomatch (show none = some rr from hF)
 | succ h =>
 replace hF : zfo (zeo p0 p1 h) p0 p1 g = some rr := hF
 unfold zfo at hF
 refine zd hO [] [(14, .bool (decide (g < (p0.length : Int))))] [0, 1, 12, 13] zn8 fun j => ?_
 refine zz hF rfl (fun hF => ?_) fun hF => ?_
 ·refine zN (zbr (zd hO [] [(5, zok g)] [0, 1, 12, 13] zn8 fun j => ?_))
  refine zcQ (zg hO 2 [] [(16, zor q p0 z), (17, zok g)] [0, 1, 5, 12, 13] zoa fun j => ?_)
  obtain ⟨k, U, hF⟩ := zoq hF
  refine zbG (T := Ty.u8) (I.le hL) hO.base rfl rfl U (by decide) fun a33 _ V W => ?_
  obtain rfl : _ = ([.int .u8 k.toNat] : List Value) := V
  refine zbh rfl (W.le hO.base).fst ?_
  refine zg hO 2 [] [(20, zor B p1 D), (21, zok g)] [0, 1, 12, 13, 19] zoa fun j => ?_
  obtain ⟨o, X, hF⟩ := zoq hF
  refine zbG (T := Ty.u8) (S.le hL) hO.base rfl rfl X (by decide) fun a38 _ Y Z => ?_
  obtain rfl : _ = ([.int .u8 o.toNat] : List Value) := Y
  refine zbh rfl (Z.le hO.base).fst ?_
  refine zd hO [] [(24, .bool ((k.toNat : Int) != (o.toNat : Int)))] [0, 1, 12, 13] zn8 fun j => ?_
  refine zbz (zz hF rfl (fun hF => ?_) fun hF => ?_)
  ·refine zn (zD hO [] [(4, .bool false)] zn4 fun j => ?_)
   refine zbH (zbE (zbw (zbw (zbE (zbw ?_)))))
   cases hF
   exact hQ _ _ _ _ _ rfl hO hL ⟨rfl, rfl⟩
  refine zN (zh (zX (zi (zbi (zd hO [] [(13, zok (IntKind.i64.wrap (g + 1)))] [0, 1, 12] zn7 fun j => ?_)))))
  refine zh (zi ?_)
  exact ⟨h, Nat.lt_succ_self _, (IntKind.i64.wrap (g + 1)), _, zoj zn6, hO, hL, hF⟩
 refine zb9 (zbR (zbX (zi (zD hO [] [(4, .bool true)] zn4 fun j => ?_))))
 refine zbb ?_
 cases hF
 exact hQ _ _ _ _ _ rfl hO hL ⟨rfl, rfl⟩
theorem znu {τ : Hp} {p0 p1 : ByteArray}  {rr : Bool} (hF : zhs p0 p1 = some rr) :
  Ctr Try.prog 110 #[.string p0, .string p1] τ [] (fun v τ' vs' => v = .bool rr ∧ vs' = []) := by
 refine zbp (args := [.string p0, .string p1]) hm Try.func110 zlH rfl fun w0 σ hO Q hQ => ?_
 unfold zhs at hF
 have hL := Hp.le.refl τ
 show wpn _ _ zhN.body _ _ _
 unfold zhN
 dsimp only
 refine zd hO [] [] [0, 1] zn5 fun j => ?_
 refine zg hO 6 [] [(10, .bool (decide ((p0.size : Int) ≥ (p1.size : Int))))] [0, 1] zn6 fun j => ?_
 obtain ⟨h, k, hF⟩ := zoq hF
 refine zgy 2 [(20, .bool h)] (fun Q hQ => ?_) fun j => ?_
 ·have hF := k
  rcases zb8 hF with ⟨g, hF⟩ | ⟨g, hF⟩
  ·refine zbA (zoo g) ?_
   refine zg hO 6 [] [(11, .string p0), (16, zok (IntKind.i64.wrap ((p0.size : Int) - (p1.size : Int))))] [1, 10] zn7 fun j => ?_
   obtain ⟨o, q, hF⟩ := zoq hF
   refine zgX rfl rfl rfl q ?_
   refine zg hO 2 [] [(19, .bool (z9 o p1))] [10] zn5 fun j => ?_
   refine zbf (zom g) ?_
   refine ze ?_
   cases hF
   refine zh ?_
   exact hQ _ (zoj (trivial))
  refine zbI (zoo g) ?_
  refine zbf (zom g) ?_
  refine ze ?_
  cases hF
  refine zh ?_
  exact hQ _ (zoj (trivial))
 refine zD hO [] [(4, .bool h)] zn4 fun j => ?_
 refine zbb ?_
 cases hF
 exact hQ _ _ _ _ _ rfl hO hL ⟨rfl, rfl⟩
theorem zkP {τ : Hp} {p0 p1 : ByteArray}  {rr : ByteArray} (hF : zhw p0 p1 = some rr) :
  Ctr Try.prog 109 #[.string p0, .string p1] τ [] (fun v τ' vs' => v = .string rr ∧ vs' = []) := by
 refine zbp (args := [.string p0, .string p1]) hm Try.func109 zm6 rfl fun w0 σ hO Q hQ => ?_
 unfold zhw at hF
 have hL := Hp.le.refl τ
 show wpn _ _ zh4.body _ _ _
 unfold zh4
 dsimp only
 refine zd hO [] [] [0, 1] zn5 fun j => ?_
 refine zn (zg hO 2 [] [(5, .string p0), (6, .string p1)] [0, 1] zn7 fun j => ?_)
 obtain ⟨z, g, hF⟩ := zoq hF
 refine z3 hO (znu g) rfl fun _ σ _ _ hO h k => ?_
 have hL := hL.trans h
 obtain ⟨rfl, rfl⟩ := k
 have hO : Obs _ _ [] := hO
 refine ze (zz hF rfl (fun hF => ?_) fun hF => ?_)
 ·refine zn (zM hO 6 [] [(8, .string p0), (13, zok (IntKind.i64.wrap ((p0.size : Int) - (p1.size : Int))))] zn5 fun j => ?_)
  obtain ⟨o, q, hF⟩ := zoq hF
  refine zgX rfl rfl rfl q ?_
  refine zD hO [] [(4, .string o)] zn4 fun j => ?_
  refine zbH ?_
  cases hF
  exact hQ _ _ _ _ _ rfl hO hL ⟨rfl, rfl⟩
 refine zN (zD hO [] [(4, .string p0)] zn4 fun j => ?_)
 refine zbb ?_
 cases hF
 exact hQ _ _ _ _ _ rfl hO hL ⟨rfl, rfl⟩
theorem zkW {τ : Hp} {p0 p1 : ByteArray}  {rr : ByteArray} (hF : zgO p0 p1 = some rr) :
  Ctr Try.prog 108 #[.string p0, .string p1] τ [] (fun v τ' vs' => v = .string rr ∧ vs' = []) := by
 refine zbp (args := [.string p0, .string p1]) hm Try.func108 zlu rfl fun w0 σ hO Q hQ => ?_
 unfold zgO at hF
 have hL := Hp.le.refl τ
 show wpn _ _ zip.body _ _ _
 unfold zip
 dsimp only
 refine zd hO [] [] [0, 1] zn5 fun j => ?_
 refine zM hO 2 [] [(5, .string p0), (6, .string p1)] zn5 fun j => ?_
 obtain ⟨g, h, hF⟩ := zoq hF
 refine z3 hO (zkP h) rfl fun _ σ _ _ hO k o => ?_
 have hL := hL.trans k
 obtain ⟨rfl, rfl⟩ := o
 have hO : Obs _ _ [] := hO
 refine zD hO [] [(4, .string g)] zn4 fun j => ?_
 refine zbb ?_
 cases hF
 exact hQ _ _ _ _ _ rfl hO hL ⟨rfl, rfl⟩
theorem zmf {τ : Hp} {p0 : ByteArray}  {rr : Int} (hF : zev p0 = some rr) :
  Ctr Try.prog 107 #[.string p0] τ [] (fun v τ' vs' => v = .int .u8 rr ∧ vs' = []) := by
 refine zbp (args := [.string p0]) hm Try.func107 znH rfl fun w0 σ hO Q hQ => ?_
 unfold zev at hF
 have hL := Hp.le.refl τ
 show wpn _ _ zhB.body _ _ _
 unfold zhB
 dsimp only
 refine zd hO [] [] [0] zn4 fun j => ?_
 refine zn (zd hO [] [(3, zok 0)] [0] zn5 fun j => ?_)
 refine zbr (zcg (fun (n : Nat) e' σ' => ∃ (b5 : Int) (τ' : Hp), agr [(0, .string p0), (3, zok b5)] e' ∧ Obs τ' σ' [] ∧ Hp.le τ τ' ∧ zdT p0 n b5 = some rr) big ⟨0, _, zoj zn4, hO, hL, hF⟩ ?_)
 clear hF hO hL
 rintro c3 e σ ⟨b5, _, hA, hO, hL, hF⟩
 rw [← zW _ _ hA]
 cases c3 with
 | zero => exact nomatch (show none = some rr from hF)
 | succ c3 =>
 replace hF : zfj (zdT p0 c3) p0 b5 = some rr := hF
 unfold zfj at hF
 refine zn (zd hO [] [(5, .bool (decide (b5 < 26)))] [0, 3] zn6 fun j => ?_)
 refine zz hF rfl (fun hF => ?_) fun hF => ?_
 ·refine zN (zbr (zg hO 4 [] [(8, .string p0), (9, zok b5), (11, zok (IntKind.i64.wrap (b5 + 2)))] [0, 3] zn8 fun j => ?_))
  obtain ⟨d8, c4, hF⟩ := zoq hF
  refine zgX rfl rfl rfl c4 ?_
  obtain ⟨c5, c6, hF⟩ := zoq hF
  refine z3 hO (zkW (p1 := zn1) c6) rfl fun _ σ _ _ hO c7 c8 => ?_
  have hL := hL.trans c7
  obtain ⟨rfl, rfl⟩ := c8
  have hO : Obs _ _ [] := hO
  refine zd hO [] [(14, .bool (z9 p0 c5))] [0, 3] zn6 fun j => ?_
  refine zbz (zz hF rfl (fun hF => ?_) fun hF => ?_)
  ·refine zn (zD hO [] [(2, .int .u8 (IntKind.u8.wrap (1 + (IntKind.u8.wrap (IntKind.i64.wrap (Int.tdiv b5 2))))))] zn4 fun j => ?_)
   refine zbH (zbE (zbw (zbw (zbE (zbw ?_)))))
   cases hF
   exact hQ _ _ _ _ _ rfl hO hL ⟨rfl, rfl⟩
  refine zN (zh (zX (zi (zbi (zd hO [] [(3, zok (IntKind.i64.wrap (b5 + 2)))] [0] zn5 fun j => ?_)))))
  refine zh (zi ?_)
  exact ⟨c3, Nat.lt_succ_self _, (IntKind.i64.wrap (b5 + 2)), _, zoj zn4, hO, hL, hF⟩
 refine zb9 (zbR (zbX (zi (zD hO [] [(2, .int .u8 0)] zn4 fun j => ?_))))
 refine zbb ?_
 cases hF
 exact hQ _ _ _ _ _ rfl hO hL ⟨rfl, rfl⟩
def zeZ (gn : Nat) : Prop := ∀ {τ : Hp} {q0 : zb} {I : Nat} {S U V : Value} {W : Ob} {X : Value} {Y : Ob} {Z : Value} {b0 : Ob} {b1 : Value} {b2 : Ob} {v1 : Value} {p1 : (List zc)} {v2 : Value} {p2 : (List UInt8)} (b6 : RdT zw τ S q0.prog.Structs) (b7 : RdT zt τ U q0.prog.Funcs) (b8 : za zq 59 τ V q0.tree.Bodies W) (b9 : za zr 87 τ X q0.tree.Points Y) (c0 : za zo 82 τ Z q0.vars b0) (c1 : za (Ty.int .i64) 3 τ b1 q0.scope b2) (r1 : RdT zZ τ v1 p1) (r2 : RdT Ty.u8 τ v2 p2) {rr : Except (Value × zb) ((List zl) × zb)} (hF : ((zy gn).1) q0 p1 p2 = some rr), zbu Try.prog 90 #[.pointer (some ⟨I, 0, none⟩), v1, v2] τ [zm I S U V q0.tree.Main X q0.fn Z b1, W, Y, b0, b2] (fun v τ' vs' => match (generalizing := false) rr with | .ok rr => ∃ (v0 : Value) (o0 : Ob) (g h k : Value) (o : Ob) (q : Value) (z : Ob) (B : Value) (D : Ob) (E : Value) (G : Ob), v = v0 ∧ vs' = [o0, zm I g h k rr.2.tree.Main q rr.2.fn B E, o, z, D, G] ∧ za zbk 140 τ' v0 rr.1 o0 ∧ RdT zw τ' g rr.2.prog.Structs ∧ RdT zt τ' h rr.2.prog.Funcs ∧ za zq 59 τ' k rr.2.tree.Bodies o ∧ za zr 87 τ' q rr.2.tree.Points z ∧ za zo 82 τ' B rr.2.vars D ∧ za (Ty.int .i64) 3 τ' E rr.2.scope G | .error _ => False) (fun ch τ' vs' => match (generalizing := false) rr with | .ok _ => False | .error ee => ∃ (g h k : Value) (o : Ob) (q : Value) (z : Ob) (B : Value) (D : Ob) (E : Value) (G : Ob), ch = [{ v := ee.1, recovered := false }] ∧ vs' = [zm I g h k ee.2.tree.Main q ee.2.fn B E, o, z, D, G] ∧ RdT zw τ' g ee.2.prog.Structs ∧ RdT zt τ' h ee.2.prog.Funcs ∧ za zq 59 τ' k ee.2.tree.Bodies o ∧ za zr 87 τ' q ee.2.tree.Points z ∧ za zo 82 τ' B ee.2.vars D ∧ za (Ty.int .i64) 3 τ' E ee.2.scope G)
def zew (gn : Nat) : Prop := ∀ {τ : Hp} {q0 : zb} {I : Nat} {S U V : Value} {W : Ob} {X : Value} {Y : Ob} {Z : Value} {b0 : Ob} {b1 : Value} {b2 : Ob} {p1 : zc} {b3 : Value} (b6 : RdT zw τ S q0.prog.Structs) (b7 : RdT zt τ U q0.prog.Funcs) (b8 : za zq 59 τ V q0.tree.Bodies W) (b9 : za zr 87 τ X q0.tree.Points Y) (c0 : za zo 82 τ Z q0.vars b0) (c1 : za (Ty.int .i64) 3 τ b1 q0.scope b2) (c2 : RdT zZ τ b3 p1.Kids) {rr : Except (Value × zb) (zl × Int × zb)} (hF : ((zy gn).2.1) q0 p1 = some rr), zbu Try.prog 98 #[.pointer (some ⟨I, 0, none⟩), .agg #[.int .u8 p1.Kind.toNat, .int .i64 p1.Num, .string p1.Name, .string p1.Field, .string p1.Op, b3]] τ [zm I S U V q0.tree.Main X q0.fn Z b1, W, Y, b0, b2] (fun v τ' vs' => match (generalizing := false) rr with | .ok rr => ∃ (b4 g h k : Value) (o : Ob) (q : Value) (z : Ob) (B : Value) (D : Ob) (E : Value) (G : Ob), v = .tuple #[.agg #[.int .u8 rr.1.Kind.toNat, .int .u8 rr.1.Op.toNat, .int .i64 rr.1.Var, .int .i64 rr.1.Num, b4], .int .u8 rr.2.1] ∧ vs' = [zm I g h k rr.2.2.tree.Main q rr.2.2.fn B E, o, z, D, G] ∧ RdT zbk τ' b4 rr.1.Kids ∧ RdT zw τ' g rr.2.2.prog.Structs ∧ RdT zt τ' h rr.2.2.prog.Funcs ∧ za zq 59 τ' k rr.2.2.tree.Bodies o ∧ za zr 87 τ' q rr.2.2.tree.Points z ∧ za zo 82 τ' B rr.2.2.vars D ∧ za (Ty.int .i64) 3 τ' E rr.2.2.scope G | .error _ => False) (fun ch τ' vs' => match (generalizing := false) rr with | .ok _ => False | .error ee => ∃ (g h k : Value) (o : Ob) (q : Value) (z : Ob) (B : Value) (D : Ob) (E : Value) (G : Ob), ch = [{ v := ee.1, recovered := false }] ∧ vs' = [zm I g h k ee.2.tree.Main q ee.2.fn B E, o, z, D, G] ∧ RdT zw τ' g ee.2.prog.Structs ∧ RdT zt τ' h ee.2.prog.Funcs ∧ za zq 59 τ' k ee.2.tree.Bodies o ∧ za zr 87 τ' q ee.2.tree.Points z ∧ za zo 82 τ' B ee.2.vars D ∧ za (Ty.int .i64) 3 τ' E ee.2.scope G)
def zeQ (gn : Nat) : Prop := ∀ {τ : Hp} {q0 : zb} {I : Nat} {S U V : Value} {W : Ob} {X : Value} {Y : Ob} {Z : Value} {b0 : Ob} {b1 : Value} {b2 : Ob} {p1 : zc} {b3 : Value} (b6 : RdT zw τ S q0.prog.Structs) (b7 : RdT zt τ U q0.prog.Funcs) (b8 : za zq 59 τ V q0.tree.Bodies W) (b9 : za zr 87 τ X q0.tree.Points Y) (c0 : za zo 82 τ Z q0.vars b0) (c1 : za (Ty.int .i64) 3 τ b1 q0.scope b2) (c2 : RdT zZ τ b3 p1.Kids) {rr : Except (Value × zb) (zl × Int × zb)} (hF : ((zy gn).2.2.1) q0 p1 = some rr), zbu Try.prog 103 #[.pointer (some ⟨I, 0, none⟩), .agg #[.int .u8 p1.Kind.toNat, .int .i64 p1.Num, .string p1.Name, .string p1.Field, .string p1.Op, b3]] τ [zm I S U V q0.tree.Main X q0.fn Z b1, W, Y, b0, b2] (fun v τ' vs' => match (generalizing := false) rr with | .ok rr => ∃ (b4 g h k : Value) (o : Ob) (q : Value) (z : Ob) (B : Value) (D : Ob) (E : Value) (G : Ob), v = .tuple #[.agg #[.int .u8 rr.1.Kind.toNat, .int .u8 rr.1.Op.toNat, .int .i64 rr.1.Var, .int .i64 rr.1.Num, b4], .int .u8 rr.2.1] ∧ vs' = [zm I g h k rr.2.2.tree.Main q rr.2.2.fn B E, o, z, D, G] ∧ RdT zbk τ' b4 rr.1.Kids ∧ RdT zw τ' g rr.2.2.prog.Structs ∧ RdT zt τ' h rr.2.2.prog.Funcs ∧ za zq 59 τ' k rr.2.2.tree.Bodies o ∧ za zr 87 τ' q rr.2.2.tree.Points z ∧ za zo 82 τ' B rr.2.2.vars D ∧ za (Ty.int .i64) 3 τ' E rr.2.2.scope G | .error _ => False) (fun ch τ' vs' => match (generalizing := false) rr with | .ok _ => False | .error ee => ∃ (g h k : Value) (o : Ob) (q : Value) (z : Ob) (B : Value) (D : Ob) (E : Value) (G : Ob), ch = [{ v := ee.1, recovered := false }] ∧ vs' = [zm I g h k ee.2.tree.Main q ee.2.fn B E, o, z, D, G] ∧ RdT zw τ' g ee.2.prog.Structs ∧ RdT zt τ' h ee.2.prog.Funcs ∧ za zq 59 τ' k ee.2.tree.Bodies o ∧ za zr 87 τ' q ee.2.tree.Points z ∧ za zo 82 τ' B ee.2.vars D ∧ za (Ty.int .i64) 3 τ' E ee.2.scope G)
def zeN (gn : Nat) : Prop := ∀ {τ : Hp} {q0 : zb} {I : Nat} {S U V : Value} {W : Ob} {X : Value} {Y : Ob} {Z : Value} {b0 : Ob} {b1 : Value} {b2 : Ob} {p1 : zc} {b3 : Value} (b6 : RdT zw τ S q0.prog.Structs) (b7 : RdT zt τ U q0.prog.Funcs) (b8 : za zq 59 τ V q0.tree.Bodies W) (b9 : za zr 87 τ X q0.tree.Points Y) (c0 : za zo 82 τ Z q0.vars b0) (c1 : za (Ty.int .i64) 3 τ b1 q0.scope b2) (c2 : RdT zZ τ b3 p1.Kids) {rr : Except (Value × zb) (zl × Int × zb)} (hF : ((zy gn).2.2.2.1) q0 p1 = some rr), zbu Try.prog 104 #[.pointer (some ⟨I, 0, none⟩), .agg #[.int .u8 p1.Kind.toNat, .int .i64 p1.Num, .string p1.Name, .string p1.Field, .string p1.Op, b3]] τ [zm I S U V q0.tree.Main X q0.fn Z b1, W, Y, b0, b2] (fun v τ' vs' => match (generalizing := false) rr with | .ok rr => ∃ (b4 g h k : Value) (o : Ob) (q : Value) (z : Ob) (B : Value) (D : Ob) (E : Value) (G : Ob), v = .tuple #[.agg #[.int .u8 rr.1.Kind.toNat, .int .u8 rr.1.Op.toNat, .int .i64 rr.1.Var, .int .i64 rr.1.Num, b4], .int .u8 rr.2.1] ∧ vs' = [zm I g h k rr.2.2.tree.Main q rr.2.2.fn B E, o, z, D, G] ∧ RdT zbk τ' b4 rr.1.Kids ∧ RdT zw τ' g rr.2.2.prog.Structs ∧ RdT zt τ' h rr.2.2.prog.Funcs ∧ za zq 59 τ' k rr.2.2.tree.Bodies o ∧ za zr 87 τ' q rr.2.2.tree.Points z ∧ za zo 82 τ' B rr.2.2.vars D ∧ za (Ty.int .i64) 3 τ' E rr.2.2.scope G | .error _ => False) (fun ch τ' vs' => match (generalizing := false) rr with | .ok _ => False | .error ee => ∃ (g h k : Value) (o : Ob) (q : Value) (z : Ob) (B : Value) (D : Ob) (E : Value) (G : Ob), ch = [{ v := ee.1, recovered := false }] ∧ vs' = [zm I g h k ee.2.tree.Main q ee.2.fn B E, o, z, D, G] ∧ RdT zw τ' g ee.2.prog.Structs ∧ RdT zt τ' h ee.2.prog.Funcs ∧ za zq 59 τ' k ee.2.tree.Bodies o ∧ za zr 87 τ' q ee.2.tree.Points z ∧ za zo 82 τ' B ee.2.vars D ∧ za (Ty.int .i64) 3 τ' E ee.2.scope G)
def zeJ (gn : Nat) : Prop := ∀ {τ : Hp} {q0 : zb} {I : Nat} {S U V : Value} {W : Ob} {X : Value} {Y : Ob} {Z : Value} {b0 : Ob} {b1 : Value} {b2 : Ob} {p1 : zc} {b3 : Value} (b6 : RdT zw τ S q0.prog.Structs) (b7 : RdT zt τ U q0.prog.Funcs) (b8 : za zq 59 τ V q0.tree.Bodies W) (b9 : za zr 87 τ X q0.tree.Points Y) (c0 : za zo 82 τ Z q0.vars b0) (c1 : za (Ty.int .i64) 3 τ b1 q0.scope b2) (c2 : RdT zZ τ b3 p1.Kids) {rr : Except (Value × zb) (zl × Int × zb)} (hF : ((zy gn).2.2.2.2) q0 p1 = some rr), zbu Try.prog 105 #[.pointer (some ⟨I, 0, none⟩), .agg #[.int .u8 p1.Kind.toNat, .int .i64 p1.Num, .string p1.Name, .string p1.Field, .string p1.Op, b3]] τ [zm I S U V q0.tree.Main X q0.fn Z b1, W, Y, b0, b2] (fun v τ' vs' => match (generalizing := false) rr with | .ok rr => ∃ (b4 g h k : Value) (o : Ob) (q : Value) (z : Ob) (B : Value) (D : Ob) (E : Value) (G : Ob), v = .tuple #[.agg #[.int .u8 rr.1.Kind.toNat, .int .u8 rr.1.Op.toNat, .int .i64 rr.1.Var, .int .i64 rr.1.Num, b4], .int .u8 rr.2.1] ∧ vs' = [zm I g h k rr.2.2.tree.Main q rr.2.2.fn B E, o, z, D, G] ∧ RdT zbk τ' b4 rr.1.Kids ∧ RdT zw τ' g rr.2.2.prog.Structs ∧ RdT zt τ' h rr.2.2.prog.Funcs ∧ za zq 59 τ' k rr.2.2.tree.Bodies o ∧ za zr 87 τ' q rr.2.2.tree.Points z ∧ za zo 82 τ' B rr.2.2.vars D ∧ za (Ty.int .i64) 3 τ' E rr.2.2.scope G | .error _ => False) (fun ch τ' vs' => match (generalizing := false) rr with | .ok _ => False | .error ee => ∃ (g h k : Value) (o : Ob) (q : Value) (z : Ob) (B : Value) (D : Ob) (E : Value) (G : Ob), ch = [{ v := ee.1, recovered := false }] ∧ vs' = [zm I g h k ee.2.tree.Main q ee.2.fn B E, o, z, D, G] ∧ RdT zw τ' g ee.2.prog.Structs ∧ RdT zt τ' h ee.2.prog.Funcs ∧ za zq 59 τ' k ee.2.tree.Bodies o ∧ za zr 87 τ' q ee.2.tree.Points z ∧ za zo 82 τ' B ee.2.vars D ∧ za (Ty.int .i64) 3 τ' E ee.2.scope G)
theorem zl7 {gn : Nat} (ih_check_checker_vals : zeZ gn) (ih_check_checker_exp : zew gn) (ih_check_checker_place : zeQ gn) (ih_check_checker_unary : zeN gn) (ih_check_checker_binary : zeJ gn) {τ : Hp} {q0 : zb} {b8 : Nat} {h5 h6 h7 : Value} {d9 : Ob} {h8 : Value} {f0 : Ob} {h9 : Value} {f1 : Ob} {i0 : Value} {f2 : Ob} {v1 : Value} {p1 : (List zc)} {v2 : Value} {p2 : (List UInt8)} (i1 : RdT zw τ h5 q0.prog.Structs) (i2 : RdT zt τ h6 q0.prog.Funcs) (i3 : za zq 59 τ h7 q0.tree.Bodies d9) (i4 : za zr 87 τ h8 q0.tree.Points f0) (i5 : za zo 82 τ h9 q0.vars f1) (i6 : za (Ty.int .i64) 3 τ i0 q0.scope f2) (r1 : RdT zZ τ v1 p1) (r2 : RdT Ty.u8 τ v2 p2) {rr : Except (Value × zb) ((List zl) × zb)} (hF : zhD ((zy gn).1) ((zy gn).2.1) ((zy gn).2.2.1) ((zy gn).2.2.2.1) ((zy gn).2.2.2.2) q0 p1 p2 = some rr) :
  zbu Try.prog 90 #[.pointer (some ⟨b8, 0, none⟩), v1, v2] τ [zm b8 h5 h6 h7 q0.tree.Main h8 q0.fn h9 i0, d9, f0, f1, f2] (fun v τ' vs' => match (generalizing := false) rr with | .ok rr => ∃ (v0 : Value) (o0 : Ob) (b9 c0 c3 : Value) (c4 : Ob) (c5 : Value) (c6 : Ob) (c7 : Value) (c8 : Ob) (c9 : Value) (d0 : Ob), v = v0 ∧ vs' = [o0, zm b8 b9 c0 c3 rr.2.tree.Main c5 rr.2.fn c7 c9, c4, c6, c8, d0] ∧ za zbk 140 τ' v0 rr.1 o0 ∧ RdT zw τ' b9 rr.2.prog.Structs ∧ RdT zt τ' c0 rr.2.prog.Funcs ∧ za zq 59 τ' c3 rr.2.tree.Bodies c4 ∧ za zr 87 τ' c5 rr.2.tree.Points c6 ∧ za zo 82 τ' c7 rr.2.vars c8 ∧ za (Ty.int .i64) 3 τ' c9 rr.2.scope d0 | .error _ => False) (fun ch τ' vs' => match (generalizing := false) rr with | .ok _ => False | .error ee => ∃ (b9 c0 c3 : Value) (c4 : Ob) (c5 : Value) (c6 : Ob) (c7 : Value) (c8 : Ob) (c9 : Value) (d0 : Ob), ch = [{ v := ee.1, recovered := false }] ∧ vs' = [zm b8 b9 c0 c3 ee.2.tree.Main c5 ee.2.fn c7 c9, c4, c6, c8, d0] ∧ RdT zw τ' b9 ee.2.prog.Structs ∧ RdT zt τ' c0 ee.2.prog.Funcs ∧ za zq 59 τ' c3 ee.2.tree.Bodies c4 ∧ za zr 87 τ' c5 ee.2.tree.Points c6 ∧ za zo 82 τ' c7 ee.2.vars c8 ∧ za (Ty.int .i64) 3 τ' c9 ee.2.scope d0) := by
 obtain ⟨k8, k9, rfl, -⟩ := i1.form
 obtain ⟨l0, l1, rfl, -⟩ := i2.form
 obtain ⟨l2, l3, rfl, -⟩ := i3.form
 obtain ⟨l4, l5, rfl, -⟩ := i4.form
 obtain ⟨l6, l7, rfl, -⟩ := i5.form
 obtain ⟨l8, l9, rfl, -⟩ := i6.form
 obtain ⟨A1, c1, rfl, -⟩ := r1.form
 obtain ⟨A2, c2, rfl, -⟩ := r2.form
 refine zcz (args := [.pointer (some ⟨b8, 0, none⟩), .slice A1 p1.length c1, .slice A2 p2.length c2]) hm Try.func90 s90 rfl fun w0 σ hP hO Q hQ => ?_
 unfold zhD at hF
 have hL := Hp.le.refl τ
 show wpn _ _ a90.body _ _ _
 unfold a90
 dsimp only
 refine zd hO [] [] [0, 1, 2] zn6 fun j => ?_
 refine zd hO [] [(7, .slice none 0 0)] [0, 1, 2] zn7 fun j => ?_
 refine zd hO [] [(8, .slice none 0 0)] [0, 1, 2, 7] zn8 fun j => ?_
 refine zn (zd hO [] [(13, zor A1 p1 c1), (14, zok (p1.length : Int)), (15, zok 0)] [0, 2, 7, 8] zoa fun j => ?_)
 refine zbr ?_
 have hO := hO.no
 have hO := zop6 hO
 have hO := hO.no
 have hO := zop7 hO
 refine zcg (fun (n : Nat) e' σ' => ∃ (f7 : Option Addr) (f8 : Nat) (X : List zbj) (f9 : Option Addr) (g0 : Nat) (Y : List zB) (g1 : Option Addr) (g2 : Nat) (g3 : Ob) (Z : List zI) (b5 : Int) (g4 : Option Addr) (g5 : Nat) (g6 : Ob) (b0 : List zE) (b6 : Int) (g7 : Option Addr) (g8 : Nat) (g9 : Ob) (b1 : List zG) (h0 : Option Addr) (h1 : Nat) (h2 : Ob) (b2 : List Int) (d5 : Option Addr) (d6 : Nat) (h3 : Ob) (q : List zl) (d7 : Option Addr) (d8 : Nat) (h4 : Ob) (z : List UInt8) (b3 : Int) (τ' : Hp), agr [(0, zol b8), (2, zor A2 p2 c2), (7, zor d5 q d6), (8, zor d7 z d8), (13, zor A1 p1 c1), (14, zok (p1.length : Int)), (15, zok b3)] e' ∧ Obs τ' σ' [zm b8 (zor f7 X f8) (zor f9 Y g0) (zor g1 Z g2) b5 (zor g4 b0 g5) b6 (zor g7 b1 g8) (zor h0 b2 h1), g3, g6, g9, h2, h3, h4] ∧ Hp.le τ τ' ∧ RdT zw τ' (zor f7 X f8) X ∧ RdT zt τ' (zor f9 Y g0) Y ∧ za zq 59 τ' (zor g1 Z g2) Z g3 ∧ za zr 87 τ' (zor g4 b0 g5) b0 g6 ∧ za zo 82 τ' (zor g7 b1 g8) b1 g9 ∧ za (Ty.int .i64) 3 τ' (zor h0 b2 h1) b2 h2 ∧ za zbk 140 τ' (zor d5 q d6) q h3 ∧ za Ty.u8 5 τ' (zor d7 z d8) z h4 ∧ zdZ (zy gn).2.1 p1 p2 n X Y Z b5 b0 b6 b1 b2 q z b3 = some rr) big ⟨k8, k9, q0.prog.Structs, l0, l1, q0.prog.Funcs, l2, l3, d9, q0.tree.Bodies, q0.tree.Main, l4, l5, f0, q0.tree.Points, q0.fn, l6, l7, f1, q0.vars, l8, l9, f2, q0.scope, none, 0, none, [], none, 0, none, [], 0, _, zoj zn9, hO, hL, (i1.le hL), (i2.le hL), (i3.le hL), (i4.le hL), (i5.le hL), (i6.le hL), za.nil _ _ _, za.nil _ _ _, hF⟩ ?_
 clear hF hO hL
 rintro f3 e σ ⟨f7, f8, X, f9, g0, Y, g1, g2, g3, Z, b5, g4, g5, g6, b0, b6, g7, g8, g9, b1, h0, h1, h2, b2, d5, d6, h3, q, d7, d8, h4, z, b3, _, hA, hO, hL, B, D, E, G, I, S, k, o, hF⟩
 rw [← zW _ _ hA]
 cases f3 with
 | zero => exact nomatch (show none = some rr from hF)
 | succ f3 =>
 replace hF : zfA (zdZ (zy gn).2.1 p1 p2 f3) (zy gn).2.1 p1 p2 X Y Z b5 b0 b6 b1 b2 q z b3 = some rr := hF
 unfold zfA at hF
 refine zd hO [] [(16, .bool (decide (b3 < (p1.length : Int))))] [0, 2, 7, 8, 13, 14, 15] zob fun j => ?_
 refine zz hF rfl (fun hF => ?_) fun hF => ?_
 ·refine zN (zbr ?_)
  obtain ⟨b7, m7, hF⟩ := zoq hF
  refine zbG (T := zZ) (r1.le hL) hO.base rfl rfl m7 (by decide) fun a277 _ m8 m9 => ?_
  obtain ⟨r6, rfl, b4⟩ := zjF m8
  obtain ⟨n0, n1, rfl, -⟩ := b4.form
  refine zbh rfl ((m9.le hO.base).all rfl) ?_
  refine zbm hO fun r7 σ hO => ?_
  have hO := zop8 hO
  refine zu hO (i := 7) rfl (off := 0) rfl rfl rfl rfl (Nat.le_of_ble_eq_true rfl) rfl fun σ hO => ?_
  have hO := zop8 hO
  refine ze (zg hO 2 [7] [(20, zol b8), (21, .agg #[(.int .u8 (b7.Kind.toNat : Int)), (.int .i64 b7.Num), (.string b7.Name), (.string b7.Field), (.string b7.Op), (zor n0 b7.Kids n1)])] [0, 2, 7, 8, 13, 14, 15] (And.intro (And.intro rfl rfl) zoc) fun j => ?_)
  have hO := hO.sel [5, 6, 7, 0, 1, 2, 3, 4]
  rcases zP hF with ⟨r8, n2, hF⟩ | ⟨g, n3, hF⟩
  ·refine zbo (hs := [_, _, _]) hO (ih_check_checker_exp (q0 := (⟨(⟨X, Y⟩ : zs), (⟨Z, b5, b0⟩ : zx), b6, b1, b2⟩ : zb)) B D E G I S b4 n2) zn2 rfl fun _ σ _ _ hO f4 n4 => ?_
   have hL := hL.trans f4
   have k := k.le f4
   have o := o.le f4
   have b4 := b4.le f4
   obtain ⟨r9, t0, t1, t2, t3, t4, t5, t6, t7, t8, rfl, rfl, i7, i8, i9, j0, j1, j2⟩ := n4
   obtain ⟨t9, u0, rfl, -⟩ := i7.form
   obtain ⟨u1, u2, rfl, -⟩ := i8.form
   obtain ⟨u3, u4, rfl, -⟩ := i9.form
   obtain ⟨u5, u6, rfl, -⟩ := j0.form
   obtain ⟨u7, u9, rfl, -⟩ := j1.form
   obtain ⟨v3, v4, rfl, -⟩ := j2.form
   have hO := zop8 hO
   cases hF
   have hO := hO.sel [3, 4, 5, 6, 7]
   exact hP _ _ _ _ hO hL ⟨_, _, _, _, _, _, _, _, _, _, rfl, rfl, i7, i8, i9, j0, j1, j2⟩
  refine zbn (hs := [_, _, _]) hO (ih_check_checker_exp (q0 := (⟨(⟨X, Y⟩ : zs), (⟨Z, b5, b0⟩ : zx), b6, b1, b2⟩ : zb)) B D E G I S b4 n3) zn2 rfl fun _ σ _ _ hO f5 n5 => ?_
  have hL := hL.trans f5
  have k := k.le f5
  have o := o.le f5
  have b4 := b4.le f5
  obtain ⟨v5, v6, v7, v8, n6, v9, n7, w2, n8, w3, n9, rfl, rfl, j3, j4, j5, j6, j7, j8, j9⟩ := n5
  obtain ⟨k0, k1, rfl, -⟩ := j3.form
  obtain ⟨o1, o2, rfl, -⟩ := j4.form
  obtain ⟨o3, o4, rfl, -⟩ := j5.form
  obtain ⟨o5, o6, rfl, -⟩ := j6.form
  obtain ⟨o7, o8, rfl, -⟩ := j7.form
  obtain ⟨o9, p3, rfl, -⟩ := j8.form
  obtain ⟨p4, p5, rfl, -⟩ := j9.form
  have hO := zop8 hO
  refine zg hO 3 [] [(23, .agg #[(.int .u8 (g.1.Kind.toNat : Int)), (.int .u8 (g.1.Op.toNat : Int)), (.int .i64 g.1.Var), (.int .i64 g.1.Num), (zor k0 g.1.Kids k1)]), (24, .int .u8 g.2.1)] [0, 2, 7, 8, 13, 14, 15] zoc fun j => ?_
  refine zbm hO fun w4 σ hO => ?_
  have hO := zop9 hO
  refine zu hO (i := 8) rfl (off := 0) rfl rfl rfl rfl (Nat.le_of_ble_eq_true rfl) rfl fun σ hO => ?_
  have hO := zop9 hO
  refine zd hO [] [(12, .int .u8 g.2.1)] [0, 2, 7, 8, 11, 13, 14, 15] zoc fun j => ?_
  refine zbi (zg hO 2 [8] [(25, zor d5 q d6), (26, .agg #[(.int .u8 (g.1.Kind.toNat : Int)), (.int .u8 (g.1.Op.toNat : Int)), (.int .i64 g.1.Var), (.int .i64 g.1.Num), (zor k0 g.1.Kids k1)])] [0, 2, 8, 12, 13, 14, 15] (And.intro (And.intro rfl rfl) zoc) fun j => ?_)
  obtain ⟨_, m0, hF⟩ := zoq hF
  refine zdt (T := zbk) (y := (⟨g.1.Kind, g.1.Op, g.1.Var, g.1.Num, g.1.Kids⟩ : zl)) hO k (i := 0) rfl rfl (fun _ => rfl) rfl (zj7 ⟨_, rfl, j3⟩) rfl m0 (by decide) fun u _ σ p6 k2 hO => ?_
  obtain ⟨k3, k4, rfl, -⟩ := k2.form
  have hO := zop9 hO
  refine zg hO 2 [] [(29, zor d7 z d8), (30, .int .u8 g.2.1)] [0, 2, 13, 14, 15, 28] zob fun j => ?_
  obtain ⟨z359, m1, hF⟩ := zoq hF
  obtain ⟨_, m2, hF⟩ := zoq hF
  refine zdt (T := Ty.u8) (y := z359) hO o (i := 1) rfl rfl (fun _ => rfl) rfl (u8R m1) rfl m2 (by decide) fun u _ σ p7 k5 hO => ?_
  obtain ⟨k6, k7, rfl, -⟩ := k5.form
  have hO := zop9 hO
  refine zd hO [] [(7, zor k3 (q ++ [(⟨g.1.Kind, g.1.Op, g.1.Var, g.1.Num, g.1.Kids⟩ : zl)]) k4), (8, zor k6 (z ++ [z359]) k7)] [0, 2, 13, 14, 15] zoa fun j => ?_
  refine zh (zX (zi (zbi (zd hO [] [(15, zok (IntKind.i64.wrap (b3 + 1)))] [0, 2, 7, 8, 13, 14] zoa fun j => ?_))))
  refine zh (zi ?_)
  have hO := hO.sel [3, 4, 5, 6, 7, 0, 1]
  exact ⟨f3, Nat.lt_succ_self _, o1, o2, g.2.2.prog.Structs, o3, o4, g.2.2.prog.Funcs, o5, o6, n6, g.2.2.tree.Bodies, g.2.2.tree.Main, o7, o8, n7, g.2.2.tree.Points, g.2.2.fn, o9, p3, n8, g.2.2.vars, p4, p5, n9, g.2.2.scope, k3, k4, p6, (q ++ [(⟨g.1.Kind, g.1.Op, g.1.Var, g.1.Num, g.1.Kids⟩ : zl)]), k6, k7, p7, (z ++ [z359]), (IntKind.i64.wrap (b3 + 1)), _, zoj zn9, hO, hL, j4, j5, j6, j7, j8, j9, k2, k5, hF⟩
 refine zb9 (zbR (zbX (zi (zg hO 2 [] [(34, zor d7 z d8), (35, zor A2 p2 c2)] [0, 7] zn7 fun j => ?_))))
 obtain ⟨w5, p8, hF⟩ := zoq hF
 refine zb1 (hs := [_, _, _, _, _, _]) hO (Ctr.lendG o (fun _ _ _ _ h => h) fun _ r4 r5 => ziY r5 ((r2.le hL).le r4) p8) rfl fun _ σ _ _ hO U p9 => ?_
 have hL := hL.trans U
 have k := k.le U
 have o := o.le U
 have B := B.le U
 have D := D.le U
 have E := E.le U
 have G := G.le U
 have I := I.le U
 have S := S.le U
 obtain ⟨_, rfl, rfl, rfl⟩ := p9
 have hO := zop7 hO
 rcases zP hF with ⟨w6, q2, hF⟩ | ⟨w7, q3, hF⟩
 ·refine zbM hO (zbg q2) zn2 rfl fun _ σ _ _ hO V q4 => ?_
  have hL := hL.trans V
  have k := k.le V
  have o := o.le V
  have B := B.le V
  have D := D.le V
  have E := E.le V
  have G := G.le V
  have I := I.le V
  have S := S.le V
  obtain ⟨rfl, rfl⟩ := q4
  have hO := zop7 hO
  cases hF
  have hO := hO.sel [0, 1, 2, 3, 4]
  exact hP _ _ _ _ hO hL ⟨_, _, _, _, _, _, _, _, _, _, rfl, rfl, B, D, E, G, I, S⟩
 refine zbO hO (zbg q3) zn2 rfl fun _ σ _ _ hO W q5 => ?_
 have hL := hL.trans W
 have k := k.le W
 have o := o.le W
 have B := B.le W
 have D := D.le W
 have E := E.le W
 have G := G.le W
 have I := I.le W
 have S := S.le W
 obtain ⟨rfl, rfl⟩ := q5
 have hO := zop7 hO
 refine ze (zd hO [] [(6, zor d5 q d6)] [0] zn5 fun j => ?_)
 refine zbb ?_
 cases hF
 have hO := hO.sel [5, 0, 1, 2, 3, 4]
 refine (hQ _ _ _ _ _ rfl hO hL ?_).1
 exact ⟨_, _, _, _, _, _, _, _, _, _, _, _, rfl, rfl, k, B, D, E, G, I, S⟩
theorem zkR {gn : Nat} (ih_check_checker_vals : zeZ gn) (ih_check_checker_exp : zew gn) (ih_check_checker_place : zeQ gn) (ih_check_checker_unary : zeN gn) (ih_check_checker_binary : zeJ gn) {τ : Hp} {q0 : zb} {I : Nat} {f7 f8 f9 : Value} {k : Ob} {g0 : Value} {o : Ob} {g1 : Value} {q : Ob} {g2 : Value} {z : Ob} {p1 : zc} {g8 : Value} (g : RdT zw τ f7 q0.prog.Structs) (h : RdT zt τ f8 q0.prog.Funcs) (B : za zq 59 τ f9 q0.tree.Bodies k) (D : za zr 87 τ g0 q0.tree.Points o) (E : za zo 82 τ g1 q0.vars q) (G : za (Ty.int .i64) 3 τ g2 q0.scope z) (X : RdT zZ τ g8 p1.Kids) {rr : Except (Value × zb) (zl × Int × zb)} (hF : zfc ((zy gn).1) ((zy gn).2.1) ((zy gn).2.2.1) ((zy gn).2.2.2.1) ((zy gn).2.2.2.2) q0 p1 = some rr) :
  zbu Try.prog 98 #[.pointer (some ⟨I, 0, none⟩), .agg #[.int .u8 p1.Kind.toNat, .int .i64 p1.Num, .string p1.Name, .string p1.Field, .string p1.Op, g8]] τ [zm I f7 f8 f9 q0.tree.Main g0 q0.fn g1 g2, k, o, q, z] (fun v τ' vs' => match (generalizing := false) rr with | .ok rr => ∃ (g9 c2 c3 c4 : Value) (c5 : Ob) (c6 : Value) (c7 : Ob) (c8 : Value) (c9 : Ob) (d0 : Value) (d5 : Ob), v = .tuple #[.agg #[.int .u8 rr.1.Kind.toNat, .int .u8 rr.1.Op.toNat, .int .i64 rr.1.Var, .int .i64 rr.1.Num, g9], .int .u8 rr.2.1] ∧ vs' = [zm I c2 c3 c4 rr.2.2.tree.Main c6 rr.2.2.fn c8 d0, c5, c7, c9, d5] ∧ RdT zbk τ' g9 rr.1.Kids ∧ RdT zw τ' c2 rr.2.2.prog.Structs ∧ RdT zt τ' c3 rr.2.2.prog.Funcs ∧ za zq 59 τ' c4 rr.2.2.tree.Bodies c5 ∧ za zr 87 τ' c6 rr.2.2.tree.Points c7 ∧ za zo 82 τ' c8 rr.2.2.vars c9 ∧ za (Ty.int .i64) 3 τ' d0 rr.2.2.scope d5 | .error _ => False) (fun ch τ' vs' => match (generalizing := false) rr with | .ok _ => False | .error ee => ∃ (c2 c3 c4 : Value) (c5 : Ob) (c6 : Value) (c7 : Ob) (c8 : Value) (c9 : Ob) (d0 : Value) (d5 : Ob), ch = [{ v := ee.1, recovered := false }] ∧ vs' = [zm I c2 c3 c4 ee.2.tree.Main c6 ee.2.fn c8 d0, c5, c7, c9, d5] ∧ RdT zw τ' c2 ee.2.prog.Structs ∧ RdT zt τ' c3 ee.2.prog.Funcs ∧ za zq 59 τ' c4 ee.2.tree.Bodies c5 ∧ za zr 87 τ' c6 ee.2.tree.Points c7 ∧ za zo 82 τ' c8 ee.2.vars c9 ∧ za (Ty.int .i64) 3 τ' d0 ee.2.scope d5) := by
 obtain ⟨g3, g4, rfl, -⟩ := g.form
 obtain ⟨g5, g6, rfl, -⟩ := h.form
 obtain ⟨b0, b1, rfl, -⟩ := B.form
 obtain ⟨b2, b5, rfl, -⟩ := D.form
 obtain ⟨b6, b8, rfl, -⟩ := E.form
 obtain ⟨b9, c0, rfl, -⟩ := G.form
 obtain ⟨d6, d7, rfl, -⟩ := X.form
 refine zcz (args := [.pointer (some ⟨I, 0, none⟩), .agg #[.int .u8 p1.Kind.toNat, .int .i64 p1.Num, .string p1.Name, .string p1.Field, .string p1.Op, (.slice d6 p1.Kids.length d7)]]) hm Try.func98 s98 rfl fun w0 σ hP hO Q hQ => ?_
 unfold zfc at hF
 have hL := Hp.le.refl τ
 show wpn _ _ a98.body _ _ _
 unfold a98
 dsimp only
 refine zbJ (n := 6) hO rfl rfl fun b3 σ hO => ?_
 have hO := zop6 hO
 refine zbm hO fun b4 σ hO => ?_
 have hO := zop7 hO
 refine zd hO [] [] [0, 3, 4] zn6 fun j => ?_
 refine zn (zd hO [5] [(8, .int .u8 (p1.Kind.toNat : Int))] [0, 3, 4] (And.intro (And.intro rfl rfl) zn7) fun j => ?_)
 refine zbr (zd hO [] [(9, .bool ((p1.Kind.toNat : Int) == 1))] [0, 3, 4, 8] zn8 fun j => ?_)
 refine zbz (zz hF rfl (fun hF => ?_) fun hF => ?_)
 ·refine zn (zg hO 3 [5] [(13, .agg #[(.int .u8 1), (.int .u8 0), (.int .i64 0), (.int .i64 p1.Num), (.slice none 0 0)])] [0, 4] (And.intro (And.intro rfl rfl) zn6) fun j => ?_)
  refine zu hO (i := 6) rfl (off := 0) rfl rfl rfl rfl (Nat.le_of_ble_eq_true rfl) rfl fun σ hO => ?_
  have hO := zop7 hO
  refine zd hO [] [(5, .int .u8 1)] [0, 4] zn6 fun j => ?_
  refine zbH (zbE (zbw ?_))
  cases hF
  have c1 := hO.val (i := 6) rfl (off := 0) (agg := true) (n := 5) rfl
  have hO := hO.sel [0, 1, 2, 3, 4]
  refine (hQ _ _ _ _ _ (zbY rfl (c1) (zco rfl)) hO hL ?_).1
  exact ⟨_, _, _, _, _, _, _, _, _, _, _, rfl, rfl, (RdT.nil _ _), (g.le hL), (h.le hL), (B.le hL), (D.le hL), (E.le hL), (G.le hL)⟩
 refine zn (zd hO [] [(14, .bool ((p1.Kind.toNat : Int) == 2))] [0, 3, 4, 8] zn8 fun j => ?_)
 refine zz hF rfl (fun hF => ?_) fun hF => ?_
 ·refine zn (zg hO 1 [] [(16, .agg #[(.int .u8 1), (.int .u8 0), (.int .i64 0), (.int .i64 0), (.slice none 0 0)])] [0, 3, 4] zn7 fun j => ?_)
  refine zbm hO fun b7 σ hO => ?_
  have hO := zop8 hO
  refine zu hO (i := 7) rfl (off := 0) rfl rfl rfl rfl (Nat.le_of_ble_eq_true rfl) rfl fun σ hO => ?_
  have hO := zop8 hO
  refine ze (zn (zn (zd hO [5] [(19, .bool (p1.Num != 0))] [0, 4, 6] (And.intro (And.intro rfl rfl) zn7) fun j => ?_)))
  refine zcL (fun e' σ' => ∃ (A9 : Option Addr) (h0 : Nat) (h1 : Ob) (f3 : List zI) (h2 : Option Addr) (h3 : Nat) (h4 : Ob) (f4 : List zE) (h5 : Option Addr) (h6 : Nat) (h7 : Ob) (f5 : List zG) (h8 : Option Addr) (h9 : Nat) (i0 : Ob) (f6 : List Int) (g7 : Int) (τ' : Hp), agr [(0, zol I), (4, zol b4), (6, zol b7)] e' ∧ Obs τ' σ' [zm I (zor g3 q0.prog.Structs g4) (zor g5 q0.prog.Funcs g6) (zor A9 f3 h0) q0.tree.Main (zor h2 f4 h3) q0.fn (zor h5 f5 h6) (zor h8 f6 h9), h1, h4, h7, i0, zdx b4 0 0 0 0 (.slice none 0 0), zdx b7 1 0 0 g7 (.slice none 0 0)] ∧ Hp.le τ τ' ∧ za zq 59 τ' (zor A9 f3 h0) f3 h1 ∧ za zr 87 τ' (zor h2 f4 h3) f4 h4 ∧ za zo 82 τ' (zor h5 f5 h6) f5 h7 ∧ za (Ty.int .i64) 3 τ' (zor h8 f6 h9) f6 i0 ∧ zgW q0 f3 f4 f5 f6 g7 = some rr) ?_ ?_
  ·refine zbz (zz hF rfl (fun hF => ?_) fun hF => ?_)
   ·refine zg hO 1 [] [(20, .pointer (some ⟨b7, 3, none⟩))] [0, 4, 6] zn7 fun j => ?_
    refine zu hO (i := 7) rfl (off := 3) rfl rfl rfl rfl (Nat.le_of_ble_eq_true rfl) rfl fun σ hO => ?_
    have hO := zop8 hO
    refine ze (zh (zi ?_))
    have hO := hO.sel [0, 1, 2, 3, 4, 6, 7]
    exact ⟨b0, b1, k, q0.tree.Bodies, b2, b5, o, q0.tree.Points, b6, b8, q, q0.vars, b9, c0, z, q0.scope, 1, _, zoj zn5, hO, hL, (B.le hL), (D.le hL), (E.le hL), (G.le hL), hF⟩
   refine zN (zh (zi ?_))
   have hO := hO.sel [0, 1, 2, 3, 4, 6, 7]
   exact ⟨b0, b1, k, q0.tree.Bodies, b2, b5, o, q0.tree.Points, b6, b8, q, q0.vars, b9, c0, z, q0.scope, 0, _, zoj zn5, hO, hL, (B.le hL), (D.le hL), (E.le hL), (G.le hL), hF⟩
  rintro e σ ⟨A9, h0, h1, f3, h2, h3, h4, f4, h5, h6, h7, f5, h8, h9, i0, f6, g7, _, hA, hO, hL, p5, p6, p7, p8, hF⟩
  rw [← zW _ _ hA]
  unfold zgW at hF
  refine zn (zg hO 1 [6] [(21, .agg #[(.int .u8 1), (.int .u8 0), (.int .i64 0), (.int .i64 g7), (.slice none 0 0)])] [0, 4] (And.intro (And.intro rfl rfl) zn6) fun j => ?_)
  refine zu hO (i := 5) rfl (off := 0) rfl rfl rfl rfl (Nat.le_of_ble_eq_true rfl) rfl fun σ hO => ?_
  have hO := zop7 hO
  refine zd hO [] [(5, .int .u8 2)] [0, 4] zn6 fun j => ?_
  refine zbH (zbE (zbw ?_))
  cases hF
  have c1 := hO.val (i := 5) rfl (off := 0) (agg := true) (n := 5) rfl
  have hO := hO.sel [0, 1, 2, 3, 4]
  refine (hQ _ _ _ _ _ (zbY rfl (c1) (zco rfl)) hO hL ?_).1
  exact ⟨_, _, _, _, _, _, _, _, _, _, _, rfl, rfl, (RdT.nil _ _), (g.le hL), (h.le hL), p5, p6, p7, p8⟩
 refine zn (zn (zd hO [] [(22, .bool ((p1.Kind.toNat : Int) == 3))] [0, 3, 4, 8] zn8 fun j => ?_))
 refine zcL (fun e' σ' => ∃ (i1 : Option Addr) (i2 : Nat) (i3 : Ob) (S : List zI) (i4 : Option Addr) (i5 : Nat) (i6 : Ob) (U : List zE) (i7 : Option Addr) (i8 : Nat) (i9 : Ob) (V : List zG) (j0 : Option Addr) (j1 : Nat) (j2 : Ob) (W : List Int) (j3 : Bool) (τ' : Hp), agr [(0, zol I), (3, zol b3), (4, zol b4), (8, .int .u8 (p1.Kind.toNat : Int)), (22, .bool j3)] e' ∧ Obs τ' σ' [zm I (zor g3 q0.prog.Structs g4) (zor g5 q0.prog.Funcs g6) (zor i1 S i2) q0.tree.Main (zor i4 U i5) q0.fn (zor i7 V i8) (zor j0 W j1), i3, i6, i9, j2, zeE b3 (p1.Kind.toNat : Int) p1.Num p1.Name p1.Field p1.Op (zor d6 p1.Kids d7), zdx b4 0 0 0 0 (.slice none 0 0)] ∧ Hp.le τ τ' ∧ za zq 59 τ' (zor i1 S i2) S i3 ∧ za zr 87 τ' (zor i4 U i5) U i6 ∧ za zo 82 τ' (zor i7 V i8) V i9 ∧ za (Ty.int .i64) 3 τ' (zor j0 W j1) W j2 ∧ zdU (zy gn).2.2.1 (zy gn).2.2.2.1 (zy gn).2.2.2.2 q0 p1 S U V W j3 = some rr) ?_ ?_
 ·refine zbz (zz hF rfl (fun hF => ?_) fun hF => ?_)
  ·refine zN (zh (zi ?_))
   exact ⟨b0, b1, k, q0.tree.Bodies, b2, b5, o, q0.tree.Points, b6, b8, q, q0.vars, b9, c0, z, q0.scope, ((p1.Kind.toNat : Int) == 3), _, zoj zn7, hO, hL, (B.le hL), (D.le hL), (E.le hL), (G.le hL), hF⟩
  refine zn (zd hO [] [(22, .bool ((p1.Kind.toNat : Int) == 4))] [0, 3, 4, 8] zn8 fun j => ?_)
  refine zz hF rfl (fun hF => ?_) fun hF => ?_
  ·refine zN (zh (zi ?_))
   exact ⟨b0, b1, k, q0.tree.Bodies, b2, b5, o, q0.tree.Points, b6, b8, q, q0.vars, b9, c0, z, q0.scope, ((p1.Kind.toNat : Int) == 4), _, zoj zn7, hO, hL, (B.le hL), (D.le hL), (E.le hL), (G.le hL), hF⟩
  refine zd hO [] [(22, .bool ((p1.Kind.toNat : Int) == 5))] [0, 3, 4, 8] zn8 fun j => ?_
  refine zh (zi ?_)
  exact ⟨b0, b1, k, q0.tree.Bodies, b2, b5, o, q0.tree.Points, b6, b8, q, q0.vars, b9, c0, z, q0.scope, ((p1.Kind.toNat : Int) == 5), _, zoj zn7, hO, hL, (B.le hL), (D.le hL), (E.le hL), (G.le hL), hF⟩
 rintro e σ ⟨i1, i2, i3, S, i4, i5, i6, U, i7, i8, i9, V, j0, j1, j2, W, j3, _, hA, hO, hL, d9, f0, f1, f2, hF⟩
 rw [← zW _ _ hA]
 unfold zdU at hF
 refine zz hF rfl (fun hF => ?_) fun hF => ?_
 ·refine zn (zg hO 2 [5] [(26, zol I), (27, .agg #[(.int .u8 (p1.Kind.toNat : Int)), (.int .i64 p1.Num), (.string p1.Name), (.string p1.Field), (.string p1.Op), (zor d6 p1.Kids d7)])] [0, 4] (And.intro (And.intro rfl rfl) zn7) fun j => ?_)
  have hO := hO.sel [5, 6, 0, 1, 2, 3, 4]
  rcases zP hF with ⟨E3, p9, hF⟩ | ⟨d8, q2, hF⟩
  ·refine zbo (hs := [_, _]) hO (ih_check_checker_place (q0 := (⟨(⟨q0.prog.Structs, q0.prog.Funcs⟩ : zs), (⟨S, q0.tree.Main, U⟩ : zx), q0.fn, V, W⟩ : zb)) (g.le hL) (h.le hL) d9 f0 f1 f2 (X.le hL) p9) zn2 rfl fun _ σ _ _ hO q3 q4 => ?_
   have hL := hL.trans q3
   obtain ⟨E4, E5, E6, E7, E8, E9, F0, F1, F2, F3, rfl, rfl, m6, m7, m8, m9, n0, n1⟩ := q4
   obtain ⟨F4, F5, rfl, -⟩ := m6.form
   obtain ⟨F6, F7, rfl, -⟩ := m7.form
   obtain ⟨F8, F9, rfl, -⟩ := m8.form
   obtain ⟨G0, G1, rfl, -⟩ := m9.form
   obtain ⟨G2, G3, rfl, -⟩ := n0.form
   obtain ⟨G4, G5, rfl, -⟩ := n1.form
   have hO := zop7 hO
   cases hF
   have hO := hO.sel [2, 3, 4, 5, 6]
   exact hP _ _ _ _ hO hL ⟨_, _, _, _, _, _, _, _, _, _, rfl, rfl, m6, m7, m8, m9, n0, n1⟩
  refine zbn (hs := [_, _]) hO (ih_check_checker_place (q0 := (⟨(⟨q0.prog.Structs, q0.prog.Funcs⟩ : zs), (⟨S, q0.tree.Main, U⟩ : zx), q0.fn, V, W⟩ : zb)) (g.le hL) (h.le hL) d9 f0 f1 f2 (X.le hL) q2) zn2 rfl fun _ σ _ _ hO q5 q6 => ?_
  have hL := hL.trans q5
  obtain ⟨G6, G7, G8, q9, r0, r1, r2, r3, r4, r5, r6, rfl, rfl, n2, n3, j4, j5, j6, j7, j8⟩ := q6
  obtain ⟨q7, q8, rfl, -⟩ := n2.form
  obtain ⟨G9, H0, rfl, -⟩ := n3.form
  obtain ⟨r7, r8, rfl, -⟩ := j4.form
  obtain ⟨r9, t0, rfl, -⟩ := j5.form
  obtain ⟨t1, t2, rfl, -⟩ := j6.form
  obtain ⟨t3, t4, rfl, -⟩ := j7.form
  obtain ⟨t5, t6, rfl, -⟩ := j8.form
  have hO := zop7 hO
  refine zg hO 2 [] [(29, .agg #[(.int .u8 (d8.1.Kind.toNat : Int)), (.int .u8 (d8.1.Op.toNat : Int)), (.int .i64 d8.1.Var), (.int .i64 d8.1.Num), (zor q7 d8.1.Kids q8)]), (30, .int .u8 d8.2.1)] [0, 4] zn7 fun j => ?_
  refine zu hO (i := 1) rfl (off := 0) rfl rfl rfl rfl (Nat.le_of_ble_eq_true rfl) rfl fun σ hO => ?_
  have hO := zop7 hO
  refine zd hO [] [(5, .int .u8 d8.2.1)] [0, 4] zn6 fun j => ?_
  refine zbH (zbE (zbw ?_))
  cases hF
  have c1 := hO.val (i := 1) rfl (off := 0) (agg := true) (n := 5) rfl
  have hO := hO.sel [2, 3, 4, 5, 6]
  refine (hQ _ _ _ _ _ (zbY rfl (c1) (zco rfl)) hO hL ?_).1
  exact ⟨_, _, _, _, _, _, _, _, _, _, _, rfl, rfl, n2, n3, j4, j5, j6, j7, j8⟩
 refine zn (zd hO [] [(31, .bool ((p1.Kind.toNat : Int) == 6))] [0, 3, 4] zn7 fun j => ?_)
 refine zz hF rfl (fun hF => ?_) fun hF => ?_
 ·refine zn (zg hO 2 [5] [(33, zol I), (34, .agg #[(.int .u8 (p1.Kind.toNat : Int)), (.int .i64 p1.Num), (.string p1.Name), (.string p1.Field), (.string p1.Op), (zor d6 p1.Kids d7)])] [0, 4] (And.intro (And.intro rfl rfl) zn7) fun j => ?_)
  have hO := hO.sel [5, 6, 0, 1, 2, 3, 4]
  rcases zP hF with ⟨t7, n6, hF⟩ | ⟨Y, n7, hF⟩
  ·refine zbo (hs := [_, _]) hO (ih_check_checker_unary (q0 := (⟨(⟨q0.prog.Structs, q0.prog.Funcs⟩ : zs), (⟨S, q0.tree.Main, U⟩ : zx), q0.fn, V, W⟩ : zb)) (g.le hL) (h.le hL) d9 f0 f1 f2 (X.le hL) n6) zn2 rfl fun _ σ _ _ hO n8 n9 => ?_
   have hL := hL.trans n8
   obtain ⟨t8, t9, u0, u1, u2, u3, u4, u5, u6, u7, rfl, rfl, j9, k0, k1, k2, k3, k4⟩ := n9
   obtain ⟨u9, v0, rfl, -⟩ := j9.form
   obtain ⟨v1, v2, rfl, -⟩ := k0.form
   obtain ⟨v3, v4, rfl, -⟩ := k1.form
   obtain ⟨v5, v6, rfl, -⟩ := k2.form
   obtain ⟨v7, v8, rfl, -⟩ := k3.form
   obtain ⟨v9, w2, rfl, -⟩ := k4.form
   have hO := zop7 hO
   cases hF
   have hO := hO.sel [2, 3, 4, 5, 6]
   exact hP _ _ _ _ hO hL ⟨_, _, _, _, _, _, _, _, _, _, rfl, rfl, j9, k0, k1, k2, k3, k4⟩
  refine zbn (hs := [_, _]) hO (ih_check_checker_unary (q0 := (⟨(⟨q0.prog.Structs, q0.prog.Funcs⟩ : zs), (⟨S, q0.tree.Main, U⟩ : zx), q0.fn, V, W⟩ : zb)) (g.le hL) (h.le hL) d9 f0 f1 f2 (X.le hL) n7) zn2 rfl fun _ σ _ _ hO o0 o1 => ?_
  have hL := hL.trans o0
  obtain ⟨w3, w4, w5, w6, w7, w8, w9, x0, x1, x2, x3, rfl, rfl, k5, k6, k7, k8, k9, l0, l1⟩ := o1
  obtain ⟨o2, o3, rfl, -⟩ := k5.form
  obtain ⟨x4, x5, rfl, -⟩ := k6.form
  obtain ⟨x6, x7, rfl, -⟩ := k7.form
  obtain ⟨x8, x9, rfl, -⟩ := k8.form
  obtain ⟨y0, y1, rfl, -⟩ := k9.form
  obtain ⟨y2, y3, rfl, -⟩ := l0.form
  obtain ⟨y4, y5, rfl, -⟩ := l1.form
  have hO := zop7 hO
  refine zg hO 2 [] [(36, .agg #[(.int .u8 (Y.1.Kind.toNat : Int)), (.int .u8 (Y.1.Op.toNat : Int)), (.int .i64 Y.1.Var), (.int .i64 Y.1.Num), (zor o2 Y.1.Kids o3)]), (37, .int .u8 Y.2.1)] [0, 4] zn7 fun j => ?_
  refine zu hO (i := 1) rfl (off := 0) rfl rfl rfl rfl (Nat.le_of_ble_eq_true rfl) rfl fun σ hO => ?_
  have hO := zop7 hO
  refine zd hO [] [(5, .int .u8 Y.2.1)] [0, 4] zn6 fun j => ?_
  refine zbH (zbE (zbw ?_))
  cases hF
  have c1 := hO.val (i := 1) rfl (off := 0) (agg := true) (n := 5) rfl
  have hO := hO.sel [2, 3, 4, 5, 6]
  refine (hQ _ _ _ _ _ (zbY rfl (c1) (zco rfl)) hO hL ?_).1
  exact ⟨_, _, _, _, _, _, _, _, _, _, _, rfl, rfl, k5, k6, k7, k8, k9, l0, l1⟩
 refine zN (zh (zX (zi (zg hO 2 [5] [(38, zol I), (39, .agg #[(.int .u8 (p1.Kind.toNat : Int)), (.int .i64 p1.Num), (.string p1.Name), (.string p1.Field), (.string p1.Op), (zor d6 p1.Kids d7)])] [0, 4] (And.intro (And.intro rfl rfl) zn7) fun j => ?_))))
 have hO := hO.sel [5, 6, 0, 1, 2, 3, 4]
 rcases zP hF with ⟨y6, o4, hF⟩ | ⟨Z, o5, hF⟩
 ·refine zbo (hs := [_, _]) hO (ih_check_checker_binary (q0 := (⟨(⟨q0.prog.Structs, q0.prog.Funcs⟩ : zs), (⟨S, q0.tree.Main, U⟩ : zx), q0.fn, V, W⟩ : zb)) (g.le hL) (h.le hL) d9 f0 f1 f2 (X.le hL) o4) zn2 rfl fun _ σ _ _ hO o6 o7 => ?_
  have hL := hL.trans o6
  obtain ⟨y7, y8, y9, A0, A1, A2, A3, A4, A5, A6, rfl, rfl, l2, l3, l4, l5, l6, l7⟩ := o7
  obtain ⟨A7, A8, rfl, -⟩ := l2.form
  obtain ⟨B0, B1, rfl, -⟩ := l3.form
  obtain ⟨B2, B3, rfl, -⟩ := l4.form
  obtain ⟨B4, B5, rfl, -⟩ := l5.form
  obtain ⟨B6, B7, rfl, -⟩ := l6.form
  obtain ⟨B8, B9, rfl, -⟩ := l7.form
  have hO := zop7 hO
  cases hF
  have hO := hO.sel [2, 3, 4, 5, 6]
  exact hP _ _ _ _ hO hL ⟨_, _, _, _, _, _, _, _, _, _, rfl, rfl, l2, l3, l4, l5, l6, l7⟩
 refine zbn (hs := [_, _]) hO (ih_check_checker_binary (q0 := (⟨(⟨q0.prog.Structs, q0.prog.Funcs⟩ : zs), (⟨S, q0.tree.Main, U⟩ : zx), q0.fn, V, W⟩ : zb)) (g.le hL) (h.le hL) d9 f0 f1 f2 (X.le hL) o5) zn2 rfl fun _ σ _ _ hO o8 o9 => ?_
 have hL := hL.trans o8
 obtain ⟨C0, C1, C2, C3, C4, C5, C6, C7, C8, C9, D0, rfl, rfl, l8, l9, m0, m1, m2, m3, m4⟩ := o9
 obtain ⟨p2, p3, rfl, -⟩ := l8.form
 obtain ⟨D1, D2, rfl, -⟩ := l9.form
 obtain ⟨D3, D4, rfl, -⟩ := m0.form
 obtain ⟨D5, D6, rfl, -⟩ := m1.form
 obtain ⟨D7, D8, rfl, -⟩ := m2.form
 obtain ⟨D9, E0, rfl, -⟩ := m3.form
 obtain ⟨E1, E2, rfl, -⟩ := m4.form
 have hO := zop7 hO
 refine zg hO 2 [] [(41, .agg #[(.int .u8 (Z.1.Kind.toNat : Int)), (.int .u8 (Z.1.Op.toNat : Int)), (.int .i64 Z.1.Var), (.int .i64 Z.1.Num), (zor p2 Z.1.Kids p3)]), (42, .int .u8 Z.2.1)] [0, 4] zn7 fun j => ?_
 refine zu hO (i := 1) rfl (off := 0) rfl rfl rfl rfl (Nat.le_of_ble_eq_true rfl) rfl fun σ hO => ?_
 have hO := zop7 hO
 refine zd hO [] [(5, .int .u8 Z.2.1)] [0, 4] zn6 fun j => ?_
 refine zbb ?_
 cases hF
 have c1 := hO.val (i := 1) rfl (off := 0) (agg := true) (n := 5) rfl
 have hO := hO.sel [2, 3, 4, 5, 6]
 refine (hQ _ _ _ _ _ (zbY rfl (c1) (zco rfl)) hO hL ?_).1
 exact ⟨_, _, _, _, _, _, _, _, _, _, _, rfl, rfl, l8, l9, m0, m1, m2, m3, m4⟩
end Go.Proofs.Ytakcaekikfcbpaa
