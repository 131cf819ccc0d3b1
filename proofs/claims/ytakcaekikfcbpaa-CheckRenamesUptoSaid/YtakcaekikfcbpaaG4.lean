import Derived.Test.YtakcaekikfcbpaaG3
namespace Go.Proofs.Ytakcaekikfcbpaa
open Go.Ab Go.RowKit
set_option linter.unusedVariables false
set_option linter.unusedSimpArgs false
set_option maxRecDepth 10000
set_option maxHeartbeats 1000000
theorem zgU {τ : Hp} {p0 : ByteArray}  {rr : ByteArray} (hF : zdU p0 = some rr) :
  Ctr Try.prog 23 #[.string p0] τ [] (fun v τ' vs' => v = .string rr ∧ vs' = []) := by
 refine zbi (args := [.string p0]) hm Try.func23 s23 rfl fun w0 σ hO Q hQ => ?_
 unfold zdU at hF
 have hL := Hp.le.refl τ
 show wpn _ _ a23.body _ _ _
 unfold a23
 dsimp only
 refine ze hO [] [] [0] zq0 fun j => ?_
 refine zl (ze hO [] [(4, .bool (zP p0 zqP))] [0] zq1 fun j => ?_)
 refine zy hF rfl (fun hF => ?_) fun hF => ?_
 ·refine zl (zA hO [] [(2, .string p0)] zq0 fun j => ?_)
  refine zbt ?_
  cases hF
  exact hQ _ _ _ _ _ rfl hO hL ⟨rfl, rfl⟩
 refine zF (zK hO 1 [] [(6, .string p0)] zq0 fun j => ?_)
 obtain ⟨o, q, hF⟩ := zrm hF
 refine znB (zmx q) ?_
 refine zA hO [] [(2, .string o)] zq0 fun j => ?_
 refine zba ?_
 cases hF
 exact hQ _ _ _ _ _ rfl hO hL ⟨rfl, rfl⟩
def zmn (gn : Nat) : Prop := ∀ {τ : Hp} {g : Value} {p0 : (List zc)} (z : RdT z5 τ g p0) {rr : (List zc)} (hF : (zdl gn) p0 = some rr), Ctr Try.prog 41 #[g] τ [] (fun v τ' vs' => ∃ (g : Value) (h : Ob), v = g ∧ vs' = [h] ∧ za z5 71 τ' g rr h)
theorem zpr {gn : Nat} (ih_law13_turnExps : zmn gn) {τ : Hp} {V : Value} {p0 : (List zc)} (r0 : RdT z5 τ V p0) {rr : (List zc)} (hF : zi6 (zdl gn) p0 = some rr) :
  Ctr Try.prog 41 #[V] τ [] (fun v τ' vs' => ∃ (V : Value) (o0 : Ob), v = V ∧ vs' = [o0] ∧ za z5 71 τ' V rr o0) := by
 obtain ⟨A0, c0, rfl, -⟩ := r0.form
 refine zbi (args := [.slice A0 p0.length c0]) hm Try.func41 s41 rfl fun w0 σ hO Q hQ => ?_
 unfold zi6 at hF
 have hL := Hp.le.refl τ
 show wpn _ _ a41.body _ _ _
 unfold a41
 dsimp only
 refine ze hO [] [] [0] zq0 fun j => ?_
 refine ze hO [] [(3, .slice none 0 0)] [0] zq1 fun j => ?_
 refine zl (ze hO [] [(4, zrg 0)] [0, 3] zq2 fun j => ?_)
 refine zY ?_
 have hO := hO.no
 have hO := zrl1 hO
 refine zbH (fun (n : Nat) e' σ' => ∃ (D : Option Addr) (G : Nat) (W : Ob) (h : List zc) (o : Int) (τ' : Hp), agr [(0, zrn A0 p0 c0), (3, zrn D h G), (4, zrg o)] e' ∧ Obs τ' σ' [W] ∧ Hp.le τ τ' ∧ za z5 71 τ' (zrn D h G) h W ∧ zew (zdl gn) p0 n h o = some rr) big ⟨none, 0, none, [], 0, _, zrf zq1, hO, hL, za.nil _ _ _, hF⟩ ?_
 clear hF hO hL
 rintro U e σ ⟨D, G, W, h, o, _, hA, hO, hL, q, hF⟩
 rw [← zV _ _ hA]
 cases U with
 | zero => exact nomatch (show none = some rr from hF)
 | succ U =>
 replace hF : zfI (zew (zdl gn) p0 U) (zdl gn) p0 h o = some rr := hF
 unfold zfI at hF
 refine zl (ze hO [] [(9, .bool (decide (o < (p0.length : Int))))] [0, 3, 4] zq3 fun j => ?_)
 refine zy hF rfl (fun hF => ?_) fun hF => ?_
 ·refine zF (zY (zd hO 2 [] [(12, zrn A0 p0 c0), (13, zrg o)] [0, 3, 4] zq4 fun j => ?_))
  obtain ⟨g, c2, hF⟩ := zrm hF
  refine zO (T := z5) (r0.le hL) hO.base rfl rfl c2 (by decide) fun a75 _ c3 c4 => ?_
  obtain ⟨d8, rfl, z⟩ := zhO c3
  obtain ⟨c5, c6, rfl, -⟩ := z.form
  refine zE rfl ((c4.le hO.base).all rfl) ?_
  refine zbl hO fun b5 σ hO => ?_
  have hO := zrl2 hO
  refine zC hO (i := 1) rfl (off := 0) rfl rfl rfl rfl (Nat.le_of_ble_eq_true rfl) rfl fun σ hO => ?_
  have hO := zrl2 hO
  refine zf (zd hO 2 [1] [(17, .string g.Name)] [0, 3, 4, 5] (And.intro (And.intro rfl rfl) zq4) fun j => ?_)
  obtain ⟨I, c7, hF⟩ := zrm hF
  refine zL hO (zgU c7) rfl fun _ σ _ _ hO X c8 => ?_
  have hL := hL.trans X
  have q := q.le X
  have z := z.le X
  obtain ⟨rfl, rfl⟩ := c8
  have hO := zrl2 hO
  refine zd hO 1 [] [(19, .pointer (some ⟨b5, 2, none⟩))] [0, 3, 4, 5, 18] zq5 fun j => ?_
  refine zC hO (i := 1) rfl (off := 2) rfl rfl rfl rfl (Nat.le_of_ble_eq_true rfl) rfl fun σ hO => ?_
  have hO := zrl2 hO
  refine zf (zd hO 2 [1] [(21, zrn c5 g.Kids c6)] [0, 3, 4, 5] (And.intro (And.intro rfl rfl) zq4) fun j => ?_)
  obtain ⟨S, c9, hF⟩ := zrm hF
  refine zL hO (ih_law13_turnExps z c9) rfl fun _ σ _ _ hO Y d0 => ?_
  have hL := hL.trans Y
  have q := q.le Y
  have z := z.le Y
  obtain ⟨d9, f0, rfl, rfl, b6⟩ := d0
  obtain ⟨d5, d6, rfl, -⟩ := b6.form
  have hO := zrl3 hO
  refine zd hO 1 [] [(23, .pointer (some ⟨b5, 5, none⟩))] [0, 3, 4, 5, 22] zq5 fun j => ?_
  refine zC hO (i := 1) rfl (off := 5) rfl rfl rfl rfl (Nat.le_of_ble_eq_true rfl) rfl fun σ hO => ?_
  have hO := zrl3 hO
  refine zf (zbd (zd hO 2 [1] [(24, zrn D h G), (25, .agg #[(.int .u8 (g.Kind.toNat : Int)), (.int .i64 g.Num), (.string I), (.string g.Field), (.string g.Op), (zrn d5 S d6)])] [0, 4] (And.intro (And.intro rfl rfl) zq3) fun j => ?_))
  obtain ⟨_, b7, d7, hO⟩ := b6.share hO (i := 2) rfl
  have hL := hL.trans b7
  have q := q.le b7
  have hO := zrl3 hO
  obtain ⟨_, b4, hF⟩ := zrm hF
  refine zdk (T := z5) (y := (⟨g.Kind, g.Num, I, g.Field, g.Op, S⟩ : zc)) hO q (i := 0) rfl rfl (fun _ => rfl) rfl (zcR ⟨_, rfl, d7⟩) rfl b4 (by decide) fun u _ σ b8 Z hO => ?_
  obtain ⟨b0, b1, rfl, -⟩ := Z.form
  have hO := zrl3 hO
  refine ze hO [] [(3, zrn b0 (h ++ [(⟨g.Kind, g.Num, I, g.Field, g.Op, S⟩ : zc)]) b1)] [0, 4] zq2 fun j => ?_
  refine zg (z3 (zk (zbd (zA hO [] [(0, zrn A0 p0 c0), (3, zrn b0 (h ++ [(⟨g.Kind, g.Num, I, g.Field, g.Op, S⟩ : zc)]) b1), (4, zrg (IntKind.i64.wrap (o + 1)))] zq2 fun j => ?_))))
  refine zg (zk ?_)
  have hO := hO.sel [0]
  exact ⟨U, Nat.lt_succ_self _, b0, b1, b8, (h ++ [(⟨g.Kind, g.Num, I, g.Field, g.Op, S⟩ : zc)]), (IntKind.i64.wrap (o + 1)), _, zrf zq1, hO, hL, Z, hF⟩
 refine zbF (zbB (zbD (zk (zA hO [] [(2, zrn D h G)] zq0 fun j => ?_))))
 refine zba ?_
 cases hF
 exact hQ _ _ _ _ _ rfl hO hL ⟨_, _, rfl, rfl, q⟩
theorem zqD (n : Nat) : zmn n := by
 induction n with
 | zero =>
  intro τ h p0 g rr hF; exact nomatch (show none = some rr from hF)
 | succ n ih =>
  intro τ h p0 g rr hF; exact zpr ih g hF
theorem znf : ∀ {τ : Hp} {g : Value} {p0 : (List zc)} (j : RdT z5 τ g p0) {rr : (List zc)} (hF : zjT p0 = some rr), Ctr Try.prog 41 #[g] τ [] (fun v τ' vs' => ∃ (g : Value) (h : Ob), v = g ∧ vs' = [h] ∧ za z5 71 τ' g rr h) := (zqD big)
def zmb (gn : Nat) : Prop := ∀ {τ : Hp} {g : Value} {p0 : (List zi)} (j : RdT zX τ g p0) {rr : (List zi)} (hF : (zdh gn) p0 = some rr), Ctr Try.prog 22 #[g] τ [] (fun v τ' vs' => ∃ (g : Value) (h : Ob), v = g ∧ vs' = [h] ∧ za zX 73 τ' g rr h)
theorem zpD {gn : Nat} (ih_law13_turnStmts : zmb gn) {τ : Hp} {v0 : Value} {p0 : (List zi)} (r0 : RdT zX τ v0 p0) {rr : (List zi)} (hF : ziF (zdh gn) p0 = some rr) :
  Ctr Try.prog 22 #[v0] τ [] (fun v τ' vs' => ∃ (v0 : Value) (o0 : Ob), v = v0 ∧ vs' = [o0] ∧ za zX 73 τ' v0 rr o0) := by
 obtain ⟨A0, c0, rfl, -⟩ := r0.form
 refine zbi (args := [.slice A0 p0.length c0]) hm Try.func22 s22 rfl fun w0 σ hO Q hQ => ?_
 unfold ziF at hF
 have hL := Hp.le.refl τ
 show wpn _ _ a22.body _ _ _
 unfold a22
 dsimp only
 refine ze hO [] [] [0] zq0 fun j => ?_
 refine ze hO [] [(3, .slice none 0 0)] [0] zq1 fun j => ?_
 refine zl (ze hO [] [(4, zrg 0)] [0, 3] zq2 fun j => ?_)
 refine zY ?_
 have hO := hO.no
 have hO := zrl1 hO
 refine zbH (fun (n : Nat) e' σ' => ∃ (b1 : Option Addr) (b2 : Nat) (c4 : Ob) (q : List zi) (D : Int) (τ' : Hp), agr [(0, zrn A0 p0 c0), (3, zrn b1 q b2), (4, zrg D)] e' ∧ Obs τ' σ' [c4] ∧ Hp.le τ τ' ∧ za zX 73 τ' (zrn b1 q b2) q c4 ∧ zeE (zdh gn) p0 n q D = some rr) big ⟨none, 0, none, [], 0, _, zrf zq1, hO, hL, za.nil _ _ _, hF⟩ ?_
 clear hF hO hL
 rintro b3 e σ ⟨b1, b2, c4, q, D, _, hA, hO, hL, h, hF⟩
 rw [← zV _ _ hA]
 cases b3 with
 | zero => exact nomatch (show none = some rr from hF)
 | succ b3 =>
 replace hF : zgt (zeE (zdh gn) p0 b3) (zdh gn) p0 q D = some rr := hF
 unfold zgt at hF
 refine zl (ze hO [] [(9, .bool (decide (D < (p0.length : Int))))] [0, 3, 4] zq3 fun j => ?_)
 refine zy hF rfl (fun hF => ?_) fun hF => ?_
 ·refine zF (zY (zd hO 2 [] [(12, zrn A0 p0 c0), (13, zrg D)] [0, 3, 4] zq4 fun j => ?_))
  obtain ⟨g, d5, hF⟩ := zrm hF
  refine zO (T := zX) (r0.le hL) hO.base rfl rfl d5 (by decide) fun a135 _ d6 d7 => ?_
  obtain ⟨h2, h3, h4, rfl, G, z, o⟩ := zfv d6
  obtain ⟨d8, d9, rfl, -⟩ := G.form
  obtain ⟨f0, f1, rfl, -⟩ := z.form
  obtain ⟨f2, f3, rfl, -⟩ := o.form
  refine zE rfl ((d7.le hO.base).all rfl) ?_
  refine zbl hO fun V σ hO => ?_
  have hO := zrl2 hO
  refine zC hO (i := 1) rfl (off := 0) rfl rfl rfl rfl (Nat.le_of_ble_eq_true rfl) rfl fun σ hO => ?_
  have hO := zrl2 hO
  refine zf (zd hO 2 [1] [(17, .string g.Name)] [0, 3, 4, 5] (And.intro (And.intro rfl rfl) zq4) fun j => ?_)
  obtain ⟨b4, f4, hF⟩ := zrm hF
  refine zL hO (zgU f4) rfl fun _ σ _ _ hO W f5 => ?_
  have hL := hL.trans W
  have h := h.le W
  have G := G.le W
  have z := z.le W
  have o := o.le W
  obtain ⟨rfl, rfl⟩ := f5
  have hO := zrl2 hO
  refine zd hO 1 [] [(19, .pointer (some ⟨V, 2, none⟩))] [0, 3, 4, 5, 18] zq5 fun j => ?_
  refine zC hO (i := 1) rfl (off := 2) rfl rfl rfl rfl (Nat.le_of_ble_eq_true rfl) rfl fun σ hO => ?_
  have hO := zrl2 hO
  refine zf (zd hO 2 [1] [(21, zrn d8 g.Kids d9)] [0, 3, 4, 5] (And.intro (And.intro rfl rfl) zq4) fun j => ?_)
  obtain ⟨b5, f6, hF⟩ := zrm hF
  refine zL hO (znf G f6) rfl fun _ σ _ _ hO X f7 => ?_
  have hL := hL.trans X
  have h := h.le X
  have G := G.le X
  have z := z.le X
  have o := o.le X
  obtain ⟨h5, h6, rfl, rfl, I⟩ := f7
  obtain ⟨f8, f9, rfl, -⟩ := I.form
  have hO := zrl3 hO
  refine zd hO 1 [] [(23, .pointer (some ⟨V, 8, none⟩))] [0, 3, 4, 5, 22] zq5 fun j => ?_
  refine zC hO (i := 1) rfl (off := 8) rfl rfl rfl rfl (Nat.le_of_ble_eq_true rfl) rfl fun σ hO => ?_
  have hO := zrl3 hO
  refine zf (zd hO 2 [1] [(25, zrn f0 g.Body f1)] [0, 3, 4, 5] (And.intro (And.intro rfl rfl) zq4) fun j => ?_)
  obtain ⟨b6, g0, hF⟩ := zrm hF
  refine zL hO (ih_law13_turnStmts z g0) rfl fun _ σ _ _ hO Y g1 => ?_
  have hL := hL.trans Y
  have h := h.le Y
  have z := z.le Y
  have I := I.le Y
  have o := o.le Y
  obtain ⟨h7, h8, rfl, rfl, S⟩ := g1
  obtain ⟨g2, g3, rfl, -⟩ := S.form
  have hO := zrl4 hO
  refine zd hO 1 [] [(27, .pointer (some ⟨V, 9, none⟩))] [0, 3, 4, 5, 26] zq5 fun j => ?_
  refine zC hO (i := 1) rfl (off := 9) rfl rfl rfl rfl (Nat.le_of_ble_eq_true rfl) rfl fun σ hO => ?_
  have hO := zrl4 hO
  refine zf (zK hO 2 [1] [(0, zrn A0 p0 c0), (3, zrn b1 q b2), (4, zrg D), (5, zrh V), (29, zrn f2 g.Else f3)] (And.intro (And.intro rfl rfl) zq4) fun j => ?_)
  obtain ⟨b7, g4, hF⟩ := zrm hF
  refine zL hO (ih_law13_turnStmts o g4) rfl fun _ σ _ _ hO Z g5 => ?_
  have hL := hL.trans Z
  have h := h.le Z
  have o := o.le Z
  have I := I.le Z
  have S := S.le Z
  obtain ⟨h9, i0, rfl, rfl, U⟩ := g5
  obtain ⟨g6, g7, rfl, -⟩ := U.form
  have hO := zrl5 hO
  refine zd hO 1 [] [(31, .pointer (some ⟨V, 10, none⟩))] [0, 3, 4, 5, 30] zq5 fun j => ?_
  refine zC hO (i := 1) rfl (off := 10) rfl rfl rfl rfl (Nat.le_of_ble_eq_true rfl) rfl fun σ hO => ?_
  have hO := zrl5 hO
  refine zf (zbd (zd hO 2 [1] [(32, zrn b1 q b2), (33, .agg #[(.int .u8 (g.Kind.toNat : Int)), (.int .i64 g.Line), (.string b4), (.string g.Field), (.string g.Call), (.int .u8 (g.Type_.Kind.toNat : Int)), (.int .i64 g.Type_.N), (.string g.Type_.Name), (zrn f8 b5 f9), (zrn g2 b6 g3), (zrn g6 b7 g7)])] [0, 4] (And.intro (And.intro rfl rfl) zq3) fun j => ?_))
  obtain ⟨_, b8, b0, hO⟩ := I.share hO (i := 2) rfl
  have hL := hL.trans b8
  have h := h.le b8
  have S := S.le b8
  have U := U.le b8
  have hO := zrl5 hO
  obtain ⟨_, b9, c2, hO⟩ := S.share hO (i := 3) rfl
  have hL := hL.trans b9
  have h := h.le b9
  have b0 := b0.le b9
  have U := U.le b9
  have hO := zrl5 hO
  obtain ⟨_, c1, g8, hO⟩ := U.share hO (i := 4) rfl
  have hL := hL.trans c1
  have h := h.le c1
  have b0 := b0.le c1
  have c2 := c2.le c1
  have hO := zrl5 hO
  obtain ⟨_, d0, hF⟩ := zrm hF
  refine zmq (T := zX) (y := (⟨g.Kind, g.Line, b4, g.Field, g.Call, (⟨g.Type_.Kind, g.Type_.N, g.Type_.Name⟩ : zz), b5, b6, b7⟩ : zi)) hO h (i := 0) rfl rfl (fun _ => rfl) rfl (zc4 ⟨_, _, _, rfl, b0, c2, g8⟩) rfl d0 (by decide) fun u _ σ g9 c5 hO => ?_
  obtain ⟨c6, c7, rfl, -⟩ := c5.form
  have hO := zrl5 hO
  refine ze hO [] [(3, zrn c6 (q ++ [(⟨g.Kind, g.Line, b4, g.Field, g.Call, (⟨g.Type_.Kind, g.Type_.N, g.Type_.Name⟩ : zz), b5, b6, b7⟩ : zi)]) c7)] [0, 4] zq2 fun j => ?_
  refine zg (z3 (zk (zbd (ze hO [] [(4, zrg (IntKind.i64.wrap (D + 1)))] [0, 3] zq2 fun j => ?_))))
  refine zg (zk ?_)
  have hO := hO.sel [0]
  exact ⟨b3, Nat.lt_succ_self _, c6, c7, g9, (q ++ [(⟨g.Kind, g.Line, b4, g.Field, g.Call, (⟨g.Type_.Kind, g.Type_.N, g.Type_.Name⟩ : zz), b5, b6, b7⟩ : zi)]), (IntKind.i64.wrap (D + 1)), _, zrf zq1, hO, hL, c5, hF⟩
 refine zbF (zbB (zbD (zk (zA hO [] [(2, zrn b1 q b2)] zq0 fun j => ?_))))
 refine zba ?_
 cases hF
 exact hQ _ _ _ _ _ rfl hO hL ⟨_, _, rfl, rfl, h⟩
theorem zn4 (n : Nat) : zmb n := by
 induction n with
 | zero =>
  intro τ h p0 g rr hF; exact nomatch (show none = some rr from hF)
 | succ n ih =>
  intro τ h p0 g rr hF; exact zpD ih g hF
theorem znr : ∀ {τ : Hp} {g : Value} {p0 : (List zi)} (j : RdT zX τ g p0) {rr : (List zi)} (hF : zhZ p0 = some rr), Ctr Try.prog 22 #[g] τ [] (fun v τ' vs' => ∃ (g : Value) (h : Ob), v = g ∧ vs' = [h] ∧ za zX 73 τ' g rr h) := (zn4 big)
end Go.Proofs.Ytakcaekikfcbpaa
