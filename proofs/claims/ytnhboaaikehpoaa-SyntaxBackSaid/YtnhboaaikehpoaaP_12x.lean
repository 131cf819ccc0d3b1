import Derived.Test.YtnhboaaikehpoaaP_12w
import Derived.KernelRfl
namespace Go.Proofs.Ytnhboaaikehpoaa
open Go.Ab Go.RowKit
set_option linter.unusedVariables false
set_option linter.unusedSimpArgs false
theorem zrk {l : List Stm} {c : List Tok} (h : Bk l c) {r : List Tok} (hl : (c ++ r).length ≤ 1000000) : zf7 (c ++ r) = some (.ok (l, r)) := by
 obtain ⟨_, n0, h⟩ := h
 exact zlo (zqN (Nat.le_max_left big n0)) (zlx (Nat.le_refl _)) hl (h _ (Nat.le_max_right _ _) r hl)
def Fp (nm : BA) (l : List BA) (i : Nat) (c : List Tok) : Prop := ∀ (n : Nat) (r : List Tok), l.length - i < n → fL nm n (l.take i) (c ++ r) = some (.ok (⟨nm, l⟩, r))
theorem zsh {rec144 : List Tok → Int → Int → Bool → List zq → Int → Option (List Tok × zB × Bool)} {s : zq} {j : Nat} {ln m : Int} {S : List zq} (hs : s.Fields.length ≤ 2000) (hj : j ≤ 2000) (hS : S.length ≤ 2000) : ∀ (n i : Nat) (L : List Tok) (b : Bool), i ≤ s.Fields.length → s.Fields.length - i < n → L.length + 3 * (s.Fields.length - i) ≤ 800000000 →
  ∃ c b', zgE rec144 (j : Int) s n L ln m b S (i : Int) = rec144 (L ++ c) ln m b' (S ++ [s]) ((j + 1 : Nat) : Int) ∧ c.length ≤ 3 * (s.Fields.length - i) + 1 ∧ (b' = false → b = false ∧ Fp s.Name s.Fields i c) := by
 intro n
 induction n with
 | zero => intro i L b _ h; omega
 | succ n ih =>
  intro i L b hi hn hL
  show ∃ c b', zhh (zgE rec144 (j : Int) s n) rec144 (j : Int) s L ln m b S (i : Int) = _ ∧ _
  unfold zhh
  by_cases h : i < s.Fields.length
  ·rw [if_pos (zJ (by omega)), zbv h, Option.bind_some]
   obtain ⟨b1, e1, g1⟩ := zcz ⟨L, ln, m, b⟩ s.Fields[i] (by show L.length ≤ _; omega)
   rw [e1, Option.bind_some, zcL (by simp; omega), Option.bind_some, zbJ (by simp; omega), Option.bind_some, zbq (by omega)]
   obtain ⟨c, b2, e2, l2, g2⟩ := ih (i + 1) (L ++ [tkn 1 s.Fields[i] ln] ++ [tkn 3 zs6 ln] ++ [tkn 4 zta ln]) b1 (by omega) (by omega) (by simp; omega)
   refine ⟨tkn 1 s.Fields[i] ln :: tkn 3 zs6 ln :: tkn 4 zta ln :: c, b2, e2.trans (by simp), by simp; omega, fun h0 => ?_⟩
   obtain ⟨h1, h2⟩ := g2 h0
   refine ⟨g1 h1, fun k r hk => ?_⟩
   obtain ⟨k, rfl⟩ : ∃ x, k = x + 1 := ⟨k - 1, by omega⟩
   show fL s.Name k (s.Fields.take i ++ [s.Fields[i]]) (c ++ r) = _
   have := h2 k r (by omega)
   rwa [List.take_add_one, List.getElem?_eq_getElem h] at this
  ·rw [if_neg (by simp; omega), zbJ (by show L.length ≤ _; omega), Option.bind_some, zcT (by omega), Option.bind_some, zbq (by omega)]
   refine ⟨[tkn 4 ztw ln], b, rfl, by simp, fun h0 => ⟨h0, fun k r hk => ?_⟩⟩
   obtain ⟨k, rfl⟩ : ∃ x, k = x + 1 := ⟨k - 1, by omega⟩
   rw [List.take_of_length_le (by omega)]
   rfl
def Sc (s : zq) (c : List Tok) : Prop := ∃ ln c', c = tkn 3 zte ln :: c' ∧ ∀ r, zdO (c' ++ r) = some (.ok (s, r))
def Fc (d : zo) (c : List Tok) : Prop := (∃ ln c', c = tkn 3 ztc ln :: c') ∧ ∀ r, (c ++ r).length ≤ 1000000 → zdB (c ++ r) = some (.ok (d, r))
def Wf (D : List zo) (c : List Tok) : Prop := ∀ (k : Nat) (S0 : List zq) (D0 : List zo), D.length < k → c.length ≤ 1000000 → wL k S0 D0 c = some (.ok (S0, D0 ++ D))
theorem Wf.nil : Wf [] [] := fun k S0 D0 hk _ => by
 obtain ⟨k, rfl⟩ : ∃ x, k = x + 1 := ⟨k - 1, by simp at hk; omega⟩
 rw [List.append_nil]
 rfl
theorem Wf.cons {d : zo} {D : List zo} {c c2 : List Tok} (h : Fc d c) (h2 : Wf D c2) : Wf (d :: D) (c ++ c2) := fun k S0 D0 hk hl => by
 obtain ⟨⟨ln, c', rfl⟩, h⟩ := h
 obtain ⟨k, rfl⟩ : ∃ x, k = x + 1 := ⟨k - 1, by simp at hk; omega⟩
 show wL (k + 1) S0 D0 (tkn 3 ztc ln :: (c' ++ c2)) = _
 unfold wL
 rw [if_neg (show ¬ zbg 3 [zte] (tkn 3 ztc ln :: (c' ++ c2)) = true from fun h => nomatch (show false = true from h))]
 have := h c2 hl
 have this : zdB (tkn 3 ztc ln :: (c' ++ c2)) = _ := this
 rw [this]
 refine (h2 k S0 (D0 ++ [d]) (by simp at hk; omega) (by simp at hl; omega)).trans ?_
 simp
def Ws (S : List zq) (D : List zo) (c : List Tok) : Prop := ∀ (k : Nat) (S0 : List zq), S.length + D.length < k → c.length ≤ 1000000 → wL k S0 [] c = some (.ok (S0 ++ S, D))
theorem Ws.cons {s : zq} {S : List zq} {D : List zo} {c c2 : List Tok} (h : Sc s c) (h2 : Ws S D c2) : Ws (s :: S) D (c ++ c2) := fun k S0 hk hl => by
 obtain ⟨ln, c', rfl, h⟩ := h
 obtain ⟨k, rfl⟩ : ∃ x, k = x + 1 := ⟨k - 1, by simp at hk; omega⟩
 show wL (k + 1) S0 [] (tkn 3 zte ln :: (c' ++ c2)) = _
 unfold wL
 rw [if_pos (by rfl), h c2]
 refine (h2 k (S0 ++ [s]) (by simp at hk; omega) (by simp at hl; omega)).trans ?_
 simp
def Pp (l : List zbu) (i : Nat) (c : List Tok) : Prop := (∀ ln r, ∃ s ln' c', c ++ tkn 4 zs4 ln :: r = tkn 4 s ln' :: c' ∧ (s = ztt ∨ s = zs4)) ∧ ∀ (lf : Int) (nm : BA) (n : Nat) (ln : Int) (r : List Tok), l.length - i < n → pL lf nm n (l.take i) (c ++ tkn 4 zs4 ln :: r) = k9 lf nm l r
theorem zs0 {rec164 : List Tok → Int → Int → Bool → List zq → List zo → Int → Option (List Tok × zB × Bool)} {d : zo} {x y ln m : Int} {S : List zq} {D : List zo} (hs : d.Params.length ≤ 2000) : ∀ (n i : Nat) (L : List Tok) (b : Bool), 1 ≤ i → i ≤ d.Params.length → d.Params.length - i < n → L.length + 6 * (d.Params.length - i) ≤ 700000000 →
  ∃ c b' k, zcY rec164 x y d n L ln m b S D (i : Int) = zcY rec164 x y d (k + 1) (L ++ c) ln m b' S D (d.Params.length : Int) ∧ c.length ≤ 6 * (d.Params.length - i) ∧ (b' = false → b = false ∧ Pp d.Params i c) := by
 intro n
 induction n with
 | zero => intro i L b _ _ h; omega
 | succ n ih =>
  intro i L b h1 hi hn hL
  by_cases h : i < d.Params.length
  ·obtain ⟨b1, e1, g1⟩ := zcz ⟨L ++ [tkn 4 ztt ln], ln, m, b⟩ d.Params[i].Name (by simp; omega)
   obtain ⟨ct, b2, e2, l2, g2⟩ := ziI ⟨L ++ [tkn 4 ztt ln] ++ [tkn 1 d.Params[i].Name ln], ln, m, b1⟩ d.Params[i].Type_ (by simp; omega)
   obtain ⟨c, b3, k, e3, l3, g3⟩ := ih (i + 1) (L ++ [tkn 4 ztt ln] ++ [tkn 1 d.Params[i].Name ln] ++ ct) b2 (by omega) (by omega) (by omega) (by simp; omega)
   refine ⟨tkn 4 ztt ln :: tkn 1 d.Params[i].Name ln :: (ct ++ c), b3, k, ?_, by simp; omega, fun h0 => ?_⟩
   ·show zev (zcY rec164 x y d n) rec164 x y d L ln m b S D (i : Int) = _
    unfold zev zf0
    rw [if_pos (zJ (by omega)), if_pos (zJ (by omega)), zbJ (by show L.length ≤ _; omega), Option.bind_some, zbv h, Option.bind_some, e1, Option.bind_some, Option.bind_some, e2, Option.bind_some, zbq (by omega)]
    refine e3.trans ?_
    simp
   obtain ⟨h2, h3, h4⟩ := g3 h0
   obtain ⟨h5, h6⟩ := g2 h2
   refine ⟨g1 h5, fun ln2 r => ⟨_, _, _, rfl, .inl rfl⟩, fun lf nm k ln2 r hk => ?_⟩
   obtain ⟨k, rfl⟩ : ∃ x, k = x + 1 := ⟨k - 1, by omega⟩
   show bd zdD (fun p => pL lf nm k (d.Params.take i ++ [p])) (tkn 1 d.Params[i].Name ln :: ((ct ++ c) ++ tkn 4 zs4 ln2 :: r)) = _
   have hp : zdD (tkn 1 d.Params[i].Name ln :: ((ct ++ c) ++ tkn 4 zs4 ln2 :: r)) = some (.ok (d.Params[i], c ++ tkn 4 zs4 ln2 :: r)) := by
    show bd (zcN true) (fun t => pu (⟨d.Params[i].Name, t⟩ : zbu)) ((ct ++ c) ++ tkn 4 zs4 ln2 :: r) = _
    rw [List.append_assoc, zbz (h6 true _)]
    rfl
   rw [zbz hp]
   have := h4 lf nm k ln2 r (by omega)
   rwa [List.take_add_one, List.getElem?_eq_getElem h] at this
  ·have hii : i = d.Params.length := by omega
   refine ⟨[], b, n, by rw [List.append_nil, hii], by simp, fun h0 => ⟨h0, fun ln2 r => ⟨_, _, _, rfl, .inr rfl⟩, fun lf nm k ln2 r hk => ?_⟩⟩
   obtain ⟨k, rfl⟩ : ∃ x, k = x + 1 := ⟨k - 1, by omega⟩
   rw [List.take_of_length_le (by omega)]
   rfl
theorem znm {lf : Int} {nm : BA} {ps : List zbu} {t : zR} {l : List Stm} {ct cb r : List Tok} (h : ∀ r, zcN false (ct ++ (cb ++ r)) = some (.ok (t, cb ++ r))) (hb : Bk l cb) (hl : (cb ++ r).length ≤ 1000000) : k9 lf nm ps (ct ++ (cb ++ r)) = some (.ok (⟨nm, lf, ps, t, l⟩, r)) := by
 unfold k9
 rw [zbz (h r), zbz (zrk hb hl)]
 rfl
theorem zq1 {l : List Stm} {cb r : List Tok} (hb : Bk l cb) : zcN false (cb ++ r) = some (.ok (⟨0, 0, zs3⟩, cb ++ r)) := by
 obtain ⟨⟨ln, c', rfl⟩, _⟩ := hb
 rfl
theorem znp {rec170 : List Tok → Int → Int → Bool → List zq → List zo → Int → Option (List Tok × zB × Bool)} {rec164 : List Tok → Int → Int → Bool → List zq → List zo → Int → Option (List Tok × zB × Bool)} {d : zo} {x y : Int} {j : Nat} (hy : y = (j : Int)) (hj : j ≤ 2000) {q : LY} {S : List zq} {D : List zo} (hd : zw d.Body ≤ 20000) (hx : 0 ≤ x ∧ x ≤ 600000000) (hq : QQ q (20 * zw d.Body + 11)) (hD : D.length ≤ 2000) :
  ∃ (ct cb : List Tok) (b' : Bool) (ln' : Int) (l : List Stm), zev rec170 rec164 x y d q.L q.Line q.More q.Failed S D (d.Params.length : Int) = rec164 (q.L ++ tkn 4 zs4 q.Line :: (ct ++ cb)) ln' q.More b' S (D ++ [⟨d.Name, x + 1, d.Params, d.Result, l⟩]) ((j + 1 : Nat) : Int) ∧ (ct ++ cb).length ≤ 20 * zw d.Body + 6 ∧ q.Line ≤ ln' ∧ ln' ≤ q.Line + (20 * zw d.Body + 2 : Nat) ∧ (b' = false → q.Failed = false ∧ Bk l cb ∧ ∀ r, zcN false (ct ++ (cb ++ r)) = some (.ok (d.Result, cb ++ r))) := by
 obtain ⟨⟨hq1, hq2, hq3⟩, hq4, hq5⟩ := hq
 unfold zev zhW
 rw [if_neg (by simp), zbJ (by show q.L.length ≤ _; omega), Option.bind_some, kb (k := d.Result.Kind) 0 (i := 0) rfl, zcR, zce (x := x + 1) (by omega), hy]
 by_cases hr : d.Result = ⟨0, 0, zs3⟩
 ·rw [hr, if_neg (by simp)]
  obtain ⟨l, c, b, ln, he, h1, h2, h3, h4⟩ := zm4 hd (q := ⟨q.L ++ [tkn 4 zs4 q.Line], q.Line, q.More, q.Failed⟩) ⟨⟨by simp; omega, hq2, hq3⟩, hq4, by show q.Line + _ ≤ _; omega⟩
  dsimp only at h1 h2 he ⊢
  rw [he, Option.bind_some, zcT (by omega), Option.bind_some, zbq (by omega)]
  exact ⟨[], c, b, ln, l, by simp, by simp; omega, h1, h2, fun h0 => ⟨(h4 h0).1, (h4 h0).2, fun r => (by rw [List.nil_append]; exact zq1 (h4 h0).2)⟩⟩
 ·rw [if_pos (by
   rw [Bool.not_eq_true']
   cases hc : (decide (d.Result.Kind = 0) && (d.Result.N == 0 && (decide (d.Result.Name = zs3) && true))) with
   | false => rfl
   | true =>
    simp only [Bool.and_eq_true, decide_eq_true_eq, beq_iff_eq, and_true] at hc
    exact absurd (show d.Result = ⟨0, 0, zs3⟩ by rw [← hc.1, ← hc.2.1, ← hc.2.2]) hr)]
  obtain ⟨ct, b1, e1, l1, g1⟩ := ziI ⟨q.L ++ [tkn 4 zs4 q.Line], q.Line, q.More, q.Failed⟩ d.Result (by simp; omega)
  rw [e1, Option.bind_some]
  obtain ⟨l, c, b, ln, he, h1, h2, h3, h4⟩ := zm4 hd (q := ⟨q.L ++ [tkn 4 zs4 q.Line] ++ ct, q.Line, q.More, b1⟩) ⟨⟨by simp; omega, hq2, hq3⟩, hq4, by show q.Line + _ ≤ _; omega⟩
  dsimp only at h1 h2 he ⊢
  rw [he, Option.bind_some, zcT (by omega), Option.bind_some, zbq (by omega)]
  refine ⟨ct, c, b, ln, l, by simp, by simp; omega, h1, h2, fun h0 => ?_⟩
  obtain ⟨h5, h6⟩ := h4 h0
  obtain ⟨h7, h8⟩ := g1 h5
  exact ⟨h7, h6, fun r => h8 false _⟩
def zb7 : List zo → Nat
 | [] => 0
 | d :: l => 1 + d.Params.length + zw d.Body + zb7 l
def zcB : List zq → Nat
 | [] => 0
 | s :: l => 1 + s.Fields.length + zcB l
theorem zjb : ∀ l : List zo, l.length ≤ zb7 l
 | [] => Nat.le_refl _
 | d :: l => by have := zjb l; simp [zb7]; omega
theorem zqz {l : List zo} {d : zo} (h : d ∈ l) : 1 + d.Params.length + zw d.Body ≤ zb7 l := by
 induction l with
 | nil => cases h
 | cons e l ih =>
  rcases List.mem_cons.1 h with rfl | h
  ·simp [zb7]
  ·have := ih h
   simp [zb7]
   omega
theorem zkW : ∀ l : List zq, l.length ≤ zcB l
 | [] => Nat.le_refl _
 | d :: l => by have := zkW l; simp [zcB]; omega
theorem zsQ {rec164 : List Tok → Int → Int → Bool → List zq → List zo → Int → Option (List Tok × zB × Bool)} {d : zo} {x : Int} {j : Nat} (hj : j ≤ 2000) {q : LY} {S : List zq} {D : List zo} (hd : 1 + d.Params.length + zw d.Body ≤ 2000) (hx : q.Line = x) (hq : QQ q (20 * (1 + d.Params.length + zw d.Body) + 20)) (hD : D.length ≤ 2000) :
  ∃ (c : List Tok) (b' : Bool) (ln' : Int) (d' : zo), ((zbf ⟨q.L, IntKind.i64.wrap (x + 1), q.More, q.Failed⟩ 3 [ztc]).bind fun c5275 => (zcv c5275 d.Name).bind fun c5284 => (zbf c5284 4 [zs5]).bind fun c5299 => zcY rec164 x (j : Int) d big c5299.L c5299.Line c5299.More c5299.Failed S D 0) =
   rec164 (q.L ++ c) ln' q.More b' S (D ++ [d']) ((j + 1 : Nat) : Int) ∧ c.length ≤ 20 * (1 + d.Params.length + zw d.Body) ∧ q.Line ≤ ln' ∧ ln' ≤ q.Line + (20 * (1 + d.Params.length + zw d.Body) : Nat) ∧ (b' = false → q.Failed = false ∧ Fc d' c) := by
 subst hx
 obtain ⟨⟨hq1, hq2, hq3⟩, hq4, hq5⟩ := hq
 rw [zce (x := q.Line + 1) (by omega), zcL (by show q.L.length ≤ _; omega), Option.bind_some]
 obtain ⟨b1, e1, g1⟩ := zcz ⟨q.L ++ [tkn 3 ztc (q.Line + 1)], q.Line + 1, q.More, q.Failed⟩ d.Name (by simp; omega)
 rw [e1, Option.bind_some, zbJ (by simp; omega), Option.bind_some]
 obtain ⟨J, hJ, hJ2⟩ := zkt
 dsimp only
 cases hP : d.Params with
 | nil =>
  rw [hP] at hq1 hq5 hd
  obtain ⟨ct, cb, b2, ln2, l, e2, l2, k1, k2, g2⟩ := znp (rec170 := zcY rec164 q.Line (j : Int) d J) (rec164 := rec164) (d := d) (x := q.Line) (y := (j : Int)) rfl hj (q := ⟨q.L ++ [tkn 3 ztc (q.Line + 1)] ++ [tkn 1 d.Name (q.Line + 1)] ++ [tkn 4 zs5 (q.Line + 1)], q.Line + 1, q.More, b1⟩) (S := S) (D := D) (by omega) (by omega) ⟨⟨by simp at hq1 ⊢; omega, hq2, hq3⟩, by show 0 ≤ q.Line + 1; omega, by show q.Line + 1 + _ ≤ _; omega⟩ hD
  rw [hP] at e2
  dsimp only at k1 k2
  rw [hJ]
  refine ⟨tkn 3 ztc (q.Line + 1) :: tkn 1 d.Name (q.Line + 1) :: tkn 4 zs5 (q.Line + 1) :: tkn 4 zs4 (q.Line + 1) :: (ct ++ cb), b2, ln2, _, Eq.trans e2 (by simp; rfl), by simp at l2 ⊢; omega, by omega, by omega, fun h0 => ?_⟩
  obtain ⟨h1, h2, h3⟩ := g2 h0
  refine ⟨g1 h1, ⟨_, _, rfl⟩, fun r hr => ?_⟩
  show k9 (q.Line + 1) d.Name [] ((ct ++ cb) ++ r) = _
  rw [List.append_assoc]
  exact znm h3 h2 (by simp at hr ⊢; omega)
 | cons p ps =>
  rw [hP] at hq1 hq5 hd
  simp only [List.length_cons] at hq1 hq5 hd ⊢
  obtain ⟨b2, e2, g2⟩ := zcz ⟨q.L ++ [tkn 3 ztc (q.Line + 1)] ++ [tkn 1 d.Name (q.Line + 1)] ++ [tkn 4 zs5 (q.Line + 1)], q.Line + 1, q.More, b1⟩ p.Name (by simp; omega)
  obtain ⟨ct, b3, e3, l3, g3⟩ := ziI ⟨q.L ++ [tkn 3 ztc (q.Line + 1)] ++ [tkn 1 d.Name (q.Line + 1)] ++ [tkn 4 zs5 (q.Line + 1)] ++ [tkn 1 p.Name (q.Line + 1)], q.Line + 1, q.More, b2⟩ p.Type_ (by simp; omega)
  obtain ⟨c4, b4, k, e4, l4, g4⟩ := zs0 (rec164 := rec164) (d := d) (x := q.Line) (y := (j : Int)) (ln := q.Line + 1) (m := q.More) (S := S) (D := D) (by rw [hP]; simp; omega) J 1 (q.L ++ [tkn 3 ztc (q.Line + 1)] ++ [tkn 1 d.Name (q.Line + 1)] ++ [tkn 4 zs5 (q.Line + 1)] ++ [tkn 1 p.Name (q.Line + 1)] ++ ct) b3 (Nat.le_refl _) (by rw [hP]; simp) (by rw [hP]; simp; omega) (by rw [hP]; simp; omega)
  rw [hP] at l4 g4
  simp only [List.length_cons] at l4
  obtain ⟨ct2, cb, b5, ln5, l, e5, l5, k1, k2, g5⟩ := znp (rec170 := zcY rec164 q.Line (j : Int) d k) (rec164 := rec164) (d := d) (x := q.Line) (y := (j : Int)) rfl hj (q := ⟨q.L ++ [tkn 3 ztc (q.Line + 1)] ++ [tkn 1 d.Name (q.Line + 1)] ++ [tkn 4 zs5 (q.Line + 1)] ++ [tkn 1 p.Name (q.Line + 1)] ++ ct ++ c4, q.Line + 1, q.More, b4⟩) (S := S) (D := D) (by omega) (by omega) ⟨⟨by simp; omega, hq2, hq3⟩, by show 0 ≤ q.Line + 1; omega, by show q.Line + 1 + _ ≤ _; omega⟩ hD
  dsimp only at k1 k2
  have run : zcY rec164 q.Line (j : Int) d big (q.L ++ [tkn 3 ztc (q.Line + 1)] ++ [tkn 1 d.Name (q.Line + 1)] ++ [tkn 4 zs5 (q.Line + 1)]) (q.Line + 1) q.More b1 S D 0 = zcY rec164 q.Line (j : Int) d J (q.L ++ [tkn 3 ztc (q.Line + 1)] ++ [tkn 1 d.Name (q.Line + 1)] ++ [tkn 4 zs5 (q.Line + 1)] ++ [tkn 1 p.Name (q.Line + 1)] ++ ct) (q.Line + 1) q.More b3 S D ((1 : Nat) : Int) := by
   rw [hJ]
   show zev (zcY rec164 q.Line (j : Int) d J) rec164 q.Line (j : Int) d _ _ _ _ S D 0 = _
   unfold zev zf0
   have hg : zv d.Params 0 = some p := by rw [hP]; rfl
   rw [if_pos (zJ (by rw [hP]; simp)), if_neg (by simp), hg, Option.bind_some, e2, Option.bind_some, Option.bind_some, e3, Option.bind_some]
   rfl
  refine ⟨tkn 3 ztc (q.Line + 1) :: tkn 1 d.Name (q.Line + 1) :: tkn 4 zs5 (q.Line + 1) :: tkn 1 p.Name (q.Line + 1) :: (ct ++ (c4 ++ tkn 4 zs4 (q.Line + 1) :: (ct2 ++ cb))), b5, ln5, ⟨d.Name, q.Line + 1, d.Params, d.Result, l⟩, ?_, by simp at l5 ⊢; omega, by omega, by omega, fun h0 => ?_⟩
  ·refine Eq.trans run (e4.trans (Eq.trans e5 ?_))
   simp
  obtain ⟨h1, h2, h3⟩ := g5 h0
  obtain ⟨h4, h5, h6⟩ := g4 h1
  obtain ⟨h7, h8⟩ := g3 h4
  refine ⟨g1 (g2 h7), ⟨_, _, rfl⟩, fun r hr => ?_⟩
  show bd zdD (fun p => pL (q.Line + 1) d.Name big [p]) (tkn 1 p.Name (q.Line + 1) :: ((ct ++ (c4 ++ tkn 4 zs4 (q.Line + 1) :: (ct2 ++ cb))) ++ r)) = _
  have hp : zdD (tkn 1 p.Name (q.Line + 1) :: ((ct ++ (c4 ++ tkn 4 zs4 (q.Line + 1) :: (ct2 ++ cb))) ++ r)) = some (.ok (p, c4 ++ tkn 4 zs4 (q.Line + 1) :: (ct2 ++ (cb ++ r)))) := by
   show bd (zcN true) (fun t => pu (⟨p.Name, t⟩ : zbu)) ((ct ++ (c4 ++ tkn 4 zs4 (q.Line + 1) :: (ct2 ++ cb))) ++ r) = _
   rw [List.append_assoc, zbz (h8 true _)]
   simp
   rfl
  rw [zbz hp]
  have := h6 (q.Line + 1) d.Name big (q.Line + 1) (ct2 ++ (cb ++ r)) (by rw [List.length_cons]; exact z7 (by omega))
  refine Eq.trans this ?_
  rw [hP]
  exact znm h3 h2 (by simp at hr ⊢; omega)
end Go.Proofs.Ytnhboaaikehpoaa
