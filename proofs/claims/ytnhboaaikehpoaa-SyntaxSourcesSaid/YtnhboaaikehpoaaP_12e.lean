import Derived.Test.YtnhboaaikehpoaaP_12d
import Derived.KernelRfl
namespace Go.Proofs.Ytnhboaaikehpoaa
open Go.Ab Go.RowKit
set_option linter.unusedVariables false
set_option linter.unusedSimpArgs false
mutual
def szE : zb → Nat
 | ⟨_, _, _, _, _, ks⟩ => 1 + z5 ks
def z5 : List zb → Nat
 | [] => 0
 | e :: l => szE e + z5 l
end
mutual
def szS : Stm → Nat
 | ⟨_, _, _, _, _, _, ks, b, e⟩ => 1 + z5 ks + zL b + zL e
def zL : List Stm → Nat
 | [] => 0
 | e :: l => szS e + zL l
end
mutual
def dE : zb → Nat
 | ⟨_, _, _, _, _, ks⟩ => 1 + dEs ks
def dEs : List zb → Nat
 | [] => 0
 | e :: l => max (dE e) (dEs l)
end
theorem zgh (e : zb) : szE e = 1 + z5 e.Kids := by cases e; rfl
theorem zkS (e : zb) : dE e = 1 + dEs e.Kids := by cases e; rfl
theorem zcI (s : Stm) : szS s = 1 + z5 s.Kids + zL s.Body + zL s.Else := by cases s; rfl
mutual
theorem zjC : ∀ e : zb, dE e ≤ szE e
 | ⟨_, _, _, _, _, ks⟩ => by
  have := zl4 ks
  show 1 + dEs ks ≤ 1 + z5 ks
  omega
theorem zl4 : ∀ l : List zb, dEs l ≤ z5 l
 | [] => Nat.le_refl _
 | e :: l => by
  have := zjC e
  have := zl4 l
  show max (dE e) (dEs l) ≤ szE e + z5 l
  omega
end
theorem zjQ (e : zb) : 1 ≤ szE e := by rw [zgh]; omega
theorem zqV (e : Stm) : 1 ≤ szS e := by rw [zcI]; omega
theorem zdv : ∀ l : List zb, l.length ≤ z5 l
 | [] => Nat.le_refl _
 | e :: l => by
  have := zdv l
  have := zjQ e
  show l.length + 1 ≤ szE e + z5 l
  omega
theorem zew : ∀ l : List Stm, l.length ≤ zL l
 | [] => Nat.le_refl _
 | e :: l => by
  have := zew l
  have := zqV e
  show l.length + 1 ≤ szS e + zL l
  omega
theorem zek {l : List zb} {x : zb} (h : x ∈ l) : szE x ≤ z5 l := by
 induction l with
 | nil => cases h
 | cons e l ih =>
  show szE x ≤ szE e + z5 l
  cases h with
  | head => omega
  | tail _ h => have := ih h; omega
theorem zfm {l : List Stm} {x : Stm} (h : x ∈ l) : szS x ≤ zL l := by
 induction l with
 | nil => cases h
 | cons e l ih =>
  show szS x ≤ szS e + zL l
  cases h with
  | head => omega
  | tail _ h => have := ih h; omega
theorem ziK (a b : Nat) : zcU (a : Int) (b : Int) = ((max a b : Nat) : Int) := by
 unfold zcU
 split <;> omega
theorem zlw (l : List Stm) (s : Stm) : zL (l ++ [s]) = zL l + szS s := by
 induction l with
 | nil => show szS s + 0 = 0 + szS s; omega
 | cons e y ih =>
  show szS e + zL (y ++ [s]) = szS e + zL y + szS s
  omega
theorem zn1 (l : List zb) (s : zb) : z5 (l ++ [s]) = z5 l + szE s := by
 induction l with
 | nil => show szE s + 0 = 0 + szE s; omega
 | cons e y ih =>
  show szE e + z5 (y ++ [s]) = szE e + z5 y + szE s
  omega
theorem zom {R : zb → Option Int} {e : zb} (hR : ∀ x ∈ e.Kids, R x = some ((dE x : Nat) : Int)) (hl : szE e ≤ 1000000000) : ∀ (n k m : Nat), k ≤ e.Kids.length → e.Kids.length - k < n → m ≤ 1000000000 → zfE R e n (m : Int) (k : Int) = some ((max m (dEs (e.Kids.drop k)) + 1 : Nat) : Int) := by
 have hk := zgh e
 have hs := zdv e.Kids
 intro n
 induction n with
 | zero => intro k m _ h; omega
 | succ n ih =>
  intro k m hkl hn hm
  show zgT (zfE R e n) R e (m : Int) (k : Int) = _
  unfold zgT
  by_cases h : k < e.Kids.length
  ·have h1 := zek (List.getElem_mem h)
   have h2 := zjC e.Kids[k]
   rw [if_pos (zbe (by omega)), zbL h, Option.bind_some, hR _ (List.getElem_mem h), Option.bind_some, zbN (by omega), ziK, ih (k + 1) _ (by omega) (by omega) (by omega), List.drop_eq_getElem_cons h]
   show _ = some ((max m (max (dE e.Kids[k]) (dEs (e.Kids.drop (k + 1)))) + 1 : Nat) : Int)
   rw [Nat.max_assoc]
  ·rw [if_neg (by simp; omega), List.drop_of_length_le (by omega), zbN (by omega)]
   show _ = some ((max m 0 + 1 : Nat) : Int)
   rw [Nat.max_zero]
theorem zml : ∀ (n : Nat) (e : zb), szE e ≤ n → szE e ≤ 1000000000 → zd4 n e = some ((dE e : Nat) : Int)
 | 0, e, h, _ => by have := zjQ e; omega
 | n + 1, e, h, hl => by
  have hk := zgh e
  have hs := zdv e.Kids
  show zfE (zd4 n) e big 0 0 = _
  have := zom (R := zd4 n) (e := e) (fun x hx => zml n x (by have := zek hx; omega) (by have := zek hx; omega)) hl big 0 0 (by omega) (zbC (by omega)) (by omega)
  refine this.trans ?_
  rw [zkS, Nat.zero_max, Nat.add_comm]
  rfl
theorem zoa {e : zb} (h : szE e ≤ 1000000000) : zjc e = some ((dE e : Nat) : Int) := zml big e (Nat.le_of_lt (zbC (by omega))) h
theorem znX {R : zb → Option Int} {e : zb} (hR : ∀ x ∈ e.Kids, R x = some ((dE x : Nat) : Int)) (hl : szE e ≤ 1000000000) : ∀ (n k m : Nat), k ≤ e.Kids.length → e.Kids.length - k < n → m ≤ 1000000000 → zfo R e n (m : Int) (k : Int) = some ((max m (dEs (e.Kids.drop k)) + 1 : Nat) : Int) := by
 have hk := zgh e
 have hs := zdv e.Kids
 intro n
 induction n with
 | zero => intro k m _ h; omega
 | succ n ih =>
  intro k m hkl hn hm
  show zhB (zfo R e n) R e (m : Int) (k : Int) = _
  unfold zhB
  by_cases h : k < e.Kids.length
  ·have h1 := zek (List.getElem_mem h)
   have h2 := zjC e.Kids[k]
   rw [if_pos (zbe (by omega)), zbL h, Option.bind_some, hR _ (List.getElem_mem h), Option.bind_some, zbN (by omega), ziK, ih (k + 1) _ (by omega) (by omega) (by omega), List.drop_eq_getElem_cons h]
   show _ = some ((max m (max (dE e.Kids[k]) (dEs (e.Kids.drop (k + 1)))) + 1 : Nat) : Int)
   rw [Nat.max_assoc]
  ·rw [if_neg (by simp; omega), List.drop_of_length_le (by omega), zbN (by omega)]
   show _ = some ((max m 0 + 1 : Nat) : Int)
   rw [Nat.max_zero]
theorem zlq : ∀ (n : Nat) (e : zb), szE e ≤ n → szE e ≤ 1000000000 → zdP n e = some ((dE e : Nat) : Int)
 | 0, e, h, _ => by have := zjQ e; omega
 | n + 1, e, h, hl => by
  have hk := zgh e
  have hs := zdv e.Kids
  show zfo (zdP n) e big 0 0 = _
  have := znX (R := zdP n) (e := e) (fun x hx => zlq n x (by have := zek hx; omega) (by have := zek hx; omega)) hl big 0 0 (by omega) (zbC (by omega)) (by omega)
  refine this.trans ?_
  rw [zkS, Nat.zero_max, Nat.add_comm]
  rfl
theorem znT {e : zb} (h : szE e ≤ 1000000000) : zjK e = some ((dE e : Nat) : Int) := zlq big e (Nat.le_of_lt (zbC (by omega))) h
def dpB : Nat → List Stm → Bool
 | 0, l => l.any fun _ => true
 | q + 1, l => l.any fun s => (s.Kids.any fun x => decide (dE x > 40)) || dpB q s.Body || dpB q s.Else
theorem zpt (l : List zb) (hl : z5 l ≤ 1000000000) : ∀ (n k : Nat), k ≤ l.length → l.length - k < n → ∃ i : Int, ze6 l n (k : Int) = some i ∧ decide (i ≥ 0) = (l.drop k).any fun x => decide (dE x > 40) := by
 have hs := zdv l
 intro n
 induction n with
 | zero => intro k _ h; omega
 | succ n ih =>
  intro k hk hn
  show ∃ i : Int, zhF (ze6 l n) l (k : Int) = some i ∧ _
  unfold zhF
  by_cases h : k < l.length
  ·have h1 := zek (List.getElem_mem h)
   have e1 : zgW l[k] = some (decide (dE l[k] > 40)) := by
    unfold zgW
    rw [zoa (by omega), Option.bind_some]
    congr 1
    rw [Bool.eq_iff_iff]
    simp only [decide_eq_true_eq]
    omega
   rw [if_pos (zbe (by omega)), zbL h, Option.bind_some, e1, Option.bind_some, List.drop_eq_getElem_cons h, List.any_cons]
   cases hd : decide (dE l[k] > 40) with
   | true => exact ⟨(k : Int), if_pos rfl, zbe (by omega)⟩
   | false =>
    rw [if_neg (by simp), zbN (by omega), Bool.false_or]
    exact ih (k + 1) (by omega) (by omega)
  ·rw [if_neg (by simp; omega), List.drop_of_length_le (by omega)]
   exact ⟨-1, rfl, rfl⟩
theorem zpi (l : List zb) (hl : z5 l ≤ 1000000000) : zhL l = some (l.any fun x => decide (dE x > 40)) := by
 have hs := zdv l
 unfold zhL ziP
 obtain ⟨i, h1, h2⟩ := zpt l hl big 0 (by omega) (zbC (by omega))
 have h1 : ze6 l big 0 = some i := h1
 rw [h1, Option.bind_some, h2]
 rfl
theorem znm {R : List Stm → Int → Option Bool} {q : Nat} (hq : q ≤ 1000) {s : Stm} (hs : szS s ≤ 1000000000) (h : ∀ q' l, q = q' + 1 → zL l < szS s → R l ((q' : Nat) : Int) = some (dpB q' l)) : zhr R s (q : Int) = some (match q with
  | 0 => true
  | q' + 1 => (s.Kids.any fun x => decide (dE x > 40)) || dpB q' s.Body || dpB q' s.Else) := by
 have hz := zcI s
 unfold zhr
 cases q with
 | zero => rfl
 | succ q =>
  have e0 : IntKind.i64.wrap (((q + 1 : Nat) : Int) - 1) = (q : Int) := by rw [zev (by omega)]; omega
  rw [if_neg (by simp; omega), zpi _ (by omega), e0, h q s.Body rfl (by omega), h q s.Else rfl (by omega)]
  simp only [Option.bind_some]
  cases s.Kids.any fun x => decide (dE x > 40) <;> cases dpB q s.Body <;> rfl
theorem zpm {R : List Stm → Int → Option Bool} {q : Nat} (hq : q ≤ 1000) {l : List Stm} (hl : zL l ≤ 1000000000) (hR : ∀ q' s x, s ∈ l → q = q' + 1 → zL x < szS s → R x ((q' : Nat) : Int) = some (dpB q' x)) : ∀ (n k : Nat), k ≤ l.length → l.length - k < n → ∃ i : Int, zfl R l (q : Int) n (k : Int) = some i ∧ decide (i ≥ 0) = dpB q (l.drop k) := by
 have hs := zew l
 intro n
 induction n with
 | zero => intro k _ h; omega
 | succ n ih =>
  intro k hk hn
  show ∃ i : Int, zgO (zfl R l (q : Int) n) R l (q : Int) (k : Int) = some i ∧ _
  unfold zgO
  by_cases h : k < l.length
  ·have h1 := zfm (List.getElem_mem h)
   have e1 := znm (R := R) hq (s := l[k]) (by omega) fun q' x e hx => hR q' _ x (List.getElem_mem h) e hx
   have ih' := ih (k + 1) (by omega) (by omega)
   rw [if_pos (zbe (by omega)), zbL h, Option.bind_some, e1, Option.bind_some, List.drop_eq_getElem_cons h, zbN (by omega)]
   cases q with
   | zero => exact ⟨(k : Int), if_pos rfl, zbe (by omega)⟩
   | succ q =>
    rw [show dpB (q + 1) (l[k] :: l.drop (k + 1)) = (((l[k].Kids.any fun x => decide (dE x > 40)) || dpB q l[k].Body || dpB q l[k].Else) || dpB (q + 1) (l.drop (k + 1))) from rfl]
    dsimp only
    by_cases hd : ((l[k].Kids.any fun x => decide (dE x > 40)) || dpB q l[k].Body || dpB q l[k].Else) = true
    ·exact ⟨(k : Int), if_pos hd, by rw [hd]; exact zbe (by omega)⟩
    ·obtain ⟨i, i1, i2⟩ := ih'
     exact ⟨i, (if_neg hd).trans i1, by rw [Bool.eq_false_iff.2 hd, Bool.false_or]; exact i2⟩
  ·rw [if_neg (by simp; omega), List.drop_of_length_le (by omega)]
   exact ⟨-1, rfl, by cases q <;> rfl⟩
theorem zl2 : ∀ (n q : Nat) (l : List Stm), zL l < n → zL l ≤ 1000000000 → q ≤ 1000 → zc3 n l (q : Int) = some (dpB q l)
 | 0, q, l, h, _, _ => by omega
 | n + 1, q, l, h, hl, hq => by
  have hs := zew l
  show ((zhl (zc3 n) l (q : Int)).bind fun c => some c) = _
  unfold zhl ziY
  obtain ⟨i, h1, h2⟩ := zpm (R := zc3 n) hq hl (fun q' s x hm e hx => by have := zfm hm; exact zl2 n q' x (by omega) (by omega) (by omega)) big 0 (by omega) (zbC (by omega))
  have h1 : zfl (zc3 n) l (q : Int) big 0 = some i := h1
  rw [h1, Option.bind_some, Option.bind_some, h2]
  rfl
theorem zqf {l : List Stm} (hl : zL l ≤ 1000000000) : zkm l 40 = some (dpB 40 l) := zl2 big 40 l (zbC (by omega)) hl (by omega)
def zfn (D : List zo) : Bool := D.any fun d => dpB 40 d.Body
theorem zqu {D : List zo} (hl : D.length ≤ 1000000) (hD : ∀ d ∈ D, zL d.Body ≤ 1000000000) : ∀ (n k : Nat), k ≤ D.length → D.length - k < n → ∃ i : Int, zfp D n (k : Int) = some i ∧ decide (i ≥ 0) = zfn (D.drop k) := by
 intro n
 induction n with
 | zero => intro k _ h; omega
 | succ n ih =>
  intro k hk hn
  show ∃ i : Int, zhp (zfp D n) D (k : Int) = some i ∧ _
  unfold zhp ziI
  by_cases h : k < D.length
  ·have ih' := ih (k + 1) (by omega) (by omega)
   rw [if_pos (zbe (by omega)), zbL h, Option.bind_some, zqf (hD _ (List.getElem_mem h)), Option.bind_some, Option.bind_some, List.drop_eq_getElem_cons h, zbN (by omega)]
   unfold zfn at ih' ⊢
   rw [List.any_cons]
   cases hd : dpB 40 D[k].Body with
   | true => exact ⟨(k : Int), if_pos rfl, zbe (by omega)⟩
   | false =>
    rw [if_neg (by simp), Bool.false_or]
    exact ih'
  ·rw [if_neg (by simp; omega), List.drop_of_length_le (by omega)]
   exact ⟨-1, rfl, rfl⟩
theorem zpy {D : List zo} (hl : D.length ≤ 1000000) (hD : ∀ d ∈ D, zL d.Body ≤ 1000000000) : zfT D = some (zfn D) := by
 unfold zfT ziR
 obtain ⟨i, h1, h2⟩ := zqu hl hD big 0 (by omega) (zbC (by omega))
 have h1 : zfp D big 0 = some i := h1
 rw [h1, Option.bind_some, h2]
 rfl
def Dp (l : List Stm) (v : Nat) : Prop := v ≤ 41 + zL l ∧ ∀ q, q ≤ 40 → (q < v ↔ dpB q l = true)
theorem zoI (q : Nat) (l l' : List Stm) : dpB q (l ++ l') = (dpB q l || dpB q l') := by
 cases q with
 | zero => exact List.any_append
 | succ q => exact List.any_append
theorem zq5 {rec14 : Int → Int → Option Int} {l : List Stm} {j a b c : Nat} (hj : j < l.length) (hl : zL l ≤ 1000000000) (hb : b ≤ 2000000000) (hc : c ≤ 2000000000) : ∀ (n k : Nat), k ≤ l[j].Kids.length → l[j].Kids.length - k < n → zeZ rec14 l (a : Int) (j : Int) (b : Int) (c : Int) n (k : Int) = if ((l[j].Kids.drop k).any fun x => decide (dE x > 40)) = true then some 41 else rec14 ((max (max a (1 + b)) (1 + c) : Nat) : Int) ((j + 1 : Nat) : Int) := by
 have h0 := zfm (List.getElem_mem hj)
 have hz := zcI l[j]
 have hs := zdv l[j].Kids
 have hs' := zew l
 intro n
 induction n with
 | zero => intro k _ h; omega
 | succ n ih =>
  intro k hk hn
  show zhZ (zeZ rec14 l (a : Int) (j : Int) (b : Int) (c : Int) n) rec14 l (a : Int) (j : Int) (b : Int) (c : Int) (k : Int) = _
  unfold zhZ
  rw [zbL hj, Option.bind_some, Option.bind_some]
  by_cases h : k < l[j].Kids.length
  ·have h1 := zek (List.getElem_mem h)
   rw [if_pos (zbe (by omega)), zbL h, Option.bind_some, znT (by omega), Option.bind_some, List.drop_eq_getElem_cons h, List.any_cons]
   by_cases hd : dE l[j].Kids[k] > 40
   ·rw [if_pos (zbe (by omega)), zbe hd]
    rfl
   ·rw [if_neg (by simp; omega), zdC hd, Bool.false_or, zbN (by omega)]
    exact ih (k + 1) (by omega) (by omega)
  ·rw [if_neg (by simp; omega), List.drop_of_length_le (by omega), zbN (by omega)]
   rw [show IntKind.i64.wrap (1 + (b : Int)) = ((1 + b : Nat) : Int) by rw [zev (by omega)]; omega, show IntKind.i64.wrap (1 + (c : Int)) = ((1 + c : Nat) : Int) by rw [zev (by omega)]; omega, ziK, ziK]
   rfl
theorem zqW {R : List Stm → Option Int} {l : List Stm} (hl : zL l ≤ 1000000000) (hR : ∀ s x, s ∈ l → zL x < szS s → ∃ v : Nat, R x = some ((v : Nat) : Int) ∧ Dp x v) : ∀ (n k a : Nat), k ≤ l.length → l.length - k < n → Dp (l.take k) a → ∃ v : Nat, zdt R l n (a : Int) (k : Int) = some ((v : Nat) : Int) ∧ Dp l v := by
 have hs := zew l
 intro n
 induction n with
 | zero => intro k _ _ h; omega
 | succ n ih =>
  intro k a hk hn ha
  show ∃ v : Nat, zho (zdt R l n) R l (a : Int) (k : Int) = some ((v : Nat) : Int) ∧ _
  unfold zho
  by_cases h : k < l.length
  ·have h0 := zfm (List.getElem_mem h)
   have hz := zcI l[k]
   have hz' := zdv l[k].Kids
   obtain ⟨b, eb, db⟩ := hR l[k] l[k].Body (List.getElem_mem h) (by omega)
   obtain ⟨c, ec, dc⟩ := hR l[k] l[k].Else (List.getElem_mem h) (by omega)
   have hb := db.1
   have hc := dc.1
   rw [if_pos (zbe (by omega)), zbL h, Option.bind_some, Option.bind_some, eb, Option.bind_some, ec, Option.bind_some]
   have e1 := zq5 (rec14 := zdt R l n) (j := k) (a := a) (b := b) (c := c) h hl (by omega) (by omega) big 0 (by omega) (zbC (by omega))
   have e1 : zeZ (zdt R l n) l (a : Int) (k : Int) (b : Int) (c : Int) big 0 = _ := e1
   rw [e1, List.drop_zero]
   by_cases hd : (l[k].Kids.any fun x => decide (dE x > 40)) = true
   ·rw [if_pos hd]
    refine ⟨41, rfl, by omega, fun q hq => ⟨fun _ => ?_, fun _ => by omega⟩⟩
    cases q with
    | zero => exact List.any_eq_true.2 ⟨_, List.getElem_mem h, rfl⟩
    | succ q => exact List.any_eq_true.2 ⟨_, List.getElem_mem h, by rw [hd]; rfl⟩
   ·rw [if_neg hd]
    refine ih (k + 1) _ (by omega) (by omega) ⟨?_, fun q hq => ?_⟩
    ·have ha := ha.1
     have e2 : zL (l.take (k + 1)) = zL (l.take k) + szS l[k] := by
      rw [List.take_succ_eq_append_getElem h]
      exact zlw _ _
     omega
    ·rw [List.take_succ_eq_append_getElem h, zoI, Bool.or_eq_true, ← ha.2 q hq]
     cases q with
     | zero =>
      have : dpB 0 [l[k]] = true := rfl
      simp only [this, or_true, iff_true]
      omega
     | succ q =>
      have e3 : dpB (q + 1) [l[k]] = (dpB q l[k].Body || dpB q l[k].Else) := by
       show ([l[k]].any fun s => (s.Kids.any fun x => decide (dE x > 40)) || dpB q s.Body || dpB q s.Else) = _
       simp only [List.any_cons, List.any_nil, Bool.or_false]
       rw [show (l[k].Kids.any fun x => decide (dE x > 40)) = false by simpa using hd, Bool.false_or]
      rw [e3, Bool.or_eq_true, ← db.2 q (by omega), ← dc.2 q (by omega)]
      omega
  ·rw [if_neg (by simp; omega)]
   rw [List.take_of_length_le (by omega)] at ha
   exact ⟨a, rfl, ha⟩
theorem zmo : ∀ (n : Nat) (l : List Stm), zL l < n → zL l ≤ 1000000000 → ∃ v : Nat, zdH n l = some ((v : Nat) : Int) ∧ Dp l v
 | 0, l, h, _ => by omega
 | n + 1, l, h, hl => by
  have hs := zew l
  exact zqW hl (fun s x hm hx => by have := zfm hm; exact zmo n x (by omega) (by omega)) big 0 0 (by omega) (zbC (by omega)) ⟨by omega, fun q _ => ⟨fun h => by omega, fun h => by cases q <;> cases h⟩⟩
theorem zro {l : List Stm} (hl : zL l ≤ 1000000000) : ∃ v : Nat, zj3 l = some ((v : Nat) : Int) ∧ Dp l v := zmo big l (zbC (by omega)) hl
theorem zn2 {S : List zw} {D : List zo} (hl : D.length ≤ 1000000) (hD : ∀ d ∈ D, zL d.Body ≤ 1000000000) : ∀ (n k : Nat), k ≤ D.length → D.length - k < n → zf5 ⟨S, D⟩ n (k : Int) = some (zfn (D.drop k)) := by
 intro n
 induction n with
 | zero => intro k _ h; omega
 | succ n ih =>
  intro k hk hn
  show zgC (zf5 ⟨S, D⟩ n) ⟨S, D⟩ (k : Int) = _
  unfold zgC
  dsimp only
  by_cases h : k < D.length
  ·obtain ⟨v, ev, dv⟩ := zro (hD _ (List.getElem_mem h))
   have ih' := ih (k + 1) (by omega) (by omega)
   have d40 := dv.2 40 (by omega)
   rw [if_pos (zbe (by omega)), zbL h, Option.bind_some, ev, Option.bind_some, List.drop_eq_getElem_cons h, zbN (by omega)]
   unfold zfn at ih' ⊢
   rw [List.any_cons]
   cases hd : dpB 40 D[k].Body with
   | true =>
    rw [hd] at d40
    rw [if_pos (zbe (by have := d40.2 rfl; omega))]
    rfl
   | false =>
    rw [hd] at d40
    rw [if_neg (by have := mt d40.1 (by simp); simp; omega), Bool.false_or]
    exact ih'
  ·rw [if_neg (by simp; omega), List.drop_of_length_le (by omega)]
   rfl
theorem zoo {S : List zw} {D : List zo} (hl : D.length ≤ 1000000) (hD : ∀ d ∈ D, zL d.Body ≤ 1000000000) : ziN ⟨S, D⟩ = some (zfn D) :=
 zn2 hl hD big 0 (by omega) (zbC (by omega))
end Go.Proofs.Ytnhboaaikehpoaa
