import Derived.Test.YtnhboaaikehpoaaP_12d
import Derived.KernelRfl
namespace Go.Proofs.Ytnhboaaikehpoaa
open Go.Ab Go.RowKit
set_option linter.unusedVariables false
set_option linter.unusedSimpArgs false
mutual
def szE : zb → Nat
 | ⟨_, _, _, _, _, ks⟩ => 1 + z5 ks
def z5 : List zb → Nat
 | [] => 0
 | e :: l => szE e + z5 l
end
mutual
def szS : Stm → Nat
 | ⟨_, _, _, _, _, _, ks, b, e⟩ => 1 + z5 ks + zK b + zK e
def zK : List Stm → Nat
 | [] => 0
 | e :: l => szS e + zK l
end
mutual
def dE : zb → Nat
 | ⟨_, _, _, _, _, ks⟩ => 1 + dEs ks
def dEs : List zb → Nat
 | [] => 0
 | e :: l => max (dE e) (dEs l)
end
theorem zf1 (e : zb) : szE e = 1 + z5 e.Kids := by cases e; rfl
theorem zlc (e : zb) : dE e = 1 + dEs e.Kids := by cases e; rfl
theorem zcJ (s : Stm) : szS s = 1 + z5 s.Kids + zK s.Body + zK s.Else := by cases s; rfl
mutual
theorem zjz : ∀ e : zb, dE e ≤ szE e
 | ⟨_, _, _, _, _, ks⟩ => by
  have := zmN ks
  show 1 + dEs ks ≤ 1 + z5 ks
  omega
theorem zmN : ∀ l : List zb, dEs l ≤ z5 l
 | [] => Nat.le_refl _
 | e :: l => by
  have := zjz e
  have := zmN l
  show max (dE e) (dEs l) ≤ szE e + z5 l
  omega
end
theorem zkh (e : zb) : 1 ≤ szE e := by rw [zf1]; omega
theorem zrh (e : Stm) : 1 ≤ szS e := by rw [zcJ]; omega
theorem zdO : ∀ l : List zb, l.length ≤ z5 l
 | [] => Nat.le_refl _
 | e :: l => by
  have := zdO l
  have := zkh e
  show l.length + 1 ≤ szE e + z5 l
  omega
theorem zeR : ∀ l : List Stm, l.length ≤ zK l
 | [] => Nat.le_refl _
 | e :: l => by
  have := zeR l
  have := zrh e
  show l.length + 1 ≤ szS e + zK l
  omega
theorem zej {l : List zb} {x : zb} (h : x ∈ l) : szE x ≤ z5 l := by
 induction l with
 | nil => cases h
 | cons e l ih =>
  show szE x ≤ szE e + z5 l
  cases h with
  | head => omega
  | tail _ h => have := ih h; omega
theorem zeW {l : List Stm} {x : Stm} (h : x ∈ l) : szS x ≤ zK l := by
 induction l with
 | nil => cases h
 | cons e l ih =>
  show szS x ≤ szS e + zK l
  cases h with
  | head => omega
  | tail _ h => have := ih h; omega
theorem zia (a b : Nat) : zeF (a : Int) (b : Int) = ((max a b : Nat) : Int) := by
 unfold zeF
 split <;> omega
theorem zmx (l : List Stm) (s : Stm) : zK (l ++ [s]) = zK l + szS s := by
 induction l with
 | nil => show szS s + 0 = 0 + szS s; omega
 | cons e y ih =>
  show szS e + zK (y ++ [s]) = szS e + zK y + szS s
  omega
theorem zp1 (l : List zb) (s : zb) : z5 (l ++ [s]) = z5 l + szE s := by
 induction l with
 | nil => show szE s + 0 = 0 + szE s; omega
 | cons e y ih =>
  show szE e + z5 (y ++ [s]) = szE e + z5 y + szE s
  omega
theorem zpx {R : zb → Option Int} {e : zb} (hR : ∀ x ∈ e.Kids, R x = some ((dE x : Nat) : Int)) (hl : szE e ≤ 1000000000) : ∀ (n k m : Nat), k ≤ e.Kids.length → e.Kids.length - k < n → m ≤ 1000000000 → ze3 R e n (m : Int) (k : Int) = some ((max m (dEs (e.Kids.drop k)) + 1 : Nat) : Int) := by
 have hk := zf1 e
 have hs := zdO e.Kids
 intro n
 induction n with
 | zero => intro k m _ h; omega
 | succ n ih =>
  intro k m hkl hn hm
  show zgS (ze3 R e n) R e (m : Int) (k : Int) = _
  unfold zgS
  by_cases h : k < e.Kids.length
  ·have h1 := zej (List.getElem_mem h)
   have h2 := zjz e.Kids[k]
   rw [if_pos (zbx (by omega)), zch h, Option.bind_some, hR _ (List.getElem_mem h), Option.bind_some, zcc (by omega), zia, ih (k + 1) _ (by omega) (by omega) (by omega), List.drop_eq_getElem_cons h]
   show _ = some ((max m (max (dE e.Kids[k]) (dEs (e.Kids.drop (k + 1)))) + 1 : Nat) : Int)
   rw [Nat.max_assoc]
  ·rw [if_neg (by simp; omega), List.drop_of_length_le (by omega), zcc (by omega)]
   show _ = some ((max m 0 + 1 : Nat) : Int)
   rw [Nat.max_zero]
theorem zl1 : ∀ (n : Nat) (e : zb), szE e ≤ n → szE e ≤ 1000000000 → zdY n e = some ((dE e : Nat) : Int)
 | 0, e, h, _ => by have := zkh e; omega
 | n + 1, e, h, hl => by
  have hk := zf1 e
  have hs := zdO e.Kids
  show ze3 (zdY n) e big 0 0 = _
  have := zpx (R := zdY n) (e := e) (fun x hx => zl1 n x (by have := zej hx; omega) (by have := zej hx; omega)) hl big 0 0 (by omega) (zbU (by omega)) (by omega)
  refine this.trans ?_
  rw [zlc, Nat.zero_max, Nat.add_comm]
  rfl
theorem zn0 {e : zb} (h : szE e ≤ 1000000000) : zkV e = some ((dE e : Nat) : Int) := zl1 big e (Nat.le_of_lt (zbU (by omega))) h
theorem zrH {R : zb → Option Int} {e : zb} (hR : ∀ x ∈ e.Kids, R x = some ((dE x : Nat) : Int)) (hl : szE e ≤ 1000000000) : ∀ (n k m : Nat), k ≤ e.Kids.length → e.Kids.length - k < n → m ≤ 1000000000 → zg9 R e n (m : Int) (k : Int) = some ((max m (dEs (e.Kids.drop k)) + 1 : Nat) : Int) := by
 have hk := zf1 e
 have hs := zdO e.Kids
 intro n
 induction n with
 | zero => intro k m _ h; omega
 | succ n ih =>
  intro k m hkl hn hm
  show zjL (zg9 R e n) R e (m : Int) (k : Int) = _
  unfold zjL
  by_cases h : k < e.Kids.length
  ·have h1 := zej (List.getElem_mem h)
   have h2 := zjz e.Kids[k]
   rw [if_pos (zbx (by omega)), zch h, Option.bind_some, hR _ (List.getElem_mem h), Option.bind_some, zcc (by omega), zia, ih (k + 1) _ (by omega) (by omega) (by omega), List.drop_eq_getElem_cons h]
   show _ = some ((max m (max (dE e.Kids[k]) (dEs (e.Kids.drop (k + 1)))) + 1 : Nat) : Int)
   rw [Nat.max_assoc]
  ·rw [if_neg (by simp; omega), List.drop_of_length_le (by omega), zcc (by omega)]
   show _ = some ((max m 0 + 1 : Nat) : Int)
   rw [Nat.max_zero]
theorem zl0 : ∀ (n : Nat) (e : zb), szE e ≤ n → szE e ≤ 1000000000 → zgE n e = some ((dE e : Nat) : Int)
 | 0, e, h, _ => by have := zkh e; omega
 | n + 1, e, h, hl => by
  have hk := zf1 e
  have hs := zdO e.Kids
  show zg9 (zgE n) e big 0 0 = _
  have := zrH (R := zgE n) (e := e) (fun x hx => zl0 n x (by have := zej hx; omega) (by have := zej hx; omega)) hl big 0 0 (by omega) (zbU (by omega)) (by omega)
  refine this.trans ?_
  rw [zlc, Nat.zero_max, Nat.add_comm]
  rfl
theorem zrm {e : zb} (h : szE e ≤ 1000000000) : zm2 e = some ((dE e : Nat) : Int) := zl0 big e (Nat.le_of_lt (zbU (by omega))) h
def dpB : Nat → List Stm → Bool
 | 0, l => l.any fun _ => true
 | q + 1, l => l.any fun s => (s.Kids.any fun x => decide (dE x > 40)) || dpB q s.Body || dpB q s.Else
theorem zoE (l : List zb) (hl : z5 l ≤ 1000000000) : ∀ (n k : Nat), k ≤ l.length → l.length - k < n → ∃ i : Int, ze9 l n (k : Int) = some i ∧ decide (i ≥ 0) = (l.drop k).any fun x => decide (dE x > 40) := by
 have hs := zdO l
 intro n
 induction n with
 | zero => intro k _ h; omega
 | succ n ih =>
  intro k hk hn
  show ∃ i : Int, zgR (ze9 l n) l (k : Int) = some i ∧ _
  unfold zgR
  by_cases h : k < l.length
  ·have h1 := zej (List.getElem_mem h)
   have e1 : zhr l[k] = some (decide (dE l[k] > 40)) := by
    unfold zhr
    rw [zn0 (by omega), Option.bind_some]
    congr 1
    rw [Bool.eq_iff_iff]
    simp only [decide_eq_true_eq]
    omega
   rw [if_pos (zbx (by omega)), zch h, Option.bind_some, e1, Option.bind_some, List.drop_eq_getElem_cons h, List.any_cons]
   cases hd : decide (dE l[k] > 40) with
   | true => exact ⟨(k : Int), if_pos rfl, zbx (by omega)⟩
   | false =>
    rw [if_neg (by simp), zcc (by omega), Bool.false_or]
    exact ih (k + 1) (by omega) (by omega)
  ·rw [if_neg (by simp; omega), List.drop_of_length_le (by omega)]
   exact ⟨-1, rfl, rfl⟩
theorem zoy (l : List zb) (hl : z5 l ≤ 1000000000) : zhp l = some (l.any fun x => decide (dE x > 40)) := by
 have hs := zdO l
 unfold zhp zhT
 obtain ⟨i, h1, h2⟩ := zoE l hl big 0 (by omega) (zbU (by omega))
 have h1 : ze9 l big 0 = some i := h1
 rw [h1, Option.bind_some, h2]
 rfl
theorem zop {R : List Stm → Int → Option Bool} {q : Nat} (hq : q ≤ 1000) {s : Stm} (hs : szS s ≤ 1000000000) (h : ∀ q' l, q = q' + 1 → zK l < szS s → R l ((q' : Nat) : Int) = some (dpB q' l)) : zgf R s (q : Int) = some (match q with
  | 0 => true
  | q' + 1 => (s.Kids.any fun x => decide (dE x > 40)) || dpB q' s.Body || dpB q' s.Else) := by
 have hz := zcJ s
 unfold zgf
 cases q with
 | zero => rfl
 | succ q =>
  have e0 : IntKind.i64.wrap (((q + 1 : Nat) : Int) - 1) = (q : Int) := by rw [zeG (by omega)]; omega
  rw [if_neg (by simp; omega), zoy _ (by omega), e0, h q s.Body rfl (by omega), h q s.Else rfl (by omega)]
  simp only [Option.bind_some]
  cases s.Kids.any fun x => decide (dE x > 40) <;> cases dpB q s.Body <;> rfl
theorem zpW {R : List Stm → Int → Option Bool} {q : Nat} (hq : q ≤ 1000) {l : List Stm} (hl : zK l ≤ 1000000000) (hR : ∀ q' s x, s ∈ l → q = q' + 1 → zK x < szS s → R x ((q' : Nat) : Int) = some (dpB q' x)) : ∀ (n k : Nat), k ≤ l.length → l.length - k < n → ∃ i : Int, zfm R l (q : Int) n (k : Int) = some i ∧ decide (i ≥ 0) = dpB q (l.drop k) := by
 have hs := zeR l
 intro n
 induction n with
 | zero => intro k _ h; omega
 | succ n ih =>
  intro k hk hn
  show ∃ i : Int, zht (zfm R l (q : Int) n) R l (q : Int) (k : Int) = some i ∧ _
  unfold zht
  by_cases h : k < l.length
  ·have h1 := zeW (List.getElem_mem h)
   have e1 := zop (R := R) hq (s := l[k]) (by omega) fun q' x e hx => hR q' _ x (List.getElem_mem h) e hx
   have ih' := ih (k + 1) (by omega) (by omega)
   rw [if_pos (zbx (by omega)), zch h, Option.bind_some, e1, Option.bind_some, List.drop_eq_getElem_cons h, zcc (by omega)]
   cases q with
   | zero => exact ⟨(k : Int), if_pos rfl, zbx (by omega)⟩
   | succ q =>
    rw [show dpB (q + 1) (l[k] :: l.drop (k + 1)) = (((l[k].Kids.any fun x => decide (dE x > 40)) || dpB q l[k].Body || dpB q l[k].Else) || dpB (q + 1) (l.drop (k + 1))) from rfl]
    dsimp only
    by_cases hd : ((l[k].Kids.any fun x => decide (dE x > 40)) || dpB q l[k].Body || dpB q l[k].Else) = true
    ·exact ⟨(k : Int), if_pos hd, by rw [hd]; exact zbx (by omega)⟩
    ·obtain ⟨i, i1, i2⟩ := ih'
     exact ⟨i, (if_neg hd).trans i1, by rw [Bool.eq_false_iff.2 hd, Bool.false_or]; exact i2⟩
  ·rw [if_neg (by simp; omega), List.drop_of_length_le (by omega)]
   exact ⟨-1, rfl, by cases q <;> rfl⟩
theorem zlw : ∀ (n q : Nat) (l : List Stm), zK l < n → zK l ≤ 1000000000 → q ≤ 1000 → zdd n l (q : Int) = some (dpB q l)
 | 0, q, l, h, _, _ => by omega
 | n + 1, q, l, h, hl, hq => by
  have hs := zeR l
  show ((zgy (zdd n) l (q : Int)).bind fun c => some c) = _
  unfold zgy ziI
  obtain ⟨i, h1, h2⟩ := zpW (R := zdd n) hq hl (fun q' s x hm e hx => by have := zeW hm; exact zlw n q' x (by omega) (by omega) (by omega)) big 0 (by omega) (zbU (by omega))
  have h1 : zfm (zdd n) l (q : Int) big 0 = some i := h1
  rw [h1, Option.bind_some, Option.bind_some, h2]
  rfl
theorem zoU {l : List Stm} (hl : zK l ≤ 1000000000) : zkg l 40 = some (dpB 40 l) := zlw big 40 l (zbU (by omega)) hl (by omega)
def zcY (D : List zi) : Bool := D.any fun d => dpB 40 d.Body
theorem zoQ {D : List zi} (hl : D.length ≤ 1000000) (hD : ∀ d ∈ D, zK d.Body ≤ 1000000000) : ∀ (n k : Nat), k ≤ D.length → D.length - k < n → ∃ i : Int, ze1 D n (k : Int) = some i ∧ decide (i ≥ 0) = zcY (D.drop k) := by
 intro n
 induction n with
 | zero => intro k _ h; omega
 | succ n ih =>
  intro k hk hn
  show ∃ i : Int, zgQ (ze1 D n) D (k : Int) = some i ∧ _
  unfold zgQ zio
  by_cases h : k < D.length
  ·have ih' := ih (k + 1) (by omega) (by omega)
   rw [if_pos (zbx (by omega)), zch h, Option.bind_some, zoU (hD _ (List.getElem_mem h)), Option.bind_some, Option.bind_some, List.drop_eq_getElem_cons h, zcc (by omega)]
   unfold zcY at ih' ⊢
   rw [List.any_cons]
   cases hd : dpB 40 D[k].Body with
   | true => exact ⟨(k : Int), if_pos rfl, zbx (by omega)⟩
   | false =>
    rw [if_neg (by simp), Bool.false_or]
    exact ih'
  ·rw [if_neg (by simp; omega), List.drop_of_length_le (by omega)]
   exact ⟨-1, rfl, rfl⟩
theorem zqh {D : List zi} (hl : D.length ≤ 1000000) (hD : ∀ d ∈ D, zK d.Body ≤ 1000000000) : zfM D = some (zcY D) := by
 unfold zfM zh3
 obtain ⟨i, h1, h2⟩ := zoQ hl hD big 0 (by omega) (zbU (by omega))
 have h1 : ze1 D big 0 = some i := h1
 rw [h1, Option.bind_some, h2]
 rfl
def Dp (l : List Stm) (v : Nat) : Prop := v ≤ 41 + zK l ∧ ∀ q, q ≤ 40 → (q < v ↔ dpB q l = true)
theorem zqR (q : Nat) (l l' : List Stm) : dpB q (l ++ l') = (dpB q l || dpB q l') := by
 cases q with
 | zero => exact List.any_append
 | succ q => exact List.any_append
theorem zrG {rec14 : Int → Int → Option Int} {l : List Stm} {j a b c : Nat} (hj : j < l.length) (hl : zK l ≤ 1000000000) (hb : b ≤ 2000000000) (hc : c ≤ 2000000000) : ∀ (n k : Nat), k ≤ l[j].Kids.length → l[j].Kids.length - k < n → zgC rec14 l (a : Int) (j : Int) (b : Int) (c : Int) n (k : Int) = if ((l[j].Kids.drop k).any fun x => decide (dE x > 40)) = true then some 41 else rec14 ((max (max a (1 + b)) (1 + c) : Nat) : Int) ((j + 1 : Nat) : Int) := by
 have h0 := zeW (List.getElem_mem hj)
 have hz := zcJ l[j]
 have hs := zdO l[j].Kids
 have hs' := zeR l
 intro n
 induction n with
 | zero => intro k _ h; omega
 | succ n ih =>
  intro k hk hn
  show zkb (zgC rec14 l (a : Int) (j : Int) (b : Int) (c : Int) n) rec14 l (a : Int) (j : Int) (b : Int) (c : Int) (k : Int) = _
  unfold zkb
  rw [zch hj, Option.bind_some, Option.bind_some]
  by_cases h : k < l[j].Kids.length
  ·have h1 := zej (List.getElem_mem h)
   rw [if_pos (zbx (by omega)), zch h, Option.bind_some, zrm (by omega), Option.bind_some, List.drop_eq_getElem_cons h, List.any_cons]
   by_cases hd : dE l[j].Kids[k] > 40
   ·rw [if_pos (zbx (by omega)), zbx hd]
    rfl
   ·rw [if_neg (by simp; omega), zdQ hd, Bool.false_or, zcc (by omega)]
    exact ih (k + 1) (by omega) (by omega)
  ·rw [if_neg (by simp; omega), List.drop_of_length_le (by omega), zcc (by omega)]
   rw [show IntKind.i64.wrap (1 + (b : Int)) = ((1 + b : Nat) : Int) by rw [zeG (by omega)]; omega, show IntKind.i64.wrap (1 + (c : Int)) = ((1 + c : Nat) : Int) by rw [zeG (by omega)]; omega, zia, zia]
   rfl
theorem zqq {R : List Stm → Option Int} {l : List Stm} (hl : zK l ≤ 1000000000) (hR : ∀ s x, s ∈ l → zK x < szS s → ∃ v : Nat, R x = some ((v : Nat) : Int) ∧ Dp x v) : ∀ (n k a : Nat), k ≤ l.length → l.length - k < n → Dp (l.take k) a → ∃ v : Nat, zfT R l n (a : Int) (k : Int) = some ((v : Nat) : Int) ∧ Dp l v := by
 have hs := zeR l
 intro n
 induction n with
 | zero => intro k _ _ h; omega
 | succ n ih =>
  intro k a hk hn ha
  show ∃ v : Nat, zj4 (zfT R l n) R l (a : Int) (k : Int) = some ((v : Nat) : Int) ∧ _
  unfold zj4
  by_cases h : k < l.length
  ·have h0 := zeW (List.getElem_mem h)
   have hz := zcJ l[k]
   have hz' := zdO l[k].Kids
   obtain ⟨b, eb, db⟩ := hR l[k] l[k].Body (List.getElem_mem h) (by omega)
   obtain ⟨c, ec, dc⟩ := hR l[k] l[k].Else (List.getElem_mem h) (by omega)
   have hb := db.1
   have hc := dc.1
   rw [if_pos (zbx (by omega)), zch h, Option.bind_some, Option.bind_some, eb, Option.bind_some, ec, Option.bind_some]
   have e1 := zrG (rec14 := zfT R l n) (j := k) (a := a) (b := b) (c := c) h hl (by omega) (by omega) big 0 (by omega) (zbU (by omega))
   have e1 : zgC (zfT R l n) l (a : Int) (k : Int) (b : Int) (c : Int) big 0 = _ := e1
   rw [e1, List.drop_zero]
   by_cases hd : (l[k].Kids.any fun x => decide (dE x > 40)) = true
   ·rw [if_pos hd]
    refine ⟨41, rfl, by omega, fun q hq => ⟨fun _ => ?_, fun _ => by omega⟩⟩
    cases q with
    | zero => exact List.any_eq_true.2 ⟨_, List.getElem_mem h, rfl⟩
    | succ q => exact List.any_eq_true.2 ⟨_, List.getElem_mem h, by rw [hd]; rfl⟩
   ·rw [if_neg hd]
    refine ih (k + 1) _ (by omega) (by omega) ⟨?_, fun q hq => ?_⟩
    ·have ha := ha.1
     have e2 : zK (l.take (k + 1)) = zK (l.take k) + szS l[k] := by
      rw [List.take_succ_eq_append_getElem h]
      exact zmx _ _
     omega
    ·rw [List.take_succ_eq_append_getElem h, zqR, Bool.or_eq_true, ← ha.2 q hq]
     cases q with
     | zero =>
      have : dpB 0 [l[k]] = true := rfl
      simp only [this, or_true, iff_true]
      omega
     | succ q =>
      have e3 : dpB (q + 1) [l[k]] = (dpB q l[k].Body || dpB q l[k].Else) := by
       show ([l[k]].any fun s => (s.Kids.any fun x => decide (dE x > 40)) || dpB q s.Body || dpB q s.Else) = _
       simp only [List.any_cons, List.any_nil, Bool.or_false]
       rw [show (l[k].Kids.any fun x => decide (dE x > 40)) = false by simpa using hd, Bool.false_or]
      rw [e3, Bool.or_eq_true, ← db.2 q (by omega), ← dc.2 q (by omega)]
      omega
  ·rw [if_neg (by simp; omega)]
   rw [List.take_of_length_le (by omega)] at ha
   exact ⟨a, rfl, ha⟩
theorem zlU : ∀ (n : Nat) (l : List Stm), zK l < n → zK l ≤ 1000000000 → ∃ v : Nat, zjp n l = some ((v : Nat) : Int) ∧ Dp l v
 | 0, l, h, _ => by omega
 | n + 1, l, h, hl => by
  have hs := zeR l
  exact zqq hl (fun s x hm hx => by have := zeW hm; exact zlU n x (by omega) (by omega)) big 0 0 (by omega) (zbU (by omega)) ⟨by omega, fun q _ => ⟨fun h => by omega, fun h => by cases q <;> cases h⟩⟩
theorem zro {l : List Stm} (hl : zK l ≤ 1000000000) : ∃ v : Nat, zmJ l = some ((v : Nat) : Int) ∧ Dp l v := zlU big l (zbU (by omega)) hl
theorem zog {S : List zl} {D : List zi} (hl : D.length ≤ 1000000) (hD : ∀ d ∈ D, zK d.Body ≤ 1000000000) : ∀ (n k : Nat), k ≤ D.length → D.length - k < n → zhP ⟨S, D⟩ n (k : Int) = some (zcY (D.drop k)) := by
 intro n
 induction n with
 | zero => intro k _ h; omega
 | succ n ih =>
  intro k hk hn
  show zjt (zhP ⟨S, D⟩ n) ⟨S, D⟩ (k : Int) = _
  unfold zjt
  dsimp only
  by_cases h : k < D.length
  ·obtain ⟨v, ev, dv⟩ := zro (hD _ (List.getElem_mem h))
   have ih' := ih (k + 1) (by omega) (by omega)
   have d40 := dv.2 40 (by omega)
   rw [if_pos (zbx (by omega)), zch h, Option.bind_some, ev, Option.bind_some, List.drop_eq_getElem_cons h, zcc (by omega)]
   unfold zcY at ih' ⊢
   rw [List.any_cons]
   cases hd : dpB 40 D[k].Body with
   | true =>
    rw [hd] at d40
    rw [if_pos (zbx (by have := d40.2 rfl; omega))]
    rfl
   | false =>
    rw [hd] at d40
    rw [if_neg (by have := mt d40.1 (by simp); simp; omega), Bool.false_or]
    exact ih'
  ·rw [if_neg (by simp; omega), List.drop_of_length_le (by omega)]
   rfl
theorem zqv {S : List zl} {D : List zi} (hl : D.length ≤ 1000000) (hD : ∀ d ∈ D, zK d.Body ≤ 1000000000) : zl9 ⟨S, D⟩ = some (zcY D) :=
 zog hl hD big 0 (by omega) (zbU (by omega))
end Go.Proofs.Ytnhboaaikehpoaa
