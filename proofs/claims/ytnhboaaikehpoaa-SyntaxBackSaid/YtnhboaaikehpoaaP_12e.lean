import Derived.Test.YtnhboaaikehpoaaP_12d
import Derived.KernelRfl
namespace Go.Proofs.Ytnhboaaikehpoaa
open Go.Ab Go.RowKit
set_option linter.unusedVariables false
set_option linter.unusedSimpArgs false
mutual
def szE : zb → Nat
 | ⟨_, _, _, _, _, ks⟩ => 1 + zK ks
def zK : List zb → Nat
 | [] => 0
 | e :: l => szE e + zK l
end
mutual
def szS : Stm → Nat
 | ⟨_, _, _, _, _, _, ks, b, e⟩ => 1 + zK ks + zw b + zw e
def zw : List Stm → Nat
 | [] => 0
 | e :: l => szS e + zw l
end
mutual
def dE : zb → Nat
 | ⟨_, _, _, _, _, ks⟩ => 1 + dEs ks
def dEs : List zb → Nat
 | [] => 0
 | e :: l => max (dE e) (dEs l)
end
theorem zef (e : zb) : szE e = 1 + zK e.Kids := by cases e; rfl
theorem zmO (e : zb) : dE e = 1 + dEs e.Kids := by cases e; rfl
theorem zcd (s : Stm) : szS s = 1 + zK s.Kids + zw s.Body + zw s.Else := by cases s; rfl
mutual
theorem zjI : ∀ e : zb, dE e ≤ szE e
 | ⟨_, _, _, _, _, ks⟩ => by
  have := znt ks
  show 1 + dEs ks ≤ 1 + zK ks
  omega
theorem znt : ∀ l : List zb, dEs l ≤ zK l
 | [] => Nat.le_refl _
 | e :: l => by
  have := zjI e
  have := znt l
  show max (dE e) (dEs l) ≤ szE e + zK l
  omega
end
theorem zeO (e : zb) : 1 ≤ szE e := by rw [zef]; omega
theorem zm3 (e : Stm) : 1 ≤ szS e := by rw [zcd]; omega
theorem zc6 : ∀ l : List zb, l.length ≤ zK l
 | [] => Nat.le_refl _
 | e :: l => by
  have := zc6 l
  have := zeO e
  show l.length + 1 ≤ szE e + zK l
  omega
theorem zdW : ∀ l : List Stm, l.length ≤ zw l
 | [] => Nat.le_refl _
 | e :: l => by
  have := zdW l
  have := zm3 e
  show l.length + 1 ≤ szS e + zw l
  omega
theorem zds {l : List zb} {x : zb} (h : x ∈ l) : szE x ≤ zK l := by
 induction l with
 | nil => cases h
 | cons e l ih =>
  show szE x ≤ szE e + zK l
  cases h with
  | head => omega
  | tail _ h => have := ih h; omega
theorem zeB {l : List Stm} {x : Stm} (h : x ∈ l) : szS x ≤ zw l := by
 induction l with
 | nil => cases h
 | cons e l ih =>
  show szS x ≤ szS e + zw l
  cases h with
  | head => omega
  | tail _ h => have := ih h; omega
theorem ziP (a b : Nat) : zcy (a : Int) (b : Int) = ((max a b : Nat) : Int) := by
 unfold zcy
 split <;> omega
theorem znO (l : List Stm) (s : Stm) : zw (l ++ [s]) = zw l + szS s := by
 induction l with
 | nil => show szS s + 0 = 0 + szS s; omega
 | cons e y ih =>
  show szS e + zw (y ++ [s]) = szS e + zw y + szS s
  omega
theorem zqT (l : List zb) (s : zb) : zK (l ++ [s]) = zK l + szE s := by
 induction l with
 | nil => show szE s + 0 = 0 + szE s; omega
 | cons e y ih =>
  show szE e + zK (y ++ [s]) = szE e + zK y + szE s
  omega
theorem zph {R : zb → Option Int} {e : zb} (hR : ∀ x ∈ e.Kids, R x = some ((dE x : Nat) : Int)) (hl : szE e ≤ 1000000000) : ∀ (n k m : Nat), k ≤ e.Kids.length → e.Kids.length - k < n → m ≤ 1000000000 → ze6 R e n (m : Int) (k : Int) = some ((max m (dEs (e.Kids.drop k)) + 1 : Nat) : Int) := by
 have hk := zef e
 have hs := zc6 e.Kids
 intro n
 induction n with
 | zero => intro k m _ h; omega
 | succ n ih =>
  intro k m hkl hn hm
  show zhT (ze6 R e n) R e (m : Int) (k : Int) = _
  unfold zhT
  by_cases h : k < e.Kids.length
  ·have h1 := zds (List.getElem_mem h)
   have h2 := zjI e.Kids[k]
   rw [if_pos (zJ (by omega)), zbv h, Option.bind_some, hR _ (List.getElem_mem h), Option.bind_some, zbq (by omega), ziP, ih (k + 1) _ (by omega) (by omega) (by omega), List.drop_eq_getElem_cons h]
   show _ = some ((max m (max (dE e.Kids[k]) (dEs (e.Kids.drop (k + 1)))) + 1 : Nat) : Int)
   rw [Nat.max_assoc]
  ·rw [if_neg (by simp; omega), List.drop_of_length_le (by omega), zbq (by omega)]
   show _ = some ((max m 0 + 1 : Nat) : Int)
   rw [Nat.max_zero]
theorem zma : ∀ (n : Nat) (e : zb), szE e ≤ n → szE e ≤ 1000000000 → zdQ n e = some ((dE e : Nat) : Int)
 | 0, e, h, _ => by have := zeO e; omega
 | n + 1, e, h, hl => by
  have hk := zef e
  have hs := zc6 e.Kids
  show ze6 (zdQ n) e big 0 0 = _
  have := zph (R := zdQ n) (e := e) (fun x hx => zma n x (by have := zds hx; omega) (by have := zds hx; omega)) hl big 0 0 (by omega) (z7 (by omega)) (by omega)
  refine this.trans ?_
  rw [zmO, Nat.zero_max, Nat.add_comm]
  rfl
theorem zr4 {e : zb} (h : szE e ≤ 1000000000) : zlg e = some ((dE e : Nat) : Int) := zma big e (Nat.le_of_lt (z7 (by omega))) h
theorem zqb {R : zb → Option Int} {e : zb} (hR : ∀ x ∈ e.Kids, R x = some ((dE x : Nat) : Int)) (hl : szE e ≤ 1000000000) : ∀ (n k m : Nat), k ≤ e.Kids.length → e.Kids.length - k < n → m ≤ 1000000000 → zfj R e n (m : Int) (k : Int) = some ((max m (dEs (e.Kids.drop k)) + 1 : Nat) : Int) := by
 have hk := zef e
 have hs := zc6 e.Kids
 intro n
 induction n with
 | zero => intro k m _ h; omega
 | succ n ih =>
  intro k m hkl hn hm
  show zgL (zfj R e n) R e (m : Int) (k : Int) = _
  unfold zgL
  by_cases h : k < e.Kids.length
  ·have h1 := zds (List.getElem_mem h)
   have h2 := zjI e.Kids[k]
   rw [if_pos (zJ (by omega)), zbv h, Option.bind_some, hR _ (List.getElem_mem h), Option.bind_some, zbq (by omega), ziP, ih (k + 1) _ (by omega) (by omega) (by omega), List.drop_eq_getElem_cons h]
   show _ = some ((max m (max (dE e.Kids[k]) (dEs (e.Kids.drop (k + 1)))) + 1 : Nat) : Int)
   rw [Nat.max_assoc]
  ·rw [if_neg (by simp; omega), List.drop_of_length_le (by omega), zbq (by omega)]
   show _ = some ((max m 0 + 1 : Nat) : Int)
   rw [Nat.max_zero]
theorem zmL : ∀ (n : Nat) (e : zb), szE e ≤ n → szE e ≤ 1000000000 → zdV n e = some ((dE e : Nat) : Int)
 | 0, e, h, _ => by have := zeO e; omega
 | n + 1, e, h, hl => by
  have hk := zef e
  have hs := zc6 e.Kids
  show zfj (zdV n) e big 0 0 = _
  have := zqb (R := zdV n) (e := e) (fun x hx => zmL n x (by have := zds hx; omega) (by have := zds hx; omega)) hl big 0 0 (by omega) (z7 (by omega)) (by omega)
  refine this.trans ?_
  rw [zmO, Nat.zero_max, Nat.add_comm]
  rfl
theorem zr1 {e : zb} (h : szE e ≤ 1000000000) : zj8 e = some ((dE e : Nat) : Int) := zmL big e (Nat.le_of_lt (z7 (by omega))) h
def dpB : Nat → List Stm → Bool
 | 0, l => l.any fun _ => true
 | q + 1, l => l.any fun s => (s.Kids.any fun x => decide (dE x > 40)) || dpB q s.Body || dpB q s.Else
theorem zsB (l : List zb) (hl : zK l ≤ 1000000000) : ∀ (n k : Nat), k ≤ l.length → l.length - k < n → ∃ i : Int, zfb l n (k : Int) = some i ∧ decide (i ≥ 0) = (l.drop k).any fun x => decide (dE x > 40) := by
 have hs := zc6 l
 intro n
 induction n with
 | zero => intro k _ h; omega
 | succ n ih =>
  intro k hk hn
  show ∃ i : Int, zgW (zfb l n) l (k : Int) = some i ∧ _
  unfold zgW
  by_cases h : k < l.length
  ·have h1 := zds (List.getElem_mem h)
   have e1 : zhX l[k] = some (decide (dE l[k] > 40)) := by
    unfold zhX
    rw [zr4 (by omega), Option.bind_some]
    congr 1
    rw [Bool.eq_iff_iff]
    simp only [decide_eq_true_eq]
    omega
   rw [if_pos (zJ (by omega)), zbv h, Option.bind_some, e1, Option.bind_some, List.drop_eq_getElem_cons h, List.any_cons]
   cases hd : decide (dE l[k] > 40) with
   | true => exact ⟨(k : Int), if_pos rfl, zJ (by omega)⟩
   | false =>
    rw [if_neg (by simp), zbq (by omega), Bool.false_or]
    exact ih (k + 1) (by omega) (by omega)
  ·rw [if_neg (by simp; omega), List.drop_of_length_le (by omega)]
   exact ⟨-1, rfl, rfl⟩
theorem zry (l : List zb) (hl : zK l ≤ 1000000000) : zh1 l = some (l.any fun x => decide (dE x > 40)) := by
 have hs := zc6 l
 unfold zh1 ziL
 obtain ⟨i, h1, h2⟩ := zsB l hl big 0 (by omega) (z7 (by omega))
 have h1 : zfb l big 0 = some i := h1
 rw [h1, Option.bind_some, h2]
 rfl
theorem zoE {R : List Stm → Int → Option Bool} {q : Nat} (hq : q ≤ 1000) {s : Stm} (hs : szS s ≤ 1000000000) (h : ∀ q' l, q = q' + 1 → zw l < szS s → R l ((q' : Nat) : Int) = some (dpB q' l)) : zg9 R s (q : Int) = some (match q with
  | 0 => true
  | q' + 1 => (s.Kids.any fun x => decide (dE x > 40)) || dpB q' s.Body || dpB q' s.Else) := by
 have hz := zcd s
 unfold zg9
 cases q with
 | zero => rfl
 | succ q =>
  have e0 : IntKind.i64.wrap (((q + 1 : Nat) : Int) - 1) = (q : Int) := by rw [zce (by omega)]; omega
  rw [if_neg (by simp; omega), zry _ (by omega), e0, h q s.Body rfl (by omega), h q s.Else rfl (by omega)]
  simp only [Option.bind_some]
  cases s.Kids.any fun x => decide (dE x > 40) <;> cases dpB q s.Body <;> rfl
theorem zsk {R : List Stm → Int → Option Bool} {q : Nat} (hq : q ≤ 1000) {l : List Stm} (hl : zw l ≤ 1000000000) (hR : ∀ q' s x, s ∈ l → q = q' + 1 → zw x < szS s → R x ((q' : Nat) : Int) = some (dpB q' x)) : ∀ (n k : Nat), k ≤ l.length → l.length - k < n → ∃ i : Int, zfc R l (q : Int) n (k : Int) = some i ∧ decide (i ≥ 0) = dpB q (l.drop k) := by
 have hs := zdW l
 intro n
 induction n with
 | zero => intro k _ h; omega
 | succ n ih =>
  intro k hk hn
  show ∃ i : Int, zhG (zfc R l (q : Int) n) R l (q : Int) (k : Int) = some i ∧ _
  unfold zhG
  by_cases h : k < l.length
  ·have h1 := zeB (List.getElem_mem h)
   have e1 := zoE (R := R) hq (s := l[k]) (by omega) fun q' x e hx => hR q' _ x (List.getElem_mem h) e hx
   have ih' := ih (k + 1) (by omega) (by omega)
   rw [if_pos (zJ (by omega)), zbv h, Option.bind_some, e1, Option.bind_some, List.drop_eq_getElem_cons h, zbq (by omega)]
   cases q with
   | zero => exact ⟨(k : Int), if_pos rfl, zJ (by omega)⟩
   | succ q =>
    rw [show dpB (q + 1) (l[k] :: l.drop (k + 1)) = (((l[k].Kids.any fun x => decide (dE x > 40)) || dpB q l[k].Body || dpB q l[k].Else) || dpB (q + 1) (l.drop (k + 1))) from rfl]
    dsimp only
    by_cases hd : ((l[k].Kids.any fun x => decide (dE x > 40)) || dpB q l[k].Body || dpB q l[k].Else) = true
    ·exact ⟨(k : Int), if_pos hd, by rw [hd]; exact zJ (by omega)⟩
    ·obtain ⟨i, i1, i2⟩ := ih'
     exact ⟨i, (if_neg hd).trans i1, by rw [Bool.eq_false_iff.2 hd, Bool.false_or]; exact i2⟩
  ·rw [if_neg (by simp; omega), List.drop_of_length_le (by omega)]
   exact ⟨-1, rfl, by cases q <;> rfl⟩
theorem zlH : ∀ (n q : Nat) (l : List Stm), zw l < n → zw l ≤ 1000000000 → q ≤ 1000 → zc2 n l (q : Int) = some (dpB q l)
 | 0, q, l, h, _, _ => by omega
 | n + 1, q, l, h, hl, hq => by
  have hs := zdW l
  show ((zhe (zc2 n) l (q : Int)).bind fun c => some c) = _
  unfold zhe zi9
  obtain ⟨i, h1, h2⟩ := zsk (R := zc2 n) hq hl (fun q' s x hm e hx => by have := zeB hm; exact zlH n q' x (by omega) (by omega) (by omega)) big 0 (by omega) (z7 (by omega))
  have h1 : zfc (zc2 n) l (q : Int) big 0 = some i := h1
  rw [h1, Option.bind_some, Option.bind_some, h2]
  rfl
theorem zrz {l : List Stm} (hl : zw l ≤ 1000000000) : zkb l 40 = some (dpB 40 l) := zlH big 40 l (z7 (by omega)) hl (by omega)
def zeK (D : List zo) : Bool := D.any fun d => dpB 40 d.Body
theorem zsE {D : List zo} (hl : D.length ≤ 1000000) (hD : ∀ d ∈ D, zw d.Body ≤ 1000000000) : ∀ (n k : Nat), k ≤ D.length → D.length - k < n → ∃ i : Int, ze5 D n (k : Int) = some i ∧ decide (i ≥ 0) = zeK (D.drop k) := by
 intro n
 induction n with
 | zero => intro k _ h; omega
 | succ n ih =>
  intro k hk hn
  show ∃ i : Int, zhg (ze5 D n) D (k : Int) = some i ∧ _
  unfold zhg ziU
  by_cases h : k < D.length
  ·have ih' := ih (k + 1) (by omega) (by omega)
   rw [if_pos (zJ (by omega)), zbv h, Option.bind_some, zrz (hD _ (List.getElem_mem h)), Option.bind_some, Option.bind_some, List.drop_eq_getElem_cons h, zbq (by omega)]
   unfold zeK at ih' ⊢
   rw [List.any_cons]
   cases hd : dpB 40 D[k].Body with
   | true => exact ⟨(k : Int), if_pos rfl, zJ (by omega)⟩
   | false =>
    rw [if_neg (by simp), Bool.false_or]
    exact ih'
  ·rw [if_neg (by simp; omega), List.drop_of_length_le (by omega)]
   exact ⟨-1, rfl, rfl⟩
theorem zrm {D : List zo} (hl : D.length ≤ 1000000) (hD : ∀ d ∈ D, zw d.Body ≤ 1000000000) : zfK D = some (zeK D) := by
 unfold zfK zjq
 obtain ⟨i, h1, h2⟩ := zsE hl hD big 0 (by omega) (z7 (by omega))
 have h1 : ze5 D big 0 = some i := h1
 rw [h1, Option.bind_some, h2]
 rfl
def Dp (l : List Stm) (v : Nat) : Prop := v ≤ 41 + zw l ∧ ∀ q, q ≤ 40 → (q < v ↔ dpB q l = true)
theorem zsi (q : Nat) (l l' : List Stm) : dpB q (l ++ l') = (dpB q l || dpB q l') := by
 cases q with
 | zero => exact List.any_append
 | succ q => exact List.any_append
theorem zsW {rec14 : Int → Int → Option Int} {l : List Stm} {j a b c : Nat} (hj : j < l.length) (hl : zw l ≤ 1000000000) (hb : b ≤ 2000000000) (hc : c ≤ 2000000000) : ∀ (n k : Nat), k ≤ l[j].Kids.length → l[j].Kids.length - k < n → zfw rec14 l (a : Int) (j : Int) (b : Int) (c : Int) n (k : Int) = if ((l[j].Kids.drop k).any fun x => decide (dE x > 40)) = true then some 41 else rec14 ((max (max a (1 + b)) (1 + c) : Nat) : Int) ((j + 1 : Nat) : Int) := by
 have h0 := zeB (List.getElem_mem hj)
 have hz := zcd l[j]
 have hs := zc6 l[j].Kids
 have hs' := zdW l
 intro n
 induction n with
 | zero => intro k _ h; omega
 | succ n ih =>
  intro k hk hn
  show ziy (zfw rec14 l (a : Int) (j : Int) (b : Int) (c : Int) n) rec14 l (a : Int) (j : Int) (b : Int) (c : Int) (k : Int) = _
  unfold ziy
  rw [zbv hj, Option.bind_some, Option.bind_some]
  by_cases h : k < l[j].Kids.length
  ·have h1 := zds (List.getElem_mem h)
   rw [if_pos (zJ (by omega)), zbv h, Option.bind_some, zr1 (by omega), Option.bind_some, List.drop_eq_getElem_cons h, List.any_cons]
   by_cases hd : dE l[j].Kids[k] > 40
   ·rw [if_pos (zJ (by omega)), zJ hd]
    rfl
   ·rw [if_neg (by simp; omega), zc9 hd, Bool.false_or, zbq (by omega)]
    exact ih (k + 1) (by omega) (by omega)
  ·rw [if_neg (by simp; omega), List.drop_of_length_le (by omega), zbq (by omega)]
   rw [show IntKind.i64.wrap (1 + (b : Int)) = ((1 + b : Nat) : Int) by rw [zce (by omega)]; omega, show IntKind.i64.wrap (1 + (c : Int)) = ((1 + c : Nat) : Int) by rw [zce (by omega)]; omega, ziP, ziP]
   rfl
theorem zsD {R : List Stm → Option Int} {l : List Stm} (hl : zw l ≤ 1000000000) (hR : ∀ s x, s ∈ l → zw x < szS s → ∃ v : Nat, R x = some ((v : Nat) : Int) ∧ Dp x v) : ∀ (n k a : Nat), k ≤ l.length → l.length - k < n → Dp (l.take k) a → ∃ v : Nat, zdF R l n (a : Int) (k : Int) = some ((v : Nat) : Int) ∧ Dp l v := by
 have hs := zdW l
 intro n
 induction n with
 | zero => intro k _ _ h; omega
 | succ n ih =>
  intro k a hk hn ha
  show ∃ v : Nat, zgK (zdF R l n) R l (a : Int) (k : Int) = some ((v : Nat) : Int) ∧ _
  unfold zgK
  by_cases h : k < l.length
  ·have h0 := zeB (List.getElem_mem h)
   have hz := zcd l[k]
   have hz' := zc6 l[k].Kids
   obtain ⟨b, eb, db⟩ := hR l[k] l[k].Body (List.getElem_mem h) (by omega)
   obtain ⟨c, ec, dc⟩ := hR l[k] l[k].Else (List.getElem_mem h) (by omega)
   have hb := db.1
   have hc := dc.1
   rw [if_pos (zJ (by omega)), zbv h, Option.bind_some, Option.bind_some, eb, Option.bind_some, ec, Option.bind_some]
   have e1 := zsW (rec14 := zdF R l n) (j := k) (a := a) (b := b) (c := c) h hl (by omega) (by omega) big 0 (by omega) (z7 (by omega))
   have e1 : zfw (zdF R l n) l (a : Int) (k : Int) (b : Int) (c : Int) big 0 = _ := e1
   rw [e1, List.drop_zero]
   by_cases hd : (l[k].Kids.any fun x => decide (dE x > 40)) = true
   ·rw [if_pos hd]
    refine ⟨41, rfl, by omega, fun q hq => ⟨fun _ => ?_, fun _ => by omega⟩⟩
    cases q with
    | zero => exact List.any_eq_true.2 ⟨_, List.getElem_mem h, rfl⟩
    | succ q => exact List.any_eq_true.2 ⟨_, List.getElem_mem h, by rw [hd]; rfl⟩
   ·rw [if_neg hd]
    refine ih (k + 1) _ (by omega) (by omega) ⟨?_, fun q hq => ?_⟩
    ·have ha := ha.1
     have e2 : zw (l.take (k + 1)) = zw (l.take k) + szS l[k] := by
      rw [List.take_succ_eq_append_getElem h]
      exact znO _ _
     omega
    ·rw [List.take_succ_eq_append_getElem h, zsi, Bool.or_eq_true, ← ha.2 q hq]
     cases q with
     | zero =>
      have : dpB 0 [l[k]] = true := rfl
      simp only [this, or_true, iff_true]
      omega
     | succ q =>
      have e3 : dpB (q + 1) [l[k]] = (dpB q l[k].Body || dpB q l[k].Else) := by
       show ([l[k]].any fun s => (s.Kids.any fun x => decide (dE x > 40)) || dpB q s.Body || dpB q s.Else) = _
       simp only [List.any_cons, List.any_nil, Bool.or_false]
       rw [show (l[k].Kids.any fun x => decide (dE x > 40)) = false by simpa using hd, Bool.false_or]
      rw [e3, Bool.or_eq_true, ← db.2 q (by omega), ← dc.2 q (by omega)]
      omega
  ·rw [if_neg (by simp; omega)]
   rw [List.take_of_length_le (by omega)] at ha
   exact ⟨a, rfl, ha⟩
theorem zlK : ∀ (n : Nat) (l : List Stm), zw l < n → zw l ≤ 1000000000 → ∃ v : Nat, zdz n l = some ((v : Nat) : Int) ∧ Dp l v
 | 0, l, h, _ => by omega
 | n + 1, l, h, hl => by
  have hs := zdW l
  exact zsD hl (fun s x hm hx => by have := zeB hm; exact zlK n x (by omega) (by omega)) big 0 0 (by omega) (z7 (by omega)) ⟨by omega, fun q _ => ⟨fun h => by omega, fun h => by cases q <;> cases h⟩⟩
theorem zsM {l : List Stm} (hl : zw l ≤ 1000000000) : ∃ v : Nat, zj9 l = some ((v : Nat) : Int) ∧ Dp l v := zlK big l (z7 (by omega)) hl
theorem zr9 {S : List zq} {D : List zo} (hl : D.length ≤ 1000000) (hD : ∀ d ∈ D, zw d.Body ≤ 1000000000) : ∀ (n k : Nat), k ≤ D.length → D.length - k < n → zgv ⟨S, D⟩ n (k : Int) = some (zeK (D.drop k)) := by
 intro n
 induction n with
 | zero => intro k _ h; omega
 | succ n ih =>
  intro k hk hn
  show zir (zgv ⟨S, D⟩ n) ⟨S, D⟩ (k : Int) = _
  unfold zir
  dsimp only
  by_cases h : k < D.length
  ·obtain ⟨v, ev, dv⟩ := zsM (hD _ (List.getElem_mem h))
   have ih' := ih (k + 1) (by omega) (by omega)
   have d40 := dv.2 40 (by omega)
   rw [if_pos (zJ (by omega)), zbv h, Option.bind_some, ev, Option.bind_some, List.drop_eq_getElem_cons h, zbq (by omega)]
   unfold zeK at ih' ⊢
   rw [List.any_cons]
   cases hd : dpB 40 D[k].Body with
   | true =>
    rw [hd] at d40
    rw [if_pos (zJ (by have := d40.2 rfl; omega))]
    rfl
   | false =>
    rw [hd] at d40
    rw [if_neg (by have := mt d40.1 (by simp); simp; omega), Bool.false_or]
    exact ih'
  ·rw [if_neg (by simp; omega), List.drop_of_length_le (by omega)]
   rfl
theorem zlS {S : List zq} {D : List zo} (hl : D.length ≤ 1000000) (hD : ∀ d ∈ D, zw d.Body ≤ 1000000000) : zjD ⟨S, D⟩ = some (zeK D) :=
 zr9 hl hD big 0 (by omega) (z7 (by omega))
end Go.Proofs.Ytnhboaaikehpoaa
