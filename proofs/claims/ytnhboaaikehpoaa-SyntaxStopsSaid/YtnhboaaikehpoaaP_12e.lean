import Derived.Test.YtnhboaaikehpoaaP_12d
import Derived.KernelRfl
namespace Go.Proofs.Ytnhboaaikehpoaa
open Go.Ab Go.RowKit
set_option linter.unusedVariables false
set_option linter.unusedSimpArgs false
mutual
def szE : za → Nat
 | ⟨_, _, _, _, _, ks⟩ => 1 + zV ks
def zV : List za → Nat
 | [] => 0
 | e :: l => szE e + zV l
end
mutual
def szS : Stm → Nat
 | ⟨_, _, _, _, _, _, ks, b, e⟩ => 1 + zV ks + zF b + zF e
def zF : List Stm → Nat
 | [] => 0
 | e :: l => szS e + zF l
end
mutual
def dE : za → Nat
 | ⟨_, _, _, _, _, ks⟩ => 1 + dEs ks
def dEs : List za → Nat
 | [] => 0
 | e :: l => max (dE e) (dEs l)
end
theorem zgo (e : za) : szE e = 1 + zV e.Kids := by cases e; rfl
theorem zk7 (e : za) : dE e = 1 + dEs e.Kids := by cases e; rfl
theorem zcN (s : Stm) : szS s = 1 + zV s.Kids + zF s.Body + zF s.Else := by cases s; rfl
mutual
theorem zkA : ∀ e : za, dE e ≤ szE e
 | ⟨_, _, _, _, _, ks⟩ => by
  have := zlu ks
  show 1 + dEs ks ≤ 1 + zV ks
  omega
theorem zlu : ∀ l : List za, dEs l ≤ zV l
 | [] => Nat.le_refl _
 | e :: l => by
  have := zkA e
  have := zlu l
  show max (dE e) (dEs l) ≤ szE e + zV l
  omega
end
theorem zkR (e : za) : 1 ≤ szE e := by rw [zgo]; omega
theorem znS (e : Stm) : 1 ≤ szS e := by rw [zcN]; omega
theorem zeh : ∀ l : List za, l.length ≤ zV l
 | [] => Nat.le_refl _
 | e :: l => by
  have := zeh l
  have := zkR e
  show l.length + 1 ≤ szE e + zV l
  omega
theorem zfu : ∀ l : List Stm, l.length ≤ zF l
 | [] => Nat.le_refl _
 | e :: l => by
  have := zfu l
  have := znS e
  show l.length + 1 ≤ szS e + zF l
  omega
theorem zeD {l : List za} {x : za} (h : x ∈ l) : szE x ≤ zV l := by
 induction l with
 | nil => cases h
 | cons e l ih =>
  show szE x ≤ szE e + zV l
  cases h with
  | head => omega
  | tail _ h => have := ih h; omega
theorem zhp {l : List Stm} {x : Stm} (h : x ∈ l) : szS x ≤ zF l := by
 induction l with
 | nil => cases h
 | cons e l ih =>
  show szS x ≤ szS e + zF l
  cases h with
  | head => omega
  | tail _ h => have := ih h; omega
theorem ziG (a b : Nat) : zem (a : Int) (b : Int) = ((max a b : Nat) : Int) := by
 unfold zem
 split <;> omega
theorem zk6 (l : List Stm) (s : Stm) : zF (l ++ [s]) = zF l + szS s := by
 induction l with
 | nil => show szS s + 0 = 0 + szS s; omega
 | cons e y ih =>
  show szS e + zF (y ++ [s]) = szS e + zF y + szS s
  omega
theorem znJ (l : List za) (s : za) : zV (l ++ [s]) = zV l + szE s := by
 induction l with
 | nil => show szE s + 0 = 0 + szE s; omega
 | cons e y ih =>
  show szE e + zV (y ++ [s]) = szE e + zV y + szE s
  omega
theorem zoF {R : za → Option Int} {e : za} (hR : ∀ x ∈ e.Kids, R x = some ((dE x : Nat) : Int)) (hl : szE e ≤ 1000000000) : ∀ (n k m : Nat), k ≤ e.Kids.length → e.Kids.length - k < n → m ≤ 1000000000 → zfd R e n (m : Int) (k : Int) = some ((max m (dEs (e.Kids.drop k)) + 1 : Nat) : Int) := by
 have hk := zgo e
 have hs := zeh e.Kids
 intro n
 induction n with
 | zero => intro k m _ h; omega
 | succ n ih =>
  intro k m hkl hn hm
  show zgz (zfd R e n) R e (m : Int) (k : Int) = _
  unfold zgz
  by_cases h : k < e.Kids.length
  ·have h1 := zeD (List.getElem_mem h)
   have h2 := zkA e.Kids[k]
   rw [if_pos (zbo (by omega)), zdd h, Option.bind_some, hR _ (List.getElem_mem h), Option.bind_some, zcq (by omega), ziG, ih (k + 1) _ (by omega) (by omega) (by omega), List.drop_eq_getElem_cons h]
   show _ = some ((max m (max (dE e.Kids[k]) (dEs (e.Kids.drop (k + 1)))) + 1 : Nat) : Int)
   rw [Nat.max_assoc]
  ·rw [if_neg (by simp; omega), List.drop_of_length_le (by omega), zcq (by omega)]
   show _ = some ((max m 0 + 1 : Nat) : Int)
   rw [Nat.max_zero]
theorem zl6 : ∀ (n : Nat) (e : za), szE e ≤ n → szE e ≤ 1000000000 → zdR n e = some ((dE e : Nat) : Int)
 | 0, e, h, _ => by have := zkR e; omega
 | n + 1, e, h, hl => by
  have hk := zgo e
  have hs := zeh e.Kids
  show zfd (zdR n) e big 0 0 = _
  have := zoF (R := zdR n) (e := e) (fun x hx => zl6 n x (by have := zeD hx; omega) (by have := zeD hx; omega)) hl big 0 0 (by omega) (zb9 (by omega)) (by omega)
  refine this.trans ?_
  rw [zk7, Nat.zero_max, Nat.add_comm]
  rfl
theorem zqr {e : za} (h : szE e ≤ 1000000000) : zi7 e = some ((dE e : Nat) : Int) := zl6 big e (Nat.le_of_lt (zb9 (by omega))) h
theorem zq0 {R : za → Option Int} {e : za} (hR : ∀ x ∈ e.Kids, R x = some ((dE x : Nat) : Int)) (hl : szE e ≤ 1000000000) : ∀ (n k m : Nat), k ≤ e.Kids.length → e.Kids.length - k < n → m ≤ 1000000000 → zhn R e n (m : Int) (k : Int) = some ((max m (dEs (e.Kids.drop k)) + 1 : Nat) : Int) := by
 have hk := zgo e
 have hs := zeh e.Kids
 intro n
 induction n with
 | zero => intro k m _ h; omega
 | succ n ih =>
  intro k m hkl hn hm
  show zjp (zhn R e n) R e (m : Int) (k : Int) = _
  unfold zjp
  by_cases h : k < e.Kids.length
  ·have h1 := zeD (List.getElem_mem h)
   have h2 := zkA e.Kids[k]
   rw [if_pos (zbo (by omega)), zdd h, Option.bind_some, hR _ (List.getElem_mem h), Option.bind_some, zcq (by omega), ziG, ih (k + 1) _ (by omega) (by omega) (by omega), List.drop_eq_getElem_cons h]
   show _ = some ((max m (max (dE e.Kids[k]) (dEs (e.Kids.drop (k + 1)))) + 1 : Nat) : Int)
   rw [Nat.max_assoc]
  ·rw [if_neg (by simp; omega), List.drop_of_length_le (by omega), zcq (by omega)]
   show _ = some ((max m 0 + 1 : Nat) : Int)
   rw [Nat.max_zero]
theorem zmj : ∀ (n : Nat) (e : za), szE e ≤ n → szE e ≤ 1000000000 → zgM n e = some ((dE e : Nat) : Int)
 | 0, e, h, _ => by have := zkR e; omega
 | n + 1, e, h, hl => by
  have hk := zgo e
  have hs := zeh e.Kids
  show zhn (zgM n) e big 0 0 = _
  have := zq0 (R := zgM n) (e := e) (fun x hx => zmj n x (by have := zeD hx; omega) (by have := zeD hx; omega)) hl big 0 0 (by omega) (zb9 (by omega)) (by omega)
  refine this.trans ?_
  rw [zk7, Nat.zero_max, Nat.add_comm]
  rfl
theorem zn8 {e : za} (h : szE e ≤ 1000000000) : zmD e = some ((dE e : Nat) : Int) := zmj big e (Nat.le_of_lt (zb9 (by omega))) h
def dpB : Nat → List Stm → Bool
 | 0, l => l.any fun _ => true
 | q + 1, l => l.any fun s => (s.Kids.any fun x => decide (dE x > 40)) || dpB q s.Body || dpB q s.Else
theorem zpw (l : List za) (hl : zV l ≤ 1000000000) : ∀ (n k : Nat), k ≤ l.length → l.length - k < n → ∃ i : Int, zeT l n (k : Int) = some i ∧ decide (i ≥ 0) = (l.drop k).any fun x => decide (dE x > 40) := by
 have hs := zeh l
 intro n
 induction n with
 | zero => intro k _ h; omega
 | succ n ih =>
  intro k hk hn
  show ∃ i : Int, zgV (zeT l n) l (k : Int) = some i ∧ _
  unfold zgV
  by_cases h : k < l.length
  ·have h1 := zeD (List.getElem_mem h)
   have e1 : zgu l[k] = some (decide (dE l[k] > 40)) := by
    unfold zgu
    rw [zqr (by omega), Option.bind_some]
    congr 1
    rw [Bool.eq_iff_iff]
    simp only [decide_eq_true_eq]
    omega
   rw [if_pos (zbo (by omega)), zdd h, Option.bind_some, e1, Option.bind_some, List.drop_eq_getElem_cons h, List.any_cons]
   cases hd : decide (dE l[k] > 40) with
   | true => exact ⟨(k : Int), if_pos rfl, zbo (by omega)⟩
   | false =>
    rw [if_neg (by simp), zcq (by omega), Bool.false_or]
    exact ih (k + 1) (by omega) (by omega)
  ·rw [if_neg (by simp; omega), List.drop_of_length_le (by omega)]
   exact ⟨-1, rfl, rfl⟩
theorem zn2 (l : List za) (hl : zV l ≤ 1000000000) : zhb l = some (l.any fun x => decide (dE x > 40)) := by
 have hs := zeh l
 unfold zhb zir
 obtain ⟨i, h1, h2⟩ := zpw l hl big 0 (by omega) (zb9 (by omega))
 have h1 : zeT l big 0 = some i := h1
 rw [h1, Option.bind_some, h2]
 rfl
theorem zoT {R : List Stm → Int → Option Bool} {q : Nat} (hq : q ≤ 1000) {s : Stm} (hs : szS s ≤ 1000000000) (h : ∀ q' l, q = q' + 1 → zF l < szS s → R l ((q' : Nat) : Int) = some (dpB q' l)) : zhk R s (q : Int) = some (match q with
  | 0 => true
  | q' + 1 => (s.Kids.any fun x => decide (dE x > 40)) || dpB q' s.Body || dpB q' s.Else) := by
 have hz := zcN s
 unfold zhk
 cases q with
 | zero => rfl
 | succ q =>
  have e0 : IntKind.i64.wrap (((q + 1 : Nat) : Int) - 1) = (q : Int) := by rw [zer (by omega)]; omega
  rw [if_neg (by simp; omega), zn2 _ (by omega), e0, h q s.Body rfl (by omega), h q s.Else rfl (by omega)]
  simp only [Option.bind_some]
  cases s.Kids.any fun x => decide (dE x > 40) <;> cases dpB q s.Body <;> rfl
theorem znZ {R : List Stm → Int → Option Bool} {q : Nat} (hq : q ≤ 1000) {l : List Stm} (hl : zF l ≤ 1000000000) (hR : ∀ q' s x, s ∈ l → q = q' + 1 → zF x < szS s → R x ((q' : Nat) : Int) = some (dpB q' x)) : ∀ (n k : Nat), k ≤ l.length → l.length - k < n → ∃ i : Int, ze6 R l (q : Int) n (k : Int) = some i ∧ decide (i ≥ 0) = dpB q (l.drop k) := by
 have hs := zfu l
 intro n
 induction n with
 | zero => intro k _ h; omega
 | succ n ih =>
  intro k hk hn
  show ∃ i : Int, zgY (ze6 R l (q : Int) n) R l (q : Int) (k : Int) = some i ∧ _
  unfold zgY
  by_cases h : k < l.length
  ·have h1 := zhp (List.getElem_mem h)
   have e1 := zoT (R := R) hq (s := l[k]) (by omega) fun q' x e hx => hR q' _ x (List.getElem_mem h) e hx
   have ih' := ih (k + 1) (by omega) (by omega)
   rw [if_pos (zbo (by omega)), zdd h, Option.bind_some, e1, Option.bind_some, List.drop_eq_getElem_cons h, zcq (by omega)]
   cases q with
   | zero => exact ⟨(k : Int), if_pos rfl, zbo (by omega)⟩
   | succ q =>
    rw [show dpB (q + 1) (l[k] :: l.drop (k + 1)) = (((l[k].Kids.any fun x => decide (dE x > 40)) || dpB q l[k].Body || dpB q l[k].Else) || dpB (q + 1) (l.drop (k + 1))) from rfl]
    dsimp only
    by_cases hd : ((l[k].Kids.any fun x => decide (dE x > 40)) || dpB q l[k].Body || dpB q l[k].Else) = true
    ·exact ⟨(k : Int), if_pos hd, by rw [hd]; exact zbo (by omega)⟩
    ·obtain ⟨i, i1, i2⟩ := ih'
     exact ⟨i, (if_neg hd).trans i1, by rw [Bool.eq_false_iff.2 hd, Bool.false_or]; exact i2⟩
  ·rw [if_neg (by simp; omega), List.drop_of_length_le (by omega)]
   exact ⟨-1, rfl, by cases q <;> rfl⟩
theorem zmH : ∀ (n q : Nat) (l : List Stm), zF l < n → zF l ≤ 1000000000 → q ≤ 1000 → zcX n l (q : Int) = some (dpB q l)
 | 0, q, l, h, _, _ => by omega
 | n + 1, q, l, h, hl, hq => by
  have hs := zfu l
  show ((zgH (zcX n) l (q : Int)).bind fun c => some c) = _
  unfold zgH zh2
  obtain ⟨i, h1, h2⟩ := znZ (R := zcX n) hq hl (fun q' s x hm e hx => by have := zhp hm; exact zmH n q' x (by omega) (by omega) (by omega)) big 0 (by omega) (zb9 (by omega))
  have h1 : ze6 (zcX n) l (q : Int) big 0 = some i := h1
  rw [h1, Option.bind_some, Option.bind_some, h2]
  rfl
theorem zql {l : List Stm} (hl : zF l ≤ 1000000000) : zi9 l 40 = some (dpB 40 l) := zmH big 40 l (zb9 (by omega)) hl (by omega)
def zeP (D : List zi) : Bool := D.any fun d => dpB 40 d.Body
theorem zpP {D : List zi} (hl : D.length ≤ 1000000) (hD : ∀ d ∈ D, zF d.Body ≤ 1000000000) : ∀ (n k : Nat), k ≤ D.length → D.length - k < n → ∃ i : Int, ze4 D n (k : Int) = some i ∧ decide (i ≥ 0) = zeP (D.drop k) := by
 intro n
 induction n with
 | zero => intro k _ h; omega
 | succ n ih =>
  intro k hk hn
  show ∃ i : Int, zgw (ze4 D n) D (k : Int) = some i ∧ _
  unfold zgw zhB
  by_cases h : k < D.length
  ·have ih' := ih (k + 1) (by omega) (by omega)
   rw [if_pos (zbo (by omega)), zdd h, Option.bind_some, zql (hD _ (List.getElem_mem h)), Option.bind_some, Option.bind_some, List.drop_eq_getElem_cons h, zcq (by omega)]
   unfold zeP at ih' ⊢
   rw [List.any_cons]
   cases hd : dpB 40 D[k].Body with
   | true => exact ⟨(k : Int), if_pos rfl, zbo (by omega)⟩
   | false =>
    rw [if_neg (by simp), Bool.false_or]
    exact ih'
  ·rw [if_neg (by simp; omega), List.drop_of_length_le (by omega)]
   exact ⟨-1, rfl, rfl⟩
theorem zrc {D : List zi} (hl : D.length ≤ 1000000) (hD : ∀ d ∈ D, zF d.Body ≤ 1000000000) : zfS D = some (zeP D) := by
 unfold zfS ziH
 obtain ⟨i, h1, h2⟩ := zpP hl hD big 0 (by omega) (zb9 (by omega))
 have h1 : ze4 D big 0 = some i := h1
 rw [h1, Option.bind_some, h2]
 rfl
def Dp (l : List Stm) (v : Nat) : Prop := v ≤ 41 + zF l ∧ ∀ q, q ≤ 40 → (q < v ↔ dpB q l = true)
theorem znz (q : Nat) (l l' : List Stm) : dpB q (l ++ l') = (dpB q l || dpB q l') := by
 cases q with
 | zero => exact List.any_append
 | succ q => exact List.any_append
theorem zqf {rec14 : Int → Int → Option Int} {l : List Stm} {j a b c : Nat} (hj : j < l.length) (hl : zF l ≤ 1000000000) (hb : b ≤ 2000000000) (hc : c ≤ 2000000000) : ∀ (n k : Nat), k ≤ l[j].Kids.length → l[j].Kids.length - k < n → zgC rec14 l (a : Int) (j : Int) (b : Int) (c : Int) n (k : Int) = if ((l[j].Kids.drop k).any fun x => decide (dE x > 40)) = true then some 41 else rec14 ((max (max a (1 + b)) (1 + c) : Nat) : Int) ((j + 1 : Nat) : Int) := by
 have h0 := zhp (List.getElem_mem hj)
 have hz := zcN l[j]
 have hs := zeh l[j].Kids
 have hs' := zfu l
 intro n
 induction n with
 | zero => intro k _ h; omega
 | succ n ih =>
  intro k hk hn
  show zkU (zgC rec14 l (a : Int) (j : Int) (b : Int) (c : Int) n) rec14 l (a : Int) (j : Int) (b : Int) (c : Int) (k : Int) = _
  unfold zkU
  rw [zdd hj, Option.bind_some, Option.bind_some]
  by_cases h : k < l[j].Kids.length
  ·have h1 := zeD (List.getElem_mem h)
   rw [if_pos (zbo (by omega)), zdd h, Option.bind_some, zn8 (by omega), Option.bind_some, List.drop_eq_getElem_cons h, List.any_cons]
   by_cases hd : dE l[j].Kids[k] > 40
   ·rw [if_pos (zbo (by omega)), zbo hd]
    rfl
   ·rw [if_neg (by simp; omega), zdD hd, Bool.false_or, zcq (by omega)]
    exact ih (k + 1) (by omega) (by omega)
  ·rw [if_neg (by simp; omega), List.drop_of_length_le (by omega), zcq (by omega)]
   rw [show IntKind.i64.wrap (1 + (b : Int)) = ((1 + b : Nat) : Int) by rw [zer (by omega)]; omega, show IntKind.i64.wrap (1 + (c : Int)) = ((1 + c : Nat) : Int) by rw [zer (by omega)]; omega, ziG, ziG]
   rfl
theorem zpL {R : List Stm → Option Int} {l : List Stm} (hl : zF l ≤ 1000000000) (hR : ∀ s x, s ∈ l → zF x < szS s → ∃ v : Nat, R x = some ((v : Nat) : Int) ∧ Dp x v) : ∀ (n k a : Nat), k ≤ l.length → l.length - k < n → Dp (l.take k) a → ∃ v : Nat, zfz R l n (a : Int) (k : Int) = some ((v : Nat) : Int) ∧ Dp l v := by
 have hs := zfu l
 intro n
 induction n with
 | zero => intro k _ _ h; omega
 | succ n ih =>
  intro k a hk hn ha
  show ∃ v : Nat, zjY (zfz R l n) R l (a : Int) (k : Int) = some ((v : Nat) : Int) ∧ _
  unfold zjY
  by_cases h : k < l.length
  ·have h0 := zhp (List.getElem_mem h)
   have hz := zcN l[k]
   have hz' := zeh l[k].Kids
   obtain ⟨b, eb, db⟩ := hR l[k] l[k].Body (List.getElem_mem h) (by omega)
   obtain ⟨c, ec, dc⟩ := hR l[k] l[k].Else (List.getElem_mem h) (by omega)
   have hb := db.1
   have hc := dc.1
   rw [if_pos (zbo (by omega)), zdd h, Option.bind_some, Option.bind_some, eb, Option.bind_some, ec, Option.bind_some]
   have e1 := zqf (rec14 := zfz R l n) (j := k) (a := a) (b := b) (c := c) h hl (by omega) (by omega) big 0 (by omega) (zb9 (by omega))
   have e1 : zgC (zfz R l n) l (a : Int) (k : Int) (b : Int) (c : Int) big 0 = _ := e1
   rw [e1, List.drop_zero]
   by_cases hd : (l[k].Kids.any fun x => decide (dE x > 40)) = true
   ·rw [if_pos hd]
    refine ⟨41, rfl, by omega, fun q hq => ⟨fun _ => ?_, fun _ => by omega⟩⟩
    cases q with
    | zero => exact List.any_eq_true.2 ⟨_, List.getElem_mem h, rfl⟩
    | succ q => exact List.any_eq_true.2 ⟨_, List.getElem_mem h, by rw [hd]; rfl⟩
   ·rw [if_neg hd]
    refine ih (k + 1) _ (by omega) (by omega) ⟨?_, fun q hq => ?_⟩
    ·have ha := ha.1
     have e2 : zF (l.take (k + 1)) = zF (l.take k) + szS l[k] := by
      rw [List.take_succ_eq_append_getElem h]
      exact zk6 _ _
     omega
    ·rw [List.take_succ_eq_append_getElem h, znz, Bool.or_eq_true, ← ha.2 q hq]
     cases q with
     | zero =>
      have : dpB 0 [l[k]] = true := rfl
      simp only [this, or_true, iff_true]
      omega
     | succ q =>
      have e3 : dpB (q + 1) [l[k]] = (dpB q l[k].Body || dpB q l[k].Else) := by
       show ([l[k]].any fun s => (s.Kids.any fun x => decide (dE x > 40)) || dpB q s.Body || dpB q s.Else) = _
       simp only [List.any_cons, List.any_nil, Bool.or_false]
       rw [show (l[k].Kids.any fun x => decide (dE x > 40)) = false by simpa using hd, Bool.false_or]
      rw [e3, Bool.or_eq_true, ← db.2 q (by omega), ← dc.2 q (by omega)]
      omega
  ·rw [if_neg (by simp; omega)]
   rw [List.take_of_length_le (by omega)] at ha
   exact ⟨a, rfl, ha⟩
theorem zl3 : ∀ (n : Nat) (l : List Stm), zF l < n → zF l ≤ 1000000000 → ∃ v : Nat, zkN n l = some ((v : Nat) : Int) ∧ Dp l v
 | 0, l, h, _ => by omega
 | n + 1, l, h, hl => by
  have hs := zfu l
  exact zpL hl (fun s x hm hx => by have := zhp hm; exact zl3 n x (by omega) (by omega)) big 0 0 (by omega) (zb9 (by omega)) ⟨by omega, fun q _ => ⟨fun h => by omega, fun h => by cases q <;> cases h⟩⟩
theorem zqJ {l : List Stm} (hl : zF l ≤ 1000000000) : ∃ v : Nat, zl7 l = some ((v : Nat) : Int) ∧ Dp l v := zl3 big l (zb9 (by omega)) hl
theorem zqs {S : List zo} {D : List zi} (hl : D.length ≤ 1000000) (hD : ∀ d ∈ D, zF d.Body ≤ 1000000000) : ∀ (n k : Nat), k ≤ D.length → D.length - k < n → ziI ⟨S, D⟩ n (k : Int) = some (zeP (D.drop k)) := by
 intro n
 induction n with
 | zero => intro k _ h; omega
 | succ n ih =>
  intro k hk hn
  show zjD (ziI ⟨S, D⟩ n) ⟨S, D⟩ (k : Int) = _
  unfold zjD
  dsimp only
  by_cases h : k < D.length
  ·obtain ⟨v, ev, dv⟩ := zqJ (hD _ (List.getElem_mem h))
   have ih' := ih (k + 1) (by omega) (by omega)
   have d40 := dv.2 40 (by omega)
   rw [if_pos (zbo (by omega)), zdd h, Option.bind_some, ev, Option.bind_some, List.drop_eq_getElem_cons h, zcq (by omega)]
   unfold zeP at ih' ⊢
   rw [List.any_cons]
   cases hd : dpB 40 D[k].Body with
   | true =>
    rw [hd] at d40
    rw [if_pos (zbo (by have := d40.2 rfl; omega))]
    rfl
   | false =>
    rw [hd] at d40
    rw [if_neg (by have := mt d40.1 (by simp); simp; omega), Bool.false_or]
    exact ih'
  ·rw [if_neg (by simp; omega), List.drop_of_length_le (by omega)]
   rfl
theorem zqO {S : List zo} {D : List zi} (hl : D.length ≤ 1000000) (hD : ∀ d ∈ D, zF d.Body ≤ 1000000000) : zlz ⟨S, D⟩ = some (zeP D) :=
 zqs hl hD big 0 (by omega) (zb9 (by omega))
end Go.Proofs.Ytnhboaaikehpoaa
