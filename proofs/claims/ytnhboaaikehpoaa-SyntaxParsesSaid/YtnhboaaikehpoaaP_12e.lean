import Derived.Test.YtnhboaaikehpoaaP_12d
import Derived.KernelRfl
namespace Go.Proofs.Ytnhboaaikehpoaa
open Go.Ab Go.RowKit
set_option linter.unusedVariables false
set_option linter.unusedSimpArgs false
mutual
def szE : zb → Nat
 | ⟨_, _, _, _, _, ks⟩ => 1 + z4 ks
def z4 : List zb → Nat
 | [] => 0
 | e :: l => szE e + z4 l
end
mutual
def szS : Stm → Nat
 | ⟨_, _, _, _, _, _, ks, b, e⟩ => 1 + z4 ks + zK b + zK e
def zK : List Stm → Nat
 | [] => 0
 | e :: l => szS e + zK l
end
mutual
def dE : zb → Nat
 | ⟨_, _, _, _, _, ks⟩ => 1 + dEs ks
def dEs : List zb → Nat
 | [] => 0
 | e :: l => max (dE e) (dEs l)
end
theorem zfR (e : zb) : szE e = 1 + z4 e.Kids := by cases e; rfl
theorem zlK (e : zb) : dE e = 1 + dEs e.Kids := by cases e; rfl
theorem zcG (s : Stm) : szS s = 1 + z4 s.Kids + zK s.Body + zK s.Else := by cases s; rfl
mutual
theorem zj9 : ∀ e : zb, dE e ≤ szE e
 | ⟨_, _, _, _, _, ks⟩ => by
  have := zmw ks
  show 1 + dEs ks ≤ 1 + z4 ks
  omega
theorem zmw : ∀ l : List zb, dEs l ≤ z4 l
 | [] => Nat.le_refl _
 | e :: l => by
  have := zj9 e
  have := zmw l
  show max (dE e) (dEs l) ≤ szE e + z4 l
  omega
end
theorem zkc (e : zb) : 1 ≤ szE e := by rw [zfR]; omega
theorem zp1 (e : Stm) : 1 ≤ szS e := by rw [zcG]; omega
theorem zdv : ∀ l : List zb, l.length ≤ z4 l
 | [] => Nat.le_refl _
 | e :: l => by
  have := zdv l
  have := zkc e
  show l.length + 1 ≤ szE e + z4 l
  omega
theorem zeu : ∀ l : List Stm, l.length ≤ zK l
 | [] => Nat.le_refl _
 | e :: l => by
  have := zeu l
  have := zp1 e
  show l.length + 1 ≤ szS e + zK l
  omega
theorem zd4 {l : List zb} {x : zb} (h : x ∈ l) : szE x ≤ z4 l := by
 induction l with
 | nil => cases h
 | cons e l ih =>
  show szE x ≤ szE e + z4 l
  cases h with
  | head => omega
  | tail _ h => have := ih h; omega
theorem zfo {l : List Stm} {x : Stm} (h : x ∈ l) : szS x ≤ zK l := by
 induction l with
 | nil => cases h
 | cons e l ih =>
  show szS x ≤ szS e + zK l
  cases h with
  | head => omega
  | tail _ h => have := ih h; omega
theorem ziN (a b : Nat) : zcR (a : Int) (b : Int) = ((max a b : Nat) : Int) := by
 unfold zcR
 split <;> omega
theorem zlB (l : List Stm) (s : Stm) : zK (l ++ [s]) = zK l + szS s := by
 induction l with
 | nil => show szS s + 0 = 0 + szS s; omega
 | cons e y ih =>
  show szS e + zK (y ++ [s]) = szS e + zK y + szS s
  omega
theorem zn5 (l : List zb) (s : zb) : z4 (l ++ [s]) = z4 l + szE s := by
 induction l with
 | nil => show szE s + 0 = 0 + szE s; omega
 | cons e y ih =>
  show szE e + z4 (y ++ [s]) = szE e + z4 y + szE s
  omega
theorem zqt {R : zb → Option Int} {e : zb} (hR : ∀ x ∈ e.Kids, R x = some ((dE x : Nat) : Int)) (hl : szE e ≤ 1000000000) : ∀ (n k m : Nat), k ≤ e.Kids.length → e.Kids.length - k < n → m ≤ 1000000000 → ze1 R e n (m : Int) (k : Int) = some ((max m (dEs (e.Kids.drop k)) + 1 : Nat) : Int) := by
 have hk := zfR e
 have hs := zdv e.Kids
 intro n
 induction n with
 | zero => intro k m _ h; omega
 | succ n ih =>
  intro k m hkl hn hm
  show zg2 (ze1 R e n) R e (m : Int) (k : Int) = _
  unfold zg2
  by_cases h : k < e.Kids.length
  ·have h1 := zd4 (List.getElem_mem h)
   have h2 := zj9 e.Kids[k]
   rw [if_pos (zbq (by omega)), zb8 h, Option.bind_some, hR _ (List.getElem_mem h), Option.bind_some, zb0 (by omega), ziN, ih (k + 1) _ (by omega) (by omega) (by omega), List.drop_eq_getElem_cons h]
   show _ = some ((max m (max (dE e.Kids[k]) (dEs (e.Kids.drop (k + 1)))) + 1 : Nat) : Int)
   rw [Nat.max_assoc]
  ·rw [if_neg (by simp; omega), List.drop_of_length_le (by omega), zb0 (by omega)]
   show _ = some ((max m 0 + 1 : Nat) : Int)
   rw [Nat.max_zero]
theorem zlp : ∀ (n : Nat) (e : zb), szE e ≤ n → szE e ≤ 1000000000 → zdR n e = some ((dE e : Nat) : Int)
 | 0, e, h, _ => by have := zkc e; omega
 | n + 1, e, h, hl => by
  have hk := zfR e
  have hs := zdv e.Kids
  show ze1 (zdR n) e big 0 0 = _
  have := zqt (R := zdR n) (e := e) (fun x hx => zlp n x (by have := zd4 hx; omega) (by have := zd4 hx; omega)) hl big 0 0 (by omega) (zbM (by omega)) (by omega)
  refine this.trans ?_
  rw [zlK, Nat.zero_max, Nat.add_comm]
  rfl
theorem zrc {e : zb} (h : szE e ≤ 1000000000) : zi6 e = some ((dE e : Nat) : Int) := zlp big e (Nat.le_of_lt (zbM (by omega))) h
theorem zpc {R : zb → Option Int} {e : zb} (hR : ∀ x ∈ e.Kids, R x = some ((dE x : Nat) : Int)) (hl : szE e ≤ 1000000000) : ∀ (n k m : Nat), k ≤ e.Kids.length → e.Kids.length - k < n → m ≤ 1000000000 → ze3 R e n (m : Int) (k : Int) = some ((max m (dEs (e.Kids.drop k)) + 1 : Nat) : Int) := by
 have hk := zfR e
 have hs := zdv e.Kids
 intro n
 induction n with
 | zero => intro k m _ h; omega
 | succ n ih =>
  intro k m hkl hn hm
  show zgt (ze3 R e n) R e (m : Int) (k : Int) = _
  unfold zgt
  by_cases h : k < e.Kids.length
  ·have h1 := zd4 (List.getElem_mem h)
   have h2 := zj9 e.Kids[k]
   rw [if_pos (zbq (by omega)), zb8 h, Option.bind_some, hR _ (List.getElem_mem h), Option.bind_some, zb0 (by omega), ziN, ih (k + 1) _ (by omega) (by omega) (by omega), List.drop_eq_getElem_cons h]
   show _ = some ((max m (max (dE e.Kids[k]) (dEs (e.Kids.drop (k + 1)))) + 1 : Nat) : Int)
   rw [Nat.max_assoc]
  ·rw [if_neg (by simp; omega), List.drop_of_length_le (by omega), zb0 (by omega)]
   show _ = some ((max m 0 + 1 : Nat) : Int)
   rw [Nat.max_zero]
theorem zk5 : ∀ (n : Nat) (e : zb), szE e ≤ n → szE e ≤ 1000000000 → zd1 n e = some ((dE e : Nat) : Int)
 | 0, e, h, _ => by have := zkc e; omega
 | n + 1, e, h, hl => by
  have hk := zfR e
  have hs := zdv e.Kids
  show ze3 (zd1 n) e big 0 0 = _
  have := zpc (R := zd1 n) (e := e) (fun x hx => zk5 n x (by have := zd4 hx; omega) (by have := zd4 hx; omega)) hl big 0 0 (by omega) (zbM (by omega)) (by omega)
  refine this.trans ?_
  rw [zlK, Nat.zero_max, Nat.add_comm]
  rfl
theorem zqe {e : zb} (h : szE e ≤ 1000000000) : zkN e = some ((dE e : Nat) : Int) := zk5 big e (Nat.le_of_lt (zbM (by omega))) h
def dpB : Nat → List Stm → Bool
 | 0, l => l.any fun _ => true
 | q + 1, l => l.any fun s => (s.Kids.any fun x => decide (dE x > 40)) || dpB q s.Body || dpB q s.Else
theorem zri (l : List zb) (hl : z4 l ≤ 1000000000) : ∀ (n k : Nat), k ≤ l.length → l.length - k < n → ∃ i : Int, ze9 l n (k : Int) = some i ∧ decide (i ≥ 0) = (l.drop k).any fun x => decide (dE x > 40) := by
 have hs := zdv l
 intro n
 induction n with
 | zero => intro k _ h; omega
 | succ n ih =>
  intro k hk hn
  show ∃ i : Int, zgT (ze9 l n) l (k : Int) = some i ∧ _
  unfold zgT
  by_cases h : k < l.length
  ·have h1 := zd4 (List.getElem_mem h)
   have e1 : zgK l[k] = some (decide (dE l[k] > 40)) := by
    unfold zgK
    rw [zrc (by omega), Option.bind_some]
    congr 1
    rw [Bool.eq_iff_iff]
    simp only [decide_eq_true_eq]
    omega
   rw [if_pos (zbq (by omega)), zb8 h, Option.bind_some, e1, Option.bind_some, List.drop_eq_getElem_cons h, List.any_cons]
   cases hd : decide (dE l[k] > 40) with
   | true => exact ⟨(k : Int), if_pos rfl, zbq (by omega)⟩
   | false =>
    rw [if_neg (by simp), zb0 (by omega), Bool.false_or]
    exact ih (k + 1) (by omega) (by omega)
  ·rw [if_neg (by simp; omega), List.drop_of_length_le (by omega)]
   exact ⟨-1, rfl, rfl⟩
theorem zpZ (l : List zb) (hl : z4 l ≤ 1000000000) : zhH l = some (l.any fun x => decide (dE x > 40)) := by
 have hs := zdv l
 unfold zhH zh7
 obtain ⟨i, h1, h2⟩ := zri l hl big 0 (by omega) (zbM (by omega))
 have h1 : ze9 l big 0 = some i := h1
 rw [h1, Option.bind_some, h2]
 rfl
theorem zpj {R : List Stm → Int → Option Bool} {q : Nat} (hq : q ≤ 1000) {s : Stm} (hs : szS s ≤ 1000000000) (h : ∀ q' l, q = q' + 1 → zK l < szS s → R l ((q' : Nat) : Int) = some (dpB q' l)) : zgG R s (q : Int) = some (match q with
  | 0 => true
  | q' + 1 => (s.Kids.any fun x => decide (dE x > 40)) || dpB q' s.Body || dpB q' s.Else) := by
 have hz := zcG s
 unfold zgG
 cases q with
 | zero => rfl
 | succ q =>
  have e0 : IntKind.i64.wrap (((q + 1 : Nat) : Int) - 1) = (q : Int) := by rw [zfa (by omega)]; omega
  rw [if_neg (by simp; omega), zpZ _ (by omega), e0, h q s.Body rfl (by omega), h q s.Else rfl (by omega)]
  simp only [Option.bind_some]
  cases s.Kids.any fun x => decide (dE x > 40) <;> cases dpB q s.Body <;> rfl
theorem zqF {R : List Stm → Int → Option Bool} {q : Nat} (hq : q ≤ 1000) {l : List Stm} (hl : zK l ≤ 1000000000) (hR : ∀ q' s x, s ∈ l → q = q' + 1 → zK x < szS s → R x ((q' : Nat) : Int) = some (dpB q' x)) : ∀ (n k : Nat), k ≤ l.length → l.length - k < n → ∃ i : Int, ze6 R l (q : Int) n (k : Int) = some i ∧ decide (i ≥ 0) = dpB q (l.drop k) := by
 have hs := zeu l
 intro n
 induction n with
 | zero => intro k _ h; omega
 | succ n ih =>
  intro k hk hn
  show ∃ i : Int, zht (ze6 R l (q : Int) n) R l (q : Int) (k : Int) = some i ∧ _
  unfold zht
  by_cases h : k < l.length
  ·have h1 := zfo (List.getElem_mem h)
   have e1 := zpj (R := R) hq (s := l[k]) (by omega) fun q' x e hx => hR q' _ x (List.getElem_mem h) e hx
   have ih' := ih (k + 1) (by omega) (by omega)
   rw [if_pos (zbq (by omega)), zb8 h, Option.bind_some, e1, Option.bind_some, List.drop_eq_getElem_cons h, zb0 (by omega)]
   cases q with
   | zero => exact ⟨(k : Int), if_pos rfl, zbq (by omega)⟩
   | succ q =>
    rw [show dpB (q + 1) (l[k] :: l.drop (k + 1)) = (((l[k].Kids.any fun x => decide (dE x > 40)) || dpB q l[k].Body || dpB q l[k].Else) || dpB (q + 1) (l.drop (k + 1))) from rfl]
    dsimp only
    by_cases hd : ((l[k].Kids.any fun x => decide (dE x > 40)) || dpB q l[k].Body || dpB q l[k].Else) = true
    ·exact ⟨(k : Int), if_pos hd, by rw [hd]; exact zbq (by omega)⟩
    ·obtain ⟨i, i1, i2⟩ := ih'
     exact ⟨i, (if_neg hd).trans i1, by rw [Bool.eq_false_iff.2 hd, Bool.false_or]; exact i2⟩
  ·rw [if_neg (by simp; omega), List.drop_of_length_le (by omega)]
   exact ⟨-1, rfl, by cases q <;> rfl⟩
theorem zne : ∀ (n q : Nat) (l : List Stm), zK l < n → zK l ≤ 1000000000 → q ≤ 1000 → zc3 n l (q : Int) = some (dpB q l)
 | 0, q, l, h, _, _ => by omega
 | n + 1, q, l, h, hl, hq => by
  have hs := zeu l
  show ((zhe (zc3 n) l (q : Int)).bind fun c => some c) = _
  unfold zhe ziE
  obtain ⟨i, h1, h2⟩ := zqF (R := zc3 n) hq hl (fun q' s x hm e hx => by have := zfo hm; exact zne n q' x (by omega) (by omega) (by omega)) big 0 (by omega) (zbM (by omega))
  have h1 : ze6 (zc3 n) l (q : Int) big 0 = some i := h1
  rw [h1, Option.bind_some, Option.bind_some, h2]
  rfl
theorem zrp {l : List Stm} (hl : zK l ≤ 1000000000) : zja l 40 = some (dpB 40 l) := zne big 40 l (zbM (by omega)) hl (by omega)
def zfB (D : List zp) : Bool := D.any fun d => dpB 40 d.Body
theorem zqB {D : List zp} (hl : D.length ≤ 1000000) (hD : ∀ d ∈ D, zK d.Body ≤ 1000000000) : ∀ (n k : Nat), k ≤ D.length → D.length - k < n → ∃ i : Int, zfn D n (k : Int) = some i ∧ decide (i ≥ 0) = zfB (D.drop k) := by
 intro n
 induction n with
 | zero => intro k _ h; omega
 | succ n ih =>
  intro k hk hn
  show ∃ i : Int, zhv (zfn D n) D (k : Int) = some i ∧ _
  unfold zhv ziv
  by_cases h : k < D.length
  ·have ih' := ih (k + 1) (by omega) (by omega)
   rw [if_pos (zbq (by omega)), zb8 h, Option.bind_some, zrp (hD _ (List.getElem_mem h)), Option.bind_some, Option.bind_some, List.drop_eq_getElem_cons h, zb0 (by omega)]
   unfold zfB at ih' ⊢
   rw [List.any_cons]
   cases hd : dpB 40 D[k].Body with
   | true => exact ⟨(k : Int), if_pos rfl, zbq (by omega)⟩
   | false =>
    rw [if_neg (by simp), Bool.false_or]
    exact ih'
  ·rw [if_neg (by simp; omega), List.drop_of_length_le (by omega)]
   exact ⟨-1, rfl, rfl⟩
theorem zoi {D : List zp} (hl : D.length ≤ 1000000) (hD : ∀ d ∈ D, zK d.Body ≤ 1000000000) : zfV D = some (zfB D) := by
 unfold zfV zhU
 obtain ⟨i, h1, h2⟩ := zqB hl hD big 0 (by omega) (zbM (by omega))
 have h1 : zfn D big 0 = some i := h1
 rw [h1, Option.bind_some, h2]
 rfl
def Dp (l : List Stm) (v : Nat) : Prop := v ≤ 41 + zK l ∧ ∀ q, q ≤ 40 → (q < v ↔ dpB q l = true)
theorem zo2 (q : Nat) (l l' : List Stm) : dpB q (l ++ l') = (dpB q l || dpB q l') := by
 cases q with
 | zero => exact List.any_append
 | succ q => exact List.any_append
theorem zp9 {rec14 : Int → Int → Option Int} {l : List Stm} {j a b c : Nat} (hj : j < l.length) (hl : zK l ≤ 1000000000) (hb : b ≤ 2000000000) (hc : c ≤ 2000000000) : ∀ (n k : Nat), k ≤ l[j].Kids.length → l[j].Kids.length - k < n → zeX rec14 l (a : Int) (j : Int) (b : Int) (c : Int) n (k : Int) = if ((l[j].Kids.drop k).any fun x => decide (dE x > 40)) = true then some 41 else rec14 ((max (max a (1 + b)) (1 + c) : Nat) : Int) ((j + 1 : Nat) : Int) := by
 have h0 := zfo (List.getElem_mem hj)
 have hz := zcG l[j]
 have hs := zdv l[j].Kids
 have hs' := zeu l
 intro n
 induction n with
 | zero => intro k _ h; omega
 | succ n ih =>
  intro k hk hn
  show zg5 (zeX rec14 l (a : Int) (j : Int) (b : Int) (c : Int) n) rec14 l (a : Int) (j : Int) (b : Int) (c : Int) (k : Int) = _
  unfold zg5
  rw [zb8 hj, Option.bind_some, Option.bind_some]
  by_cases h : k < l[j].Kids.length
  ·have h1 := zd4 (List.getElem_mem h)
   rw [if_pos (zbq (by omega)), zb8 h, Option.bind_some, zqe (by omega), Option.bind_some, List.drop_eq_getElem_cons h, List.any_cons]
   by_cases hd : dE l[j].Kids[k] > 40
   ·rw [if_pos (zbq (by omega)), zbq hd]
    rfl
   ·rw [if_neg (by simp; omega), zdy hd, Bool.false_or, zb0 (by omega)]
    exact ih (k + 1) (by omega) (by omega)
  ·rw [if_neg (by simp; omega), List.drop_of_length_le (by omega), zb0 (by omega)]
   rw [show IntKind.i64.wrap (1 + (b : Int)) = ((1 + b : Nat) : Int) by rw [zfa (by omega)]; omega, show IntKind.i64.wrap (1 + (c : Int)) = ((1 + c : Nat) : Int) by rw [zfa (by omega)]; omega, ziN, ziN]
   rfl
theorem zpX {R : List Stm → Option Int} {l : List Stm} (hl : zK l ≤ 1000000000) (hR : ∀ s x, s ∈ l → zK x < szS s → ∃ v : Nat, R x = some ((v : Nat) : Int) ∧ Dp x v) : ∀ (n k a : Nat), k ≤ l.length → l.length - k < n → Dp (l.take k) a → ∃ v : Nat, zdK R l n (a : Int) (k : Int) = some ((v : Nat) : Int) ∧ Dp l v := by
 have hs := zeu l
 intro n
 induction n with
 | zero => intro k _ _ h; omega
 | succ n ih =>
  intro k a hk hn ha
  show ∃ v : Nat, zhF (zdK R l n) R l (a : Int) (k : Int) = some ((v : Nat) : Int) ∧ _
  unfold zhF
  by_cases h : k < l.length
  ·have h0 := zfo (List.getElem_mem h)
   have hz := zcG l[k]
   have hz' := zdv l[k].Kids
   obtain ⟨b, eb, db⟩ := hR l[k] l[k].Body (List.getElem_mem h) (by omega)
   obtain ⟨c, ec, dc⟩ := hR l[k] l[k].Else (List.getElem_mem h) (by omega)
   have hb := db.1
   have hc := dc.1
   rw [if_pos (zbq (by omega)), zb8 h, Option.bind_some, Option.bind_some, eb, Option.bind_some, ec, Option.bind_some]
   have e1 := zp9 (rec14 := zdK R l n) (j := k) (a := a) (b := b) (c := c) h hl (by omega) (by omega) big 0 (by omega) (zbM (by omega))
   have e1 : zeX (zdK R l n) l (a : Int) (k : Int) (b : Int) (c : Int) big 0 = _ := e1
   rw [e1, List.drop_zero]
   by_cases hd : (l[k].Kids.any fun x => decide (dE x > 40)) = true
   ·rw [if_pos hd]
    refine ⟨41, rfl, by omega, fun q hq => ⟨fun _ => ?_, fun _ => by omega⟩⟩
    cases q with
    | zero => exact List.any_eq_true.2 ⟨_, List.getElem_mem h, rfl⟩
    | succ q => exact List.any_eq_true.2 ⟨_, List.getElem_mem h, by rw [hd]; rfl⟩
   ·rw [if_neg hd]
    refine ih (k + 1) _ (by omega) (by omega) ⟨?_, fun q hq => ?_⟩
    ·have ha := ha.1
     have e2 : zK (l.take (k + 1)) = zK (l.take k) + szS l[k] := by
      rw [List.take_succ_eq_append_getElem h]
      exact zlB _ _
     omega
    ·rw [List.take_succ_eq_append_getElem h, zo2, Bool.or_eq_true, ← ha.2 q hq]
     cases q with
     | zero =>
      have : dpB 0 [l[k]] = true := rfl
      simp only [this, or_true, iff_true]
      omega
     | succ q =>
      have e3 : dpB (q + 1) [l[k]] = (dpB q l[k].Body || dpB q l[k].Else) := by
       show ([l[k]].any fun s => (s.Kids.any fun x => decide (dE x > 40)) || dpB q s.Body || dpB q s.Else) = _
       simp only [List.any_cons, List.any_nil, Bool.or_false]
       rw [show (l[k].Kids.any fun x => decide (dE x > 40)) = false by simpa using hd, Bool.false_or]
      rw [e3, Bool.or_eq_true, ← db.2 q (by omega), ← dc.2 q (by omega)]
      omega
  ·rw [if_neg (by simp; omega)]
   rw [List.take_of_length_le (by omega)] at ha
   exact ⟨a, rfl, ha⟩
theorem zmF : ∀ (n : Nat) (l : List Stm), zK l < n → zK l ≤ 1000000000 → ∃ v : Nat, zdz n l = some ((v : Nat) : Int) ∧ Dp l v
 | 0, l, h, _ => by omega
 | n + 1, l, h, hl => by
  have hs := zeu l
  exact zpX hl (fun s x hm hx => by have := zfo hm; exact zmF n x (by omega) (by omega)) big 0 0 (by omega) (zbM (by omega)) ⟨by omega, fun q _ => ⟨fun h => by omega, fun h => by cases q <;> cases h⟩⟩
theorem znV {l : List Stm} (hl : zK l ≤ 1000000000) : ∃ v : Nat, zkH l = some ((v : Nat) : Int) ∧ Dp l v := zmF big l (zbM (by omega)) hl
theorem zpu {S : List zw} {D : List zp} (hl : D.length ≤ 1000000) (hD : ∀ d ∈ D, zK d.Body ≤ 1000000000) : ∀ (n k : Nat), k ≤ D.length → D.length - k < n → zgb ⟨S, D⟩ n (k : Int) = some (zfB (D.drop k)) := by
 intro n
 induction n with
 | zero => intro k _ h; omega
 | succ n ih =>
  intro k hk hn
  show zhw (zgb ⟨S, D⟩ n) ⟨S, D⟩ (k : Int) = _
  unfold zhw
  dsimp only
  by_cases h : k < D.length
  ·obtain ⟨v, ev, dv⟩ := znV (hD _ (List.getElem_mem h))
   have ih' := ih (k + 1) (by omega) (by omega)
   have d40 := dv.2 40 (by omega)
   rw [if_pos (zbq (by omega)), zb8 h, Option.bind_some, ev, Option.bind_some, List.drop_eq_getElem_cons h, zb0 (by omega)]
   unfold zfB at ih' ⊢
   rw [List.any_cons]
   cases hd : dpB 40 D[k].Body with
   | true =>
    rw [hd] at d40
    rw [if_pos (zbq (by have := d40.2 rfl; omega))]
    rfl
   | false =>
    rw [hd] at d40
    rw [if_neg (by have := mt d40.1 (by simp); simp; omega), Bool.false_or]
    exact ih'
  ·rw [if_neg (by simp; omega), List.drop_of_length_le (by omega)]
   rfl
theorem zn3 {S : List zw} {D : List zp} (hl : D.length ≤ 1000000) (hD : ∀ d ∈ D, zK d.Body ≤ 1000000000) : ziG ⟨S, D⟩ = some (zfB D) :=
 zpu hl hD big 0 (by omega) (zbM (by omega))
end Go.Proofs.Ytnhboaaikehpoaa
