import Derived.Test.YtnhboaaikehpoaaPL
import Derived.KernelRfl
namespace Go.Proofs.Ytnhboaaikehpoaa
open Go.Ab Go.RowKit
set_option linter.unusedVariables false
set_option linter.unusedSimpArgs false
abbrev Tok := zl
abbrev BA := ByteArray
abbrev PS := zb
def mkP (T : List Tok) (S : List zo) (D : List zi) (r : List Tok) : PS := ⟨⟨T, ((T.length - r.length : Nat) : Int)⟩, ⟨S, D⟩⟩
def Suf (T r : List Tok) : Prop := (∃ c, T = c ++ r) ∧ T.length ≤ 1000000
theorem Suf.tail {T r : List Tok} {t : Tok} (h : Suf T (t :: r)) : Suf T r := by
 obtain ⟨⟨c, rfl⟩, h2⟩ := h
 exact ⟨⟨c ++ [t], by simp⟩, h2⟩
theorem Suf.of {T r r' : List Tok} (h : Suf T r) (h' : ∃ c, r = c ++ r') : Suf T r' := by
 obtain ⟨⟨c, rfl⟩, h2⟩ := h
 obtain ⟨d, rfl⟩ := h'
 exact ⟨⟨c ++ d, by simp⟩, h2⟩
def inB (x : BA) (l : List BA) : Bool := l.any fun s => decide (s = x)
theorem ze0 {x : BA} {l : List BA} : inB x l = true ↔ x ∈ l := by
 unfold inB
 rw [List.any_eq_true]
 constructor
 ·rintro ⟨s, h1, h2⟩
  rw [← of_decide_eq_true h2]
  exact h1
 ·intro h
  exact ⟨x, h, decide_eq_true rfl⟩
def zs (k : Int) (tx : List BA) : List Tok → Bool
 | [] => false
 | t :: _ => decide ((t.Kind.toNat : Int) = k) && (decide (tx = []) || inB t.Text tx)
abbrev Rs (α : Type) := Except (List Tok) (α × List Tok)
abbrev Ps (α : Type) := List Tok → Option (Rs α)
def pu {α : Type} (x : α) : Ps α := fun r => some (.ok (x, r))
def bd {α β : Type} (p : Ps α) (f : α → Ps β) : Ps β := fun r => match p r with
 | none => none
 | some (.error e) => some (.error e)
 | some (.ok (x, r')) => f x r'
def tk (k : Int) (tx : List BA) : Ps Tok := fun r => match r with
 | [] => some (.error [])
 | t :: r' => if zs k tx (t :: r') = true then some (.ok (t, r')) else some (.error (t :: r'))
def ifS {α : Type} (k : Int) (tx : List BA) (p q : Ps α) : Ps α := fun r => if zs k tx r = true then p r else q r
def ifH {α : Type} (k : Int) (tx : List BA) (p q : Ps α) : Ps α := fun r => if zs k tx r = true then p r.tail else q r
def zd4 {α : Type} : Rs α → List Tok
 | .error r => r
 | .ok (_, r) => r
def Sf {α : Type} (p : Ps α) : Prop := ∀ r v, p r = some v → ∃ c, r = c ++ zd4 v
theorem z5 {α : Type} (x : α) : Sf (pu x) := fun r v h => by injection h with h; subst h; exact ⟨[], rfl⟩
theorem zt {α β : Type} {p : Ps α} {f : α → Ps β} (hp : Sf p) (hf : ∀ x, Sf (f x)) : Sf (bd p f) := fun r v h => by
 unfold bd at h
 split at h
 ·cases h
 ·rename_i e he
  injection h with h
  subst h
  exact hp r _ he
 ·rename_i x r' he
  obtain ⟨c, hc⟩ := hp r _ he
  obtain ⟨d, hd⟩ := hf x r' v h
  exact ⟨c ++ d, by rw [List.append_assoc, ← hd]; exact hc⟩
theorem zbm (k : Int) (tx : List BA) : Sf (tk k tx) := fun r v h => by
 unfold tk at h
 split at h
 ·injection h with h; subst h; exact ⟨[], rfl⟩
 ·split at h
  ·injection h with h; subst h; exact ⟨[_], rfl⟩
  ·injection h with h; subst h; exact ⟨[], rfl⟩
theorem zdo {α : Type} {k : Int} {tx : List BA} {p q : Ps α} (hp : Sf p) (hq : Sf q) : Sf (ifS k tx p q) := fun r v h => by
 unfold ifS at h
 split at h
 ·exact hp r v h
 ·exact hq r v h
theorem zbG {α : Type} {k : Int} {tx : List BA} {p q : Ps α} (hp : Sf p) (hq : Sf q) : Sf (ifH k tx p q) := fun r v h => by
 unfold ifH at h
 split at h
 ·rename_i hs
  cases r with
  | nil => cases hs
  | cons t r =>
   obtain ⟨c, hc⟩ := hp r v h
   exact ⟨t :: c, by rw [List.cons_append, ← hc]⟩
 ·exact hq r v h
theorem zdi {α : Type} : Sf (fun _ => none : Ps α) := fun r v h => by cases h
def mis : Value := .iface 92 (.agg #[])
def cv {α : Type} (T : List Tok) (S : List zo) (D : List zi) : Option (Rs α) → Option (Except (Value × PS) (α × PS))
 | none => none
 | some (.error r) => some (.error (mis, mkP T S D r))
 | some (.ok (x, r)) => some (.ok (x, mkP T S D r))
theorem zq6 (l : List BA) (hl : l.length ≤ 1000000000) (x : BA) : ∀ (n k : Nat), k ≤ l.length → l.length - k < n → x ∉ l.take k → ∃ i, zfD l x n (k : Int) = some i ∧ (0 ≤ i ↔ x ∈ l) := by
 intro n
 induction n with
 | zero => intro k _ h; omega
 | succ n ih =>
  intro k hk hn hx
  show ∃ i, zgt _ l x (k : Int) = some i ∧ _
  unfold zgt
  by_cases h : k < l.length
  ·rw [if_pos (zbo (by omega)), zdd h, Option.bind_some, zeJ]
   by_cases he : x = l[k] ∨ l[k] = x
   ·have he : l[k] = x := by rcases he with h | h; exact h.symm; exact h
    refine ⟨(k : Int), ?_, ⟨fun _ => he ▸ List.getElem_mem h, fun _ => by omega⟩⟩
    simp [he]
   ·rw [if_neg (by simp; exact fun h => he (by first | exact .inl h | exact .inr h)), zcq (by omega)]
    refine ih (k + 1) (by omega) (by omega) fun hm => ?_
    rw [List.take_add_one, List.mem_append, List.getElem?_eq_getElem h] at hm
    rcases hm with hm | hm
    ·exact hx hm
    ·simp at hm
     exact he (.inl hm)
  ·refine ⟨-1, if_neg (by simp; omega), ?_⟩
   rw [List.take_of_length_le (by omega)] at hx
   simp [hx]
theorem zra {l : List BA} (hl : l.length ≤ 1000000000) (x : BA) : zft l x = some (inB x l) := by
 unfold zft zit
 obtain ⟨i, hi, hx⟩ := zq6 l hl x big 0 (by omega) (zb9 (by omega)) (by simp)
 have hi : zfD l x big 0 = some i := hi
 rw [hi, Option.bind_some]
 congr 1
 rw [Bool.eq_iff_iff, decide_eq_true_eq, ze0]
 exact hx
theorem zeA {T r : List Tok} {t : Tok} (h : Suf T (t :: r)) : zI T ((T.length - (t :: r).length : Nat) : Int) = some t := by
 obtain ⟨⟨c, rfl⟩, h2⟩ := h
 rw [zjo, List.length_append, Nat.add_sub_cancel, List.getElem?_append_right (Nat.le_refl _), Nat.sub_self]
 rfl
theorem zbM {T r : List Tok} (h : Suf T r) : r.length ≤ T.length := by
 obtain ⟨⟨c, rfl⟩, _⟩ := h
 simp
theorem zeo {T : List Tok} {S : List zo} {D : List zi} {r : List Tok} {t : Tok} (h : Suf T (t :: r)) : IntKind.i64.wrap (((T.length - (t :: r).length : Nat) : Int) + 1) = ((T.length - r.length : Nat) : Int) := by
 have := zbM h
 have := h.2
 simp only [List.length_cons] at *
 rw [zer (by omega)]
 omega
section
variable {T : List Tok} {S : List zo} {D : List zi} {r : List Tok} {k : Int} {tx : List BA}
theorem zeE (hs : Suf T r) (ht : tx.length ≤ 1000) : zcD (mkP T S D r) k tx = some (zs k tx r) := by
 unfold zcD mkP
 dsimp only
 cases r with
 | nil =>
  rw [if_pos (zbo (by simp))]
  rfl
 | cons t r =>
  have := zbM hs
  rw [if_neg (by simp only [List.length_cons] at *; simp; omega), zeA hs, Option.bind_some, Option.bind_some]
  by_cases hk : (t.Kind.toNat : Int) = k
  ·rw [zpM hk, if_neg (by simp)]
   unfold zs
   dsimp only
   rw [zbo hk, Bool.true_and]
   cases tx with
   | nil => rfl
   | cons s l =>
    rw [if_neg (by simp; omega), Option.bind_some, zra (by omega)]
    simp
  ·rw [zn6 hk, if_pos rfl]
   unfold zs
   dsimp only
   rw [zdD hk]
   rfl
theorem zfv (hs : Suf T r) (ht : tx.length ≤ 1000) : zbw (mkP T S D r) k tx = some (zs k tx r, mkP T S D (if zs k tx r = true then r.tail else r)) := by
 unfold zbw
 rw [zeE hs ht, Option.bind_some]
 cases h : zs k tx r with
 | false => rfl
 | true =>
  cases r with
  | nil => cases h
  | cons t r =>
   rw [if_neg (by simp), if_pos rfl]
   show some (true, _) = some (true, mkP T S D r)
   unfold mkP
   rw [zeo (S := S) (D := D) hs]
theorem zdV (hs : Suf T r) (ht : tx.length ≤ 1000) : zcY (mkP T S D r) k tx = cv T S D (tk k tx r) := by
 unfold zcY
 rw [zeE hs ht, Option.bind_some]
 unfold tk
 cases r with
 | nil => rfl
 | cons t r =>
  dsimp only
  cases h : zs k tx (t :: r) with
  | false => rfl
  | true =>
   rw [if_neg (by simp), if_pos rfl]
   unfold zhJ mkP
   dsimp only
   have hl := zbM hs
   have h2 := hs.2
   have e : IntKind.i64.wrap (((T.length - r.length : Nat) : Int) - 1) = ((T.length - (t :: r).length : Nat) : Int) := by
    simp only [List.length_cons] at *
    rw [zer (by omega)]
    omega
   rw [zeo (S := S) (D := D) hs, e, zeA hs]
   rfl
theorem zbP {α β : Type} {p : Ps α} {f : α → Ps β} (hs : Suf T r) (hp : Sf p) {X : Option (Except (Value × PS) (α × PS))} (hX : X = cv T S D (p r)) {G : α × PS → Option (Except (Value × PS) (β × PS))}
  (hG : ∀ x r', Suf T r' → G (x, mkP T S D r') = cv T S D (f x r')) : zx X (fun x => some (.error (x.1, x.2))) G = cv T S D (bd p f r) := by
 subst hX
 unfold bd
 cases h : p r with
 | none => rfl
 | some v =>
  cases v with
  | error e => rfl
  | ok c =>
   obtain ⟨x, r'⟩ := c
   exact hG x r' (hs.of (hp r _ h))
theorem L_S {α β : Type} {C : Option (Rs α) → Option β} {p q : Ps α} (hs : Suf T r) (ht : tx.length ≤ 1000) {A B : Option β} (hA : zs k tx r = true → A = C (p r)) (hB : B = C (q r)) :
  ((zcD (mkP T S D r) k tx).bind fun c => if c = true then A else B) = C (ifS k tx p q r) := by
 rw [zeE hs ht, Option.bind_some]
 unfold ifS
 cases h : zs k tx r with
 | true => exact hA h
 | false => exact hB
theorem L_H {α β : Type} {C : Option (Rs α) → Option β} {p q : Ps α} (hs : Suf T r) (ht : tx.length ≤ 1000) {A B : Bool × PS → Option β} (hA : ∀ r', Suf T r' → A (true, mkP T S D r') = C (p r')) (hB : B (false, mkP T S D r) = C (q r)) :
  ((zbw (mkP T S D r) k tx).bind fun c => if c.1 = true then A c else B c) = C (ifH k tx p q r) := by
 rw [zfv hs ht, Option.bind_some]
 unfold ifH
 cases h : zs k tx r with
 | true =>
  cases r with
  | nil => cases h
  | cons t r => exact hA r hs.tail
 | false => exact hB
theorem zjG {α β : Type} {C : Option (Rs α) → Option β} {p q : Ps α} (hs : Suf T r) (ht : tx.length ≤ 1000) {A B : Bool × PS → Option β} (hA : ∀ r', Suf T r' → A (true, mkP T S D r') = C (p r')) (hB : B (false, mkP T S D r) = C (q r)) :
  ((zbw (mkP T S D r) k tx).bind fun c => if (!c.1) = true then B c else A c) = C (ifH k tx p q r) := by
 rw [zfv hs ht, Option.bind_some]
 unfold ifH
 cases h : zs k tx r with
 | true =>
  cases r with
  | nil => cases h
  | cons t r => exact hA r hs.tail
 | false => exact hB
def zbB : Ps BA := bd (tk 1 []) fun t => pu t.Text
theorem z9 : Sf zbB := zt (zbm _ _) fun _ => z5 _
theorem zdl (hs : Suf T r) : zcL (mkP T S D r) = cv T S D (zbB r) :=
 zbP hs (zbm _ _) (zdV hs (by simp)) fun _ _ _ => rfl
def zbd : List BA → Ps Unit
 | [] => pu ()
 | s :: l => bd (tk 4 [s]) fun _ => zbd l
theorem zy : ∀ l, Sf (zbd l)
 | [] => z5 _
 | s :: l => zt (zbm _ _) fun _ => zy l
def cu (T : List Tok) (S : List zo) (D : List zi) : Option (Rs Unit) → Option (Except (Value × PS) PS)
 | none => none
 | some (.error r) => some (.error (mis, mkP T S D r))
 | some (.ok (_, r)) => some (.ok (mkP T S D r))
theorem znT (l : List BA) (hl : l.length ≤ 1000) : ∀ (n k : Nat) (r : List Tok), Suf T r → k ≤ l.length → l.length - k < n → zf8 l n T ((T.length - r.length : Nat) : Int) S D (k : Int) = cu T S D (zbd (l.drop k) r) := by
 intro n
 induction n with
 | zero => intro k r _ _ h; omega
 | succ n ih =>
  intro k r hs hk hn
  show zgq _ l T _ S D (k : Int) = _
  unfold zgq
  by_cases h : k < l.length
  ·rw [if_pos (zbo (by omega)), zdd h, Option.bind_some, List.drop_eq_getElem_cons h, zcq (by omega)]
   have ht := zdV (S := S) (D := D) (k := 4) (tx := [l[k]]) hs (by simp)
   unfold mkP at ht
   rw [ht]
   show _ = cu T S D (bd _ _ r)
   unfold bd
   cases he : tk 4 [l[k]] r with
   | none => rfl
   | some v =>
    cases v with
    | error e => rfl
    | ok c =>
     obtain ⟨x, r'⟩ := c
     exact ih (k + 1) r' (hs.of (zbm _ _ r _ he)) (by omega) (by omega)
  ·rw [if_neg (by simp; omega), List.drop_of_length_le (by omega)]
   rfl
theorem zct (hs : Suf T r) {l : List BA} (hl : l.length ≤ 1000) : zb6 (mkP T S D r) l = cu T S D (zbd l r) :=
 znT l hl big 0 r hs (by omega) (zb9 (by omega))
theorem zfc {β : Type} {p : Ps Unit} {f : Unit → Ps β} (hs : Suf T r) (hp : Sf p) {X : Option (Except (Value × PS) PS)} (hX : X = cu T S D (p r)) {G : PS → Option (Except (Value × PS) (β × PS))}
  (hG : ∀ r', Suf T r' → G (mkP T S D r') = cv T S D (f () r')) : zx X (fun x => some (.error (x.1, x.2))) G = cv T S D (bd p f r) := by
 subst hX
 unfold bd
 cases h : p r with
 | none => rfl
 | some v =>
  cases v with
  | error e => rfl
  | ok c =>
   obtain ⟨x, r'⟩ := c
   exact hG r' (hs.of (hp r _ h))
end
end Go.Proofs.Ytnhboaaikehpoaa
