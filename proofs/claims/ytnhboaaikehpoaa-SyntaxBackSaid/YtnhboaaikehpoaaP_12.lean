import Derived.Test.YtnhboaaikehpoaaPL
import Derived.KernelRfl
namespace Go.Proofs.Ytnhboaaikehpoaa
open Go.Ab Go.RowKit
set_option linter.unusedVariables false
set_option linter.unusedSimpArgs false
abbrev Tok := zl
abbrev BA := ByteArray
abbrev PS := zf
def mkP (T : List Tok) (S : List zq) (D : List zo) (r : List Tok) : PS := ⟨⟨T, ((T.length - r.length : Nat) : Int)⟩, ⟨S, D⟩⟩
def Suf (T r : List Tok) : Prop := (∃ c, T = c ++ r) ∧ T.length ≤ 1000000
theorem Suf.tail {T r : List Tok} {t : Tok} (h : Suf T (t :: r)) : Suf T r := by
 obtain ⟨⟨c, rfl⟩, h2⟩ := h
 exact ⟨⟨c ++ [t], by simp⟩, h2⟩
theorem Suf.of {T r r' : List Tok} (h : Suf T r) (h' : ∃ c, r = c ++ r') : Suf T r' := by
 obtain ⟨⟨c, rfl⟩, h2⟩ := h
 obtain ⟨d, rfl⟩ := h'
 exact ⟨⟨c ++ d, by simp⟩, h2⟩
def inB (x : BA) (l : List BA) : Bool := l.any fun s => decide (s = x)
theorem zkd {x : BA} {l : List BA} : inB x l = true ↔ x ∈ l := by
 unfold inB
 rw [List.any_eq_true]
 constructor
 ·rintro ⟨s, h1, h2⟩
  rw [← of_decide_eq_true h2]
  exact h1
 ·intro h
  exact ⟨x, h, decide_eq_true rfl⟩
def zbg (k : Int) (tx : List BA) : List Tok → Bool
 | [] => false
 | t :: _ => decide ((t.Kind.toNat : Int) = k) && (decide (tx = []) || inB t.Text tx)
abbrev Rs (α : Type) := Except (List Tok) (α × List Tok)
abbrev Ps (α : Type) := List Tok → Option (Rs α)
def pu {α : Type} (x : α) : Ps α := fun r => some (.ok (x, r))
def bd {α β : Type} (p : Ps α) (f : α → Ps β) : Ps β := fun r => match p r with
 | none => none
 | some (.error e) => some (.error e)
 | some (.ok (x, r')) => f x r'
def tk (k : Int) (tx : List BA) : Ps Tok := fun r => match r with
 | [] => some (.error [])
 | t :: r' => if zbg k tx (t :: r') = true then some (.ok (t, r')) else some (.error (t :: r'))
def ifS {α : Type} (k : Int) (tx : List BA) (p q : Ps α) : Ps α := fun r => if zbg k tx r = true then p r else q r
def ifH {α : Type} (k : Int) (tx : List BA) (p q : Ps α) : Ps α := fun r => if zbg k tx r = true then p r.tail else q r
def zmn {α : Type} : Rs α → List Tok
 | .error r => r
 | .ok (_, r) => r
def Sf {α : Type} (p : Ps α) : Prop := ∀ r v, p r = some v → ∃ c, r = c ++ zmn v
theorem zbx {α : Type} (x : α) : Sf (pu x) := fun r v h => by injection h with h; subst h; exact ⟨[], rfl⟩
theorem zP {α β : Type} {p : Ps α} {f : α → Ps β} (hp : Sf p) (hf : ∀ x, Sf (f x)) : Sf (bd p f) := fun r v h => by
 unfold bd at h
 split at h
 ·cases h
 ·rename_i e he
  injection h with h
  subst h
  exact hp r _ he
 ·rename_i x r' he
  obtain ⟨c, hc⟩ := hp r _ he
  obtain ⟨d, hd⟩ := hf x r' v h
  exact ⟨c ++ d, by rw [List.append_assoc, ← hd]; exact hc⟩
theorem zbM (k : Int) (tx : List BA) : Sf (tk k tx) := fun r v h => by
 unfold tk at h
 split at h
 ·injection h with h; subst h; exact ⟨[], rfl⟩
 ·split at h
  ·injection h with h; subst h; exact ⟨[_], rfl⟩
  ·injection h with h; subst h; exact ⟨[], rfl⟩
theorem zeR {α : Type} {k : Int} {tx : List BA} {p q : Ps α} (hp : Sf p) (hq : Sf q) : Sf (ifS k tx p q) := fun r v h => by
 unfold ifS at h
 split at h
 ·exact hp r v h
 ·exact hq r v h
theorem zbW {α : Type} {k : Int} {tx : List BA} {p q : Ps α} (hp : Sf p) (hq : Sf q) : Sf (ifH k tx p q) := fun r v h => by
 unfold ifH at h
 split at h
 ·rename_i hs
  cases r with
  | nil => cases hs
  | cons t r =>
   obtain ⟨c, hc⟩ := hp r v h
   exact ⟨t :: c, by rw [List.cons_append, ← hc]⟩
 ·exact hq r v h
theorem zdM {α : Type} : Sf (fun _ => none : Ps α) := fun r v h => by cases h
def mis : Value := .iface 92 (.agg #[])
def cv {α : Type} (T : List Tok) (S : List zq) (D : List zo) : Option (Rs α) → Option (Except (Value × PS) (α × PS))
 | none => none
 | some (.error r) => some (.error (mis, mkP T S D r))
 | some (.ok (x, r)) => some (.ok (x, mkP T S D r))
theorem zpV (l : List BA) (hl : l.length ≤ 1000000000) (x : BA) : ∀ (n k : Nat), k ≤ l.length → l.length - k < n → x ∉ l.take k → ∃ i, zgi l x n (k : Int) = some i ∧ (0 ≤ i ↔ x ∈ l) := by
 intro n
 induction n with
 | zero => intro k _ h; omega
 | succ n ih =>
  intro k hk hn hx
  show ∃ i, zhs _ l x (k : Int) = some i ∧ _
  unfold zhs
  by_cases h : k < l.length
  ·rw [if_pos (zJ (by omega)), zbv h, Option.bind_some, zcR]
   by_cases he : x = l[k] ∨ l[k] = x
   ·have he : l[k] = x := by rcases he with h | h; exact h.symm; exact h
    refine ⟨(k : Int), ?_, ⟨fun _ => he ▸ List.getElem_mem h, fun _ => by omega⟩⟩
    simp [he]
   ·rw [if_neg (by simp; exact fun h => he (by first | exact .inl h | exact .inr h)), zbq (by omega)]
    refine ih (k + 1) (by omega) (by omega) fun hm => ?_
    rw [List.take_add_one, List.mem_append, List.getElem?_eq_getElem h] at hm
    rcases hm with hm | hm
    ·exact hx hm
    ·simp at hm
     exact he (.inl hm)
  ·refine ⟨-1, if_neg (by simp; omega), ?_⟩
   rw [List.take_of_length_le (by omega)] at hx
   simp [hx]
theorem zpS {l : List BA} (hl : l.length ≤ 1000000000) (x : BA) : zfY l x = some (inB x l) := by
 unfold zfY zi0
 obtain ⟨i, hi, hx⟩ := zpV l hl x big 0 (by omega) (z7 (by omega)) (by simp)
 have hi : zgi l x big 0 = some i := hi
 rw [hi, Option.bind_some]
 congr 1
 rw [Bool.eq_iff_iff, decide_eq_true_eq, zkd]
 exact hx
theorem zkq {T r : List Tok} {t : Tok} (h : Suf T (t :: r)) : zv T ((T.length - (t :: r).length : Nat) : Int) = some t := by
 obtain ⟨⟨c, rfl⟩, h2⟩ := h
 rw [znR, List.length_append, Nat.add_sub_cancel, List.getElem?_append_right (Nat.le_refl _), Nat.sub_self]
 rfl
theorem zeq {T r : List Tok} (h : Suf T r) : r.length ≤ T.length := by
 obtain ⟨⟨c, rfl⟩, _⟩ := h
 simp
theorem zll {T : List Tok} {S : List zq} {D : List zo} {r : List Tok} {t : Tok} (h : Suf T (t :: r)) : IntKind.i64.wrap (((T.length - (t :: r).length : Nat) : Int) + 1) = ((T.length - r.length : Nat) : Int) := by
 have := zeq h
 have := h.2
 simp only [List.length_cons] at *
 rw [zce (by omega)]
 omega
section
variable {T : List Tok} {S : List zq} {D : List zo} {r : List Tok} {k : Int} {tx : List BA}
theorem zeX (hs : Suf T r) (ht : tx.length ≤ 1000) : zcF (mkP T S D r) k tx = some (zbg k tx r) := by
 unfold zcF mkP
 dsimp only
 cases r with
 | nil =>
  rw [if_pos (zJ (by simp))]
  rfl
 | cons t r =>
  have := zeq hs
  rw [if_neg (by simp only [List.length_cons] at *; simp; omega), zkq hs, Option.bind_some, Option.bind_some]
  by_cases hk : (t.Kind.toNat : Int) = k
  ·rw [zn8 hk, if_neg (by simp)]
   unfold zbg
   dsimp only
   rw [zJ hk, Bool.true_and]
   cases tx with
   | nil => rfl
   | cons s l =>
    rw [if_neg (by simp; omega), Option.bind_some, zpS (by omega)]
    simp
  ·rw [zmE hk, if_pos rfl]
   unfold zbg
   dsimp only
   rw [zc9 hk]
   rfl
theorem zgm (hs : Suf T r) (ht : tx.length ≤ 1000) : zbI (mkP T S D r) k tx = some (zbg k tx r, mkP T S D (if zbg k tx r = true then r.tail else r)) := by
 unfold zbI
 rw [zeX hs ht, Option.bind_some]
 cases h : zbg k tx r with
 | false => rfl
 | true =>
  cases r with
  | nil => cases h
  | cons t r =>
   rw [if_neg (by simp), if_pos rfl]
   show some (true, _) = some (true, mkP T S D r)
   unfold mkP
   rw [zll (S := S) (D := D) hs]
theorem zdY (hs : Suf T r) (ht : tx.length ≤ 1000) : zc0 (mkP T S D r) k tx = cv T S D (tk k tx r) := by
 unfold zc0
 rw [zeX hs ht, Option.bind_some]
 unfold tk
 cases r with
 | nil => rfl
 | cons t r =>
  dsimp only
  cases h : zbg k tx (t :: r) with
  | false => rfl
  | true =>
   rw [if_neg (by simp), if_pos rfl]
   unfold ziE mkP
   dsimp only
   have hl := zeq hs
   have h2 := hs.2
   have e : IntKind.i64.wrap (((T.length - r.length : Nat) : Int) - 1) = ((T.length - (t :: r).length : Nat) : Int) := by
    simp only [List.length_cons] at *
    rw [zce (by omega)]
    omega
   rw [zll (S := S) (D := D) hs, e, zkq hs]
   rfl
theorem zbX {α β : Type} {p : Ps α} {f : α → Ps β} (hs : Suf T r) (hp : Sf p) {X : Option (Except (Value × PS) (α × PS))} (hX : X = cv T S D (p r)) {G : α × PS → Option (Except (Value × PS) (β × PS))}
  (hG : ∀ x r', Suf T r' → G (x, mkP T S D r') = cv T S D (f x r')) : zO X (fun x => some (.error (x.1, x.2))) G = cv T S D (bd p f r) := by
 subst hX
 unfold bd
 cases h : p r with
 | none => rfl
 | some v =>
  cases v with
  | error e => rfl
  | ok c =>
   obtain ⟨x, r'⟩ := c
   exact hG x r' (hs.of (hp r _ h))
theorem L_S {α β : Type} {C : Option (Rs α) → Option β} {p q : Ps α} (hs : Suf T r) (ht : tx.length ≤ 1000) {A B : Option β} (hA : zbg k tx r = true → A = C (p r)) (hB : B = C (q r)) :
  ((zcF (mkP T S D r) k tx).bind fun c => if c = true then A else B) = C (ifS k tx p q r) := by
 rw [zeX hs ht, Option.bind_some]
 unfold ifS
 cases h : zbg k tx r with
 | true => exact hA h
 | false => exact hB
theorem L_H {α β : Type} {C : Option (Rs α) → Option β} {p q : Ps α} (hs : Suf T r) (ht : tx.length ≤ 1000) {A B : Bool × PS → Option β} (hA : ∀ r', Suf T r' → A (true, mkP T S D r') = C (p r')) (hB : B (false, mkP T S D r) = C (q r)) :
  ((zbI (mkP T S D r) k tx).bind fun c => if c.1 = true then A c else B c) = C (ifH k tx p q r) := by
 rw [zgm hs ht, Option.bind_some]
 unfold ifH
 cases h : zbg k tx r with
 | true =>
  cases r with
  | nil => cases h
  | cons t r => exact hA r hs.tail
 | false => exact hB
theorem zkj {α β : Type} {C : Option (Rs α) → Option β} {p q : Ps α} (hs : Suf T r) (ht : tx.length ≤ 1000) {A B : Bool × PS → Option β} (hA : ∀ r', Suf T r' → A (true, mkP T S D r') = C (p r')) (hB : B (false, mkP T S D r) = C (q r)) :
  ((zbI (mkP T S D r) k tx).bind fun c => if (!c.1) = true then B c else A c) = C (ifH k tx p q r) := by
 rw [zgm hs ht, Option.bind_some]
 unfold ifH
 cases h : zbg k tx r with
 | true =>
  cases r with
  | nil => cases h
  | cons t r => exact hA r hs.tail
 | false => exact hB
def zcC : Ps BA := bd (tk 1 []) fun t => pu t.Text
theorem zbF : Sf zcC := zP (zbM _ _) fun _ => zbx _
theorem zdl (hs : Suf T r) : zcM (mkP T S D r) = cv T S D (zcC r) :=
 zbX hs (zbM _ _) (zdY hs (by simp)) fun _ _ _ => rfl
def zbO : List BA → Ps Unit
 | [] => pu ()
 | s :: l => bd (tk 4 [s]) fun _ => zbO l
theorem zba : ∀ l, Sf (zbO l)
 | [] => zbx _
 | s :: l => zP (zbM _ _) fun _ => zba l
def cu (T : List Tok) (S : List zq) (D : List zo) : Option (Rs Unit) → Option (Except (Value × PS) PS)
 | none => none
 | some (.error r) => some (.error (mis, mkP T S D r))
 | some (.ok (_, r)) => some (.ok (mkP T S D r))
theorem zsY (l : List BA) (hl : l.length ≤ 1000) : ∀ (n k : Nat) (r : List Tok), Suf T r → k ≤ l.length → l.length - k < n → zis l n T ((T.length - r.length : Nat) : Int) S D (k : Int) = cu T S D (zbO (l.drop k) r) := by
 intro n
 induction n with
 | zero => intro k r _ _ h; omega
 | succ n ih =>
  intro k r hs hk hn
  show zhV _ l T _ S D (k : Int) = _
  unfold zhV
  by_cases h : k < l.length
  ·rw [if_pos (zJ (by omega)), zbv h, Option.bind_some, List.drop_eq_getElem_cons h, zbq (by omega)]
   have ht := zdY (S := S) (D := D) (k := 4) (tx := [l[k]]) hs (by simp)
   unfold mkP at ht
   rw [ht]
   show _ = cu T S D (bd _ _ r)
   unfold bd
   cases he : tk 4 [l[k]] r with
   | none => rfl
   | some v =>
    cases v with
    | error e => rfl
    | ok c =>
     obtain ⟨x, r'⟩ := c
     exact ih (k + 1) r' (hs.of (zbM _ _ r _ he)) (by omega) (by omega)
  ·rw [if_neg (by simp; omega), List.drop_of_length_le (by omega)]
   rfl
theorem zcD (hs : Suf T r) {l : List BA} (hl : l.length ≤ 1000) : zb5 (mkP T S D r) l = cu T S D (zbO l r) :=
 zsY l hl big 0 r hs (by omega) (z7 (by omega))
theorem zfG {β : Type} {p : Ps Unit} {f : Unit → Ps β} (hs : Suf T r) (hp : Sf p) {X : Option (Except (Value × PS) PS)} (hX : X = cu T S D (p r)) {G : PS → Option (Except (Value × PS) (β × PS))}
  (hG : ∀ r', Suf T r' → G (mkP T S D r') = cv T S D (f () r')) : zO X (fun x => some (.error (x.1, x.2))) G = cv T S D (bd p f r) := by
 subst hX
 unfold bd
 cases h : p r with
 | none => rfl
 | some v =>
  cases v with
  | error e => rfl
  | ok c =>
   obtain ⟨x, r'⟩ := c
   exact hG r' (hs.of (hp r _ h))
end
end Go.Proofs.Ytnhboaaikehpoaa
