import Derived.Test.YtakcaekikfcbpaaPL
import Derived.KernelRfl
namespace Go.Proofs.Ytakcaekikfcbpaa
open Go.Ab Go.RowKit
set_option linter.unusedVariables false
set_option linter.unusedSimpArgs false
abbrev Ck := zb
abbrev Stm := zf
abbrev BA := ByteArray
abbrev Er (α : Type) := Except Int α
def pe (e : Int) : Value := .iface 134 (.int .i64 e)
def eb {α β : Type} (x : Er α) (f : α → Er β) : Er β := match x with
 | .error e => .error e
 | .ok a => f a
def ck (b : Bool) (e : Int) : Er Unit := if b = true then .ok () else .error e
theorem zbv {α β : Type} {x : Er α} {f : α → Er β} {b : β} (h : eb x f = .ok b) : ∃ a, x = .ok a ∧ f a = .ok b := by
 unfold eb at h
 split at h
 ·cases h
 ·exact ⟨_, rfl, h⟩
theorem zmH {b : Bool} {e : Int} {u : Unit} (h : ck b e = .ok u) : b = true := by
 unfold ck at h
 split at h
 ·assumption
 ·cases h
theorem ckT {b : Bool} {e : Int} (h : b = true) : ck b e = .ok () := if_pos h
theorem ckF {b : Bool} {e : Int} (h : ¬ b = true) : ck b e = .error e := if_neg h
theorem zbS {b : Bool} {e : Int} (h : b = true) : zby b e = some (.ok ()) := by subst h; rfl
theorem zb2 {b : Bool} {e : Int} (h : ¬ b = true) : zby b e = some (.error (pe e)) := by
 rw [Bool.not_eq_true] at h
 subst h; rfl
def fo (o : Option Nat) : Int := match o with
 | some k => (k : Int)
 | none => -1
theorem ixL {α : Type} {l : List α} {p : α → Bool} {L : Nat → Int → Option Int} (hl : l.length ≤ 1000000000000)
  (hL : ∀ n x, L (n + 1) x = if (decide (x < (l.length : Int))) = true then (zL l x).bind fun y => (if p y = true then some x else L n (IntKind.i64.wrap (x + 1))) else some (-1)) :
  ∀ n k, k ≤ l.length → l.length - k < n → L n (k : Int) = some (match (l.drop k).findIdx? p with | some j => ((k + j : Nat) : Int) | none => -1) := by
 intro n
 induction n with
 | zero => intro k _ h; omega
 | succ n ih =>
  intro k hk hn
  rw [hL]
  by_cases h : k < l.length
  ·rw [if_pos (zca (by omega)), zbQ h, Option.bind_some, List.drop_eq_getElem_cons h, List.findIdx?_cons]
   by_cases hp : p l[k] = true
   ·rw [if_pos hp, if_pos hp]
    rfl
   ·rw [if_neg hp, if_neg hp, zcS (by omega), ih (k + 1) (by omega) (by omega)]
    cases (l.drop (k + 1)).findIdx? p with
    | none => rfl
    | some j =>
     show some ((k + 1 + j : Nat) : Int) = some ((k + (j + 1) : Nat) : Int)
     congr 2; omega
  ·rw [if_neg (by simp; omega), List.drop_of_length_le (by omega)]
   rfl
theorem ixB {α : Type} {l : List α} {p : α → Bool} {L : Nat → Int → Option Int} (hl : l.length ≤ 1000000000000)
  (hL : ∀ n x, L (n + 1) x = if (decide (x < (l.length : Int))) = true then (zL l x).bind fun y => (if p y = true then some x else L n (IntKind.i64.wrap (x + 1))) else some (-1)) :
  L big 0 = some (fo (l.findIdx? p)) := by
 have := ixL hl hL big 0 (by omega) (zcy (by omega))
 rw [List.drop_zero] at this
 refine this.trans ?_
 cases l.findIdx? p with
 | none => rfl
 | some j =>
  show some ((0 + j : Nat) : Int) = some (j : Int)
  rw [Nat.zero_add]
theorem zif {α : Type} {l : List α} {p : α → Bool} : decide (fo (l.findIdx? p) ≥ 0) = l.any p := by
 rw [← List.findIdx?_isSome]
 cases l.findIdx? p with
 | none => rfl
 | some j => exact zca (by show (j : Int) ≥ 0; omega)
def nmI (l : List BA) (x : BA) : Option Nat := l.findIdx? (fun y => z9 x y)
def zdL (c : Ck) (nm : BA) : Option Nat := c.vars.findIdx? (fun v => z9 v.Name nm)
def zcU (c : Ck) (nm : BA) : Option Nat := c.prog.Funcs.findIdx? (fun v => z9 v.Name nm)
def zcZ (c : Ck) (nm : BA) : Option Nat := c.prog.Structs.findIdx? (fun v => z9 v.Name nm)
theorem ziL {l : List BA} {x : BA} (h : l.length ≤ 1000000000000) : zfi l x = some (fo (nmI l x)) := ixB h fun _ _ => rfl
theorem zlA {l : List Int} {x : Int} (h : l.length ≤ 1000000000000) : zgp l x = some (fo (l.findIdx? (fun y => x == y))) := ixB h fun _ _ => rfl
theorem zla {l : List BA} {x : BA} (h : l.length ≤ 1000000000000) : zfe l x = some (l.any (fun y => z9 x y)) := by
 unfold zfe
 rw [ziL h, Option.bind_some]
 exact congrArg some zif
theorem zlU {l : List Int} {x : Int} (h : l.length ≤ 1000000000000) : zfE l x = some (l.any (fun y => x == y)) := by
 unfold zfE
 rw [zlA h, Option.bind_some]
 exact congrArg some zif
theorem zi1 {c : Ck} {nm : BA} (h : c.vars.length ≤ 1000000000000) : zes c nm = some (fo (zdL c nm)) := by
 unfold zes
 rw [show zf9 c.vars nm = some (fo (zdL c nm)) from ixB (p := fun v => z9 v.Name nm) h fun _ _ => rfl]
 rfl
theorem zjg {c : Ck} {nm : BA} (h : c.prog.Funcs.length ≤ 1000000000000) : zet c nm = some (fo (zcU c nm)) := by
 unfold zet
 rw [show ze3 c.prog.Funcs nm = some (fo (zcU c nm)) from ixB (p := fun v => z9 v.Name nm) h fun _ _ => rfl]
 rfl
theorem zjp {c : Ck} {nm : BA} (h : c.prog.Funcs.length ≤ 1000000000000) : zex c nm = some (fo (zcU c nm)) := zjg h
def zdX (c : Ck) (nm : BA) : List BA := match zcZ c nm with
 | none => []
 | some k => match c.prog.Structs[k]? with
  | some s => s.Fields
  | none => []
theorem zf7 {α : Type} {l : List α} {p : α → Bool} {k : Nat} (h : l.findIdx? p = some k) : k < l.length := by
 rw [List.findIdx?_eq_some_iff_getElem] at h
 exact h.1
theorem zjR {c : Ck} {nm : BA} (h : c.prog.Structs.length ≤ 1000000000000) : zeX c nm = some (zdX c nm, (zcZ c nm).isSome) := by
 unfold zeX zdX
 rw [show zgh c.prog.Structs nm = some (fo (zcZ c nm)) from ixB (p := fun v => z9 v.Name nm) h fun _ _ => rfl, Option.bind_some]
 cases e : zcZ c nm with
 | none => rfl
 | some k =>
  have hk := zf7 e
  rw [if_neg (by show ¬ (decide ((k : Int) < 0) = true); simp)]
  show (zL c.prog.Structs (k : Int)).bind _ = _
  rw [zbQ hk, Option.bind_some]
  dsimp only
  rw [List.getElem?_eq_getElem hk]
  rfl
def knw (c : Ck) (t : zk) : Bool := ((t.Kind.toNat : Int) != 4) || (zcZ c t.Name).isSome
theorem zkf {c : Ck} {t : zk} (h : c.prog.Structs.length ≤ 1000000000000) : zc1 c t = some (knw c t) := by
 unfold zc1
 rw [zjR h]
 rfl
def sca (t : zk) : Bool := ((t.Kind.toNat : Int) == 1) || ((t.Kind.toNat : Int) == 2)
theorem zgY (t : zk) : zcY t = some (sca t) := rfl
def fnd (c : Ck) (nm : BA) : Er Nat := match zdL c nm with
 | none => .error 8
 | some k => if (c.scope.any fun y => (k : Int) == y) = true then .ok k else .error 8
theorem zic {c : Ck} {nm : BA} {k : Nat} (h : fnd c nm = .ok k) : k < c.vars.length := by
 unfold fnd at h
 split at h
 ·cases h
 ·rename_i e
  split at h
  ·injection h with h
   subst h
   exact zf7 e
  ·cases h
theorem zg7 {c : Ck} {nm : BA} (h : c.vars.length ≤ 1000000000000) (h2 : c.scope.length ≤ 1000000000000) : zd6 c nm = some (match fnd c nm with | .error e => .error (pe e) | .ok k => .ok (k : Int)) := by
 unfold zd6 fnd
 rw [zi1 h, Option.bind_some]
 cases e : zdL c nm with
 | none => rfl
 | some k =>
  rw [show fo (some k) = (k : Int) from rfl]
  rw [if_pos (zca (by omega)), zlU h2]
  dsimp only [Option.bind_some]
  by_cases hb : (c.scope.any fun y => (k : Int) == y) = true
  ·rw [if_pos hb, zbS hb]
   rfl
  ·rw [if_neg hb, zb2 hb]
   rfl
def noT : zk := ⟨0, 0, znS⟩
def vt (c : Ck) (k : Nat) : zk := match c.vars[k]? with
 | some v => v.Type_
 | none => noT
def vf (c : Ck) (k : Nat) : List BA := match c.vars[k]? with
 | some v => v.Fields
 | none => []
theorem zeA {c : Ck} {k : Nat} (h : k < c.vars.length) : vt c k = c.vars[k].Type_ := by
 unfold vt
 rw [List.getElem?_eq_getElem h]
theorem zkS {c : Ck} {k : Nat} (h : k < c.vars.length) : vf c k = c.vars[k].Fields := by
 unfold vf
 rw [List.getElem?_eq_getElem h]
def tU {α : Type} (r : Er α) : Option (Except Value α) := some (match r with
 | .error e => .error (pe e)
 | .ok a => .ok a)
theorem zfb {c : Ck} {k : Nat} {n : Int} (h : k < c.vars.length) : zdp c (k : Int) n = tU (ck (((vt c k).Kind.toNat : Int) == n) 9) := by
 unfold zdp
 rw [zbQ h, Option.bind_some, zeA h]
 by_cases hb : ((c.vars[k].Type_.Kind.toNat : Int) == n) = true
 ·rw [zbS hb, ckT hb]
  rfl
 ·rw [zb2 hb, ckF hb]
  rfl
def zez (c : Ck) (k : Nat) (nm : BA) : Er Nat := match nmI (vf c k) nm with
 | none => .error 8
 | some f => .ok f
theorem zks {c : Ck} {k : Nat} {nm : BA} (h : k < c.vars.length) (h2 : (vf c k).length ≤ 1000000000000) : zd3 c (k : Int) nm = some (match zez c k nm with | .error e => .error (pe e) | .ok f => .ok (f : Int)) := by
 unfold zd3 zez
 rw [zbQ h, Option.bind_some]
 rw [zkS h] at h2 ⊢
 rw [ziL h2, Option.bind_some]
 cases nmI c.vars[k].Fields nm with
 | none => rfl
 | some f =>
  show zC (zby (decide ((f : Int) ≥ 0)) 8) _ _ = _
  rw [zbS (zca (by omega))]
  rfl
theorem zl9 {a b : List UInt8} (hl : a.length = b.length) (hs : a.length ≤ 1000000000000) : ∀ n k, k ≤ a.length → a.length - k < n → zeo a b n (k : Int) = some (decide (a.drop k = b.drop k)) := by
 intro n
 induction n with
 | zero => intro k _ h; omega
 | succ n ih =>
  intro k hk hn
  show zfo (zeo a b n) a b (k : Int) = _
  unfold zfo
  by_cases h : k < a.length
  ·have h2 : k < b.length := by omega
   rw [if_pos (zca (by omega)), zbQ h, zbQ h2, Option.bind_some, Option.bind_some, zcS (by omega), ih (k + 1) (by omega) (by omega), List.drop_eq_getElem_cons h, List.drop_eq_getElem_cons h2]
   by_cases he : a[k] = b[k]
   ·rw [if_neg (by simp [he]), he]
    congr 1
    rw [Bool.eq_iff_iff, decide_eq_true_iff, decide_eq_true_iff, List.cons.injEq]
    exact ⟨fun h => ⟨rfl, h⟩, fun h => h.2⟩
   ·rw [if_pos (zhG fun h => he (ziZ.1 h)), zhz fun h => he (by injection h)]
  ·rw [if_neg (by simp; omega), List.drop_of_length_le (by omega), List.drop_of_length_le (by omega)]
   simp
theorem zi0 {a b : List UInt8} (hs : a.length ≤ 1000000000000) : zeP a b = some (decide (a = b)) := by
 unfold zeP
 by_cases hl : a.length = b.length
 ·rw [if_neg (by simp [hl])]
  exact zl9 hl hs big 0 (by omega) (zcy (by omega))
 ·rw [if_pos (zhG (by omega)), zhz (fun h => hl (by rw [h]))]
theorem zcR (p : BA) (n : Nat) (i k : Int) (t : BA) (h1 : decide (i < 26) = true) (h2 : ((zeF znV i (IntKind.i64.wrap (i + 2))).bind fun y21 => zgO y21 zn1) = some t) (h3 : IntKind.i64.wrap (i + 2) = k) : zdT p (n + 1) i = if (z9 p t) = true then some (IntKind.u8.wrap (1 + (IntKind.u8.wrap (IntKind.i64.wrap (Int.tdiv i 2))))) else zdT p n k := by
 show zfj (zdT p n) p i = _
 unfold zfj
 rw [if_pos h1]
 obtain ⟨y, h4, h5⟩ := Option.bind_eq_some_iff.1 h2
 rw [h4, Option.bind_some, h5, Option.bind_some, h3]
theorem zkV (p : BA) : ∃ k : Nat, k < 256 ∧ zev p = some (k : Int) := by
 have hw : ∀ x : Int, ∃ k : Nat, k < 256 ∧ some (IntKind.u8.wrap x) = some (k : Int) := fun x => ⟨(x % 256).toNat, by omega, by rw [znL]; congr 1; omega⟩
 have hn : big = (big - 14) + 14 := by kernel_rfl
 show ∃ k : Nat, k < 256 ∧ zdT p big 0 = some (k : Int)
 rw [hn]
 rw [zcR p _ 0 2 ⟨#[43]⟩ (by kernel_rfl) (by kernel_rfl) (by kernel_rfl)]; split; exact hw _
 rw [zcR p _ 2 4 znY (by kernel_rfl) (by kernel_rfl) (by kernel_rfl)]; split; exact hw _
 rw [zcR p _ 4 6 ⟨#[42]⟩ (by kernel_rfl) (by kernel_rfl) (by kernel_rfl)]; split; exact hw _
 rw [zcR p _ 6 8 ⟨#[47]⟩ (by kernel_rfl) (by kernel_rfl) (by kernel_rfl)]; split; exact hw _
 rw [zcR p _ 8 10 ⟨#[37]⟩ (by kernel_rfl) (by kernel_rfl) (by kernel_rfl)]; split; exact hw _
 rw [zcR p _ 10 12 ⟨#[61, 61]⟩ (by kernel_rfl) (by kernel_rfl) (by kernel_rfl)]; split; exact hw _
 rw [zcR p _ 12 14 ⟨#[33, 61]⟩ (by kernel_rfl) (by kernel_rfl) (by kernel_rfl)]; split; exact hw _
 rw [zcR p _ 14 16 ⟨#[60]⟩ (by kernel_rfl) (by kernel_rfl) (by kernel_rfl)]; split; exact hw _
 rw [zcR p _ 16 18 ⟨#[60, 61]⟩ (by kernel_rfl) (by kernel_rfl) (by kernel_rfl)]; split; exact hw _
 rw [zcR p _ 18 20 zn0 (by kernel_rfl) (by kernel_rfl) (by kernel_rfl)]; split; exact hw _
 rw [zcR p _ 20 22 ⟨#[62, 61]⟩ (by kernel_rfl) (by kernel_rfl) (by kernel_rfl)]; split; exact hw _
 rw [zcR p _ 22 24 ⟨#[38, 38]⟩ (by kernel_rfl) (by kernel_rfl) (by kernel_rfl)]; split; exact hw _
 rw [zcR p _ 24 26 ⟨#[124, 124]⟩ (by kernel_rfl) (by kernel_rfl) (by kernel_rfl)]; split; exact hw _
 exact ⟨0, by omega, rfl⟩
def sg (p : BA) : Nat := match zev p with
 | some k => k.toNat
 | none => 0
theorem zjP (p : BA) : zev p = some ((sg p : Nat) : Int) ∧ sg p < 256 := by
 obtain ⟨k, h1, h2⟩ := zkV p
 have : sg p = k := by unfold sg; rw [h2]; rfl
 rw [this]
 exact ⟨h2, h1⟩
end Go.Proofs.Ytakcaekikfcbpaa
