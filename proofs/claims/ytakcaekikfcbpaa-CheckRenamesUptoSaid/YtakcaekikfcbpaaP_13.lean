import Derived.Test.YtakcaekikfcbpaaPL
import Derived.KernelRfl
namespace Go.Proofs.Ytakcaekikfcbpaa
open Go.Ab Go.RowKit
set_option linter.unusedVariables false
set_option linter.unusedSimpArgs false
abbrev Ck := zb
abbrev Stm := zi
abbrev BA := ByteArray
abbrev Er (α : Type) := Except Int α
def pe (e : Int) : Value := .iface 134 (.int .i64 e)
def eb {α β : Type} (x : Er α) (f : α → Er β) : Er β := match x with
 | .error e => .error e
 | .ok a => f a
def ck (b : Bool) (e : Int) : Er Unit := if b = true then .ok () else .error e
theorem zt {α β : Type} {x : Er α} {f : α → Er β} {b : β} (h : eb x f = .ok b) : ∃ a, x = .ok a ∧ f a = .ok b := by
 unfold eb at h
 split at h
 ·cases h
 ·exact ⟨_, rfl, h⟩
theorem zoU {b : Bool} {e : Int} {u : Unit} (h : ck b e = .ok u) : b = true := by
 unfold ck at h
 split at h
 ·assumption
 ·cases h
theorem ckT {b : Bool} {e : Int} (h : b = true) : ck b e = .ok () := if_pos h
theorem ckF {b : Bool} {e : Int} (h : ¬ b = true) : ck b e = .error e := if_neg h
theorem zb3 {b : Bool} {e : Int} (h : b = true) : zbx b e = some (.ok ()) := by subst h; rfl
theorem zcd {b : Bool} {e : Int} (h : ¬ b = true) : zbx b e = some (.error (pe e)) := by
 rw [Bool.not_eq_true] at h
 subst h; rfl
def fo (o : Option Nat) : Int := match o with
 | some k => (k : Int)
 | none => -1
theorem ixL {α : Type} {l : List α} {p : α → Bool} {L : Nat → Int → Option Int} (hl : l.length ≤ 1000000000000)
  (hL : ∀ n x, L (n + 1) x = if (decide (x < (l.length : Int))) = true then (zs l x).bind fun y => (if p y = true then some x else L n (IntKind.i64.wrap (x + 1))) else some (-1)) :
  ∀ n k, k ≤ l.length → l.length - k < n → L n (k : Int) = some (match (l.drop k).findIdx? p with | some j => ((k + j : Nat) : Int) | none => -1) := by
 intro n
 induction n with
 | zero => intro k _ h; omega
 | succ n ih =>
  intro k hk hn
  rw [hL]
  by_cases h : k < l.length
  ·rw [if_pos (zbw (by omega)), zbr h, Option.bind_some, List.drop_eq_getElem_cons h, List.findIdx?_cons]
   by_cases hp : p l[k] = true
   ·rw [if_pos hp, if_pos hp]
    rfl
   ·rw [if_neg hp, if_neg hp, zbU (by omega), ih (k + 1) (by omega) (by omega)]
    cases (l.drop (k + 1)).findIdx? p with
    | none => rfl
    | some j =>
     show some ((k + 1 + j : Nat) : Int) = some ((k + (j + 1) : Nat) : Int)
     congr 2; omega
  ·rw [if_neg (by simp; omega), List.drop_of_length_le (by omega)]
   rfl
theorem ixB {α : Type} {l : List α} {p : α → Bool} {L : Nat → Int → Option Int} (hl : l.length ≤ 1000000000000)
  (hL : ∀ n x, L (n + 1) x = if (decide (x < (l.length : Int))) = true then (zs l x).bind fun y => (if p y = true then some x else L n (IntKind.i64.wrap (x + 1))) else some (-1)) :
  L big 0 = some (fo (l.findIdx? p)) := by
 have := ixL hl hL big 0 (by omega) (zbA (by omega))
 rw [List.drop_zero] at this
 refine this.trans ?_
 cases l.findIdx? p with
 | none => rfl
 | some j =>
  show some ((0 + j : Nat) : Int) = some (j : Int)
  rw [Nat.zero_add]
theorem zjb {α : Type} {l : List α} {p : α → Bool} : decide (fo (l.findIdx? p) ≥ 0) = l.any p := by
 rw [← List.findIdx?_isSome]
 cases l.findIdx? p with
 | none => rfl
 | some j => exact zbw (by show (j : Int) ≥ 0; omega)
def nmI (l : List BA) (x : BA) : Option Nat := l.findIdx? (fun y => zP x y)
def zdf (c : Ck) (nm : BA) : Option Nat := c.vars.findIdx? (fun v => zP v.Name nm)
def zb5 (c : Ck) (nm : BA) : Option Nat := c.prog.Funcs.findIdx? (fun v => zP v.Name nm)
def zcF (c : Ck) (nm : BA) : Option Nat := c.prog.Structs.findIdx? (fun v => zP v.Name nm)
theorem zkT {l : List BA} {x : BA} (h : l.length ≤ 1000000000000) : zfY l x = some (fo (nmI l x)) := ixB h fun _ _ => rfl
theorem zn5 {l : List Int} {x : Int} (h : l.length ≤ 1000000000000) : zhg l x = some (fo (l.findIdx? (fun y => x == y))) := ixB h fun _ _ => rfl
theorem zmG {l : List BA} {x : BA} (h : l.length ≤ 1000000000000) : zgC l x = some (l.any (fun y => zP x y)) := by
 unfold zgC
 rw [zkT h, Option.bind_some]
 exact congrArg some zjb
theorem znP {l : List Int} {x : Int} (h : l.length ≤ 1000000000000) : zfX l x = some (l.any (fun y => x == y)) := by
 unfold zfX
 rw [zn5 h, Option.bind_some]
 exact congrArg some zjb
theorem zk1 {c : Ck} {nm : BA} (h : c.vars.length ≤ 1000000000000) : zeV c nm = some (fo (zdf c nm)) := by
 unfold zeV
 rw [show zg1 c.vars nm = some (fo (zdf c nm)) from ixB (p := fun v => zP v.Name nm) h fun _ _ => rfl]
 rfl
theorem zlV {c : Ck} {nm : BA} (h : c.prog.Funcs.length ≤ 1000000000000) : zeJ c nm = some (fo (zb5 c nm)) := by
 unfold zeJ
 rw [show zf0 c.prog.Funcs nm = some (fo (zb5 c nm)) from ixB (p := fun v => zP v.Name nm) h fun _ _ => rfl]
 rfl
theorem zj8 {c : Ck} {nm : BA} (h : c.prog.Funcs.length ≤ 1000000000000) : zeN c nm = some (fo (zb5 c nm)) := zlV h
def zda (c : Ck) (nm : BA) : List BA := match zcF c nm with
 | none => []
 | some k => match c.prog.Structs[k]? with
  | some s => s.Fields
  | none => []
theorem zfc {α : Type} {l : List α} {p : α → Bool} {k : Nat} (h : l.findIdx? p = some k) : k < l.length := by
 rw [List.findIdx?_eq_some_iff_getElem] at h
 exact h.1
theorem zkq {c : Ck} {nm : BA} (h : c.prog.Structs.length ≤ 1000000000000) : zfy c nm = some (zda c nm, (zcF c nm).isSome) := by
 unfold zfy zda
 rw [show zhR c.prog.Structs nm = some (fo (zcF c nm)) from ixB (p := fun v => zP v.Name nm) h fun _ _ => rfl, Option.bind_some]
 cases e : zcF c nm with
 | none => rfl
 | some k =>
  have hk := zfc e
  rw [if_neg (by show ¬ (decide ((k : Int) < 0) = true); simp)]
  show (zs c.prog.Structs (k : Int)).bind _ = _
  rw [zbr hk, Option.bind_some]
  dsimp only
  rw [List.getElem?_eq_getElem hk]
  rfl
def knw (c : Ck) (t : zz) : Bool := ((t.Kind.toNat : Int) != 4) || (zcF c t.Name).isSome
theorem zkx {c : Ck} {t : zz} (h : c.prog.Structs.length ≤ 1000000000000) : zc8 c t = some (knw c t) := by
 unfold zc8
 rw [zkq h]
 rfl
def sca (t : zz) : Bool := ((t.Kind.toNat : Int) == 1) || ((t.Kind.toNat : Int) == 2)
theorem zh0 (t : zz) : zc3 t = some (sca t) := rfl
def fnd (c : Ck) (nm : BA) : Er Nat := match zdf c nm with
 | none => .error 8
 | some k => if (c.scope.any fun y => (k : Int) == y) = true then .ok k else .error 8
theorem zju {c : Ck} {nm : BA} {k : Nat} (h : fnd c nm = .ok k) : k < c.vars.length := by
 unfold fnd at h
 split at h
 ·cases h
 ·rename_i e
  split at h
  ·injection h with h
   subst h
   exact zfc e
  ·cases h
theorem ziN {c : Ck} {nm : BA} (h : c.vars.length ≤ 1000000000000) (h2 : c.scope.length ≤ 1000000000000) : zen c nm = some (match fnd c nm with | .error e => .error (pe e) | .ok k => .ok (k : Int)) := by
 unfold zen fnd
 rw [zk1 h, Option.bind_some]
 cases e : zdf c nm with
 | none => rfl
 | some k =>
  rw [show fo (some k) = (k : Int) from rfl]
  rw [if_pos (zbw (by omega)), znP h2]
  dsimp only [Option.bind_some]
  by_cases hb : (c.scope.any fun y => (k : Int) == y) = true
  ·rw [if_pos hb, zb3 hb]
   rfl
  ·rw [if_neg hb, zcd hb]
   rfl
def noT : zz := ⟨0, 0, zqP⟩
def vt (c : Ck) (k : Nat) : zz := match c.vars[k]? with
 | some v => v.Type_
 | none => noT
def vf (c : Ck) (k : Nat) : List BA := match c.vars[k]? with
 | some v => v.Fields
 | none => []
theorem zfj {c : Ck} {k : Nat} (h : k < c.vars.length) : vt c k = c.vars[k].Type_ := by
 unfold vt
 rw [List.getElem?_eq_getElem h]
theorem zkP {c : Ck} {k : Nat} (h : k < c.vars.length) : vf c k = c.vars[k].Fields := by
 unfold vf
 rw [List.getElem?_eq_getElem h]
def tU {α : Type} (r : Er α) : Option (Except Value α) := some (match r with
 | .error e => .error (pe e)
 | .ok a => .ok a)
theorem zfL {c : Ck} {k : Nat} {n : Int} (h : k < c.vars.length) : zdI c (k : Int) n = tU (ck (((vt c k).Kind.toNat : Int) == n) 9) := by
 unfold zdI
 rw [zbr h, Option.bind_some, zfj h]
 by_cases hb : ((c.vars[k].Type_.Kind.toNat : Int) == n) = true
 ·rw [zb3 hb, ckT hb]
  rfl
 ·rw [zcd hb, ckF hb]
  rfl
def zdG (c : Ck) (k : Nat) (nm : BA) : Er Nat := match nmI (vf c k) nm with
 | none => .error 8
 | some f => .ok f
theorem zlR {c : Ck} {k : Nat} {nm : BA} (h : k < c.vars.length) (h2 : (vf c k).length ≤ 1000000000000) : zee c (k : Int) nm = some (match zdG c k nm with | .error e => .error (pe e) | .ok f => .ok (f : Int)) := by
 unfold zee zdG
 rw [zbr h, Option.bind_some]
 rw [zkP h] at h2 ⊢
 rw [zkT h2, Option.bind_some]
 cases nmI c.vars[k].Fields nm with
 | none => rfl
 | some f =>
  show zJ (zbx (decide ((f : Int) ≥ 0)) 8) _ _ = _
  rw [zb3 (zbw (by omega))]
  rfl
theorem znh {a b : List UInt8} (hl : a.length = b.length) (hs : a.length ≤ 1000000000000) : ∀ n k, k ≤ a.length → a.length - k < n → ze1 a b n (k : Int) = some (decide (a.drop k = b.drop k)) := by
 intro n
 induction n with
 | zero => intro k _ h; omega
 | succ n ih =>
  intro k hk hn
  show zgu (ze1 a b n) a b (k : Int) = _
  unfold zgu
  by_cases h : k < a.length
  ·have h2 : k < b.length := by omega
   rw [if_pos (zbw (by omega)), zbr h, zbr h2, Option.bind_some, Option.bind_some, zbU (by omega), ih (k + 1) (by omega) (by omega), List.drop_eq_getElem_cons h, List.drop_eq_getElem_cons h2]
   by_cases he : a[k] = b[k]
   ·rw [if_neg (by simp [he]), he]
    congr 1
    rw [Bool.eq_iff_iff, decide_eq_true_iff, decide_eq_true_iff, List.cons.injEq]
    exact ⟨fun h => ⟨rfl, h⟩, fun h => h.2⟩
   ·rw [if_pos (zjl fun h => he (zlc.1 h)), zhj fun h => he (by injection h)]
  ·rw [if_neg (by simp; omega), List.drop_of_length_le (by omega), List.drop_of_length_le (by omega)]
   simp
theorem zlL {a b : List UInt8} (hs : a.length ≤ 1000000000000) : zeQ a b = some (decide (a = b)) := by
 unfold zeQ
 by_cases hl : a.length = b.length
 ·rw [if_neg (by simp [hl])]
  exact znh hl hs big 0 (by omega) (zbA (by omega))
 ·rw [if_pos (zjl (by omega)), zhj (fun h => hl (by rw [h]))]
theorem zcW (p : BA) (n : Nat) (i k : Int) (t : BA) (h1 : decide (i < 26) = true) (h2 : ((zeS zqS i (IntKind.i64.wrap (i + 2))).bind fun y21 => zho y21 zqX) = some t) (h3 : IntKind.i64.wrap (i + 2) = k) : zdO p (n + 1) i = if (zP p t) = true then some (IntKind.u8.wrap (1 + (IntKind.u8.wrap (IntKind.i64.wrap (Int.tdiv i 2))))) else zdO p n k := by
 show zge (zdO p n) p i = _
 unfold zge
 rw [if_pos h1]
 obtain ⟨y, h4, h5⟩ := Option.bind_eq_some_iff.1 h2
 rw [h4, Option.bind_some, h5, Option.bind_some, h3]
theorem zpR (p : BA) : ∃ k : Nat, k < 256 ∧ zeG p = some (k : Int) := by
 have hw : ∀ x : Int, ∃ k : Nat, k < 256 ∧ some (IntKind.u8.wrap x) = some (k : Int) := fun x => ⟨(x % 256).toNat, by omega, by rw [zpH]; congr 1; omega⟩
 have hn : big = (big - 14) + 14 := by kernel_rfl
 show ∃ k : Nat, k < 256 ∧ zdO p big 0 = some (k : Int)
 rw [hn]
 rw [zcW p _ 0 2 ⟨#[43]⟩ (by kernel_rfl) (by kernel_rfl) (by kernel_rfl)]; split; exact hw _
 rw [zcW p _ 2 4 zqV (by kernel_rfl) (by kernel_rfl) (by kernel_rfl)]; split; exact hw _
 rw [zcW p _ 4 6 ⟨#[42]⟩ (by kernel_rfl) (by kernel_rfl) (by kernel_rfl)]; split; exact hw _
 rw [zcW p _ 6 8 ⟨#[47]⟩ (by kernel_rfl) (by kernel_rfl) (by kernel_rfl)]; split; exact hw _
 rw [zcW p _ 8 10 ⟨#[37]⟩ (by kernel_rfl) (by kernel_rfl) (by kernel_rfl)]; split; exact hw _
 rw [zcW p _ 10 12 ⟨#[61, 61]⟩ (by kernel_rfl) (by kernel_rfl) (by kernel_rfl)]; split; exact hw _
 rw [zcW p _ 12 14 ⟨#[33, 61]⟩ (by kernel_rfl) (by kernel_rfl) (by kernel_rfl)]; split; exact hw _
 rw [zcW p _ 14 16 ⟨#[60]⟩ (by kernel_rfl) (by kernel_rfl) (by kernel_rfl)]; split; exact hw _
 rw [zcW p _ 16 18 ⟨#[60, 61]⟩ (by kernel_rfl) (by kernel_rfl) (by kernel_rfl)]; split; exact hw _
 rw [zcW p _ 18 20 zqW (by kernel_rfl) (by kernel_rfl) (by kernel_rfl)]; split; exact hw _
 rw [zcW p _ 20 22 ⟨#[62, 61]⟩ (by kernel_rfl) (by kernel_rfl) (by kernel_rfl)]; split; exact hw _
 rw [zcW p _ 22 24 ⟨#[38, 38]⟩ (by kernel_rfl) (by kernel_rfl) (by kernel_rfl)]; split; exact hw _
 rw [zcW p _ 24 26 ⟨#[124, 124]⟩ (by kernel_rfl) (by kernel_rfl) (by kernel_rfl)]; split; exact hw _
 exact ⟨0, by omega, rfl⟩
def sg (p : BA) : Nat := match zeG p with
 | some k => k.toNat
 | none => 0
theorem zmo (p : BA) : zeG p = some ((sg p : Nat) : Int) ∧ sg p < 256 := by
 obtain ⟨k, h1, h2⟩ := zpR p
 have : sg p = k := by unfold sg; rw [h2]; rfl
 rw [this]
 exact ⟨h2, h1⟩
end Go.Proofs.Ytakcaekikfcbpaa
