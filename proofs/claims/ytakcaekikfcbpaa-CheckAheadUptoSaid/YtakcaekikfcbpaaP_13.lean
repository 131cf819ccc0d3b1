import Derived.Test.YtakcaekikfcbpaaPL
import Derived.KernelRfl
namespace Go.Proofs.Ytakcaekikfcbpaa
open Go.Ab Go.RowKit
set_option linter.unusedVariables false
set_option linter.unusedSimpArgs false
abbrev Ck := zb
abbrev Stm := zl
abbrev BA := ByteArray
abbrev Er (α : Type) := Except Int α
def pe (e : Int) : Value := .iface 134 (.int .i64 e)
def eb {α β : Type} (x : Er α) (f : α → Er β) : Er β := match x with
 | .error e => .error e
 | .ok a => f a
def ck (b : Bool) (e : Int) : Er Unit := if b = true then .ok () else .error e
theorem zs {α β : Type} {x : Er α} {f : α → Er β} {b : β} (h : eb x f = .ok b) : ∃ a, x = .ok a ∧ f a = .ok b := by
 unfold eb at h
 split at h
 ·cases h
 ·exact ⟨_, rfl, h⟩
theorem zmC {b : Bool} {e : Int} {u : Unit} (h : ck b e = .ok u) : b = true := by
 unfold ck at h
 split at h
 ·assumption
 ·cases h
theorem ckT {b : Bool} {e : Int} (h : b = true) : ck b e = .ok () := if_pos h
theorem ckF {b : Bool} {e : Int} (h : ¬ b = true) : ck b e = .error e := if_neg h
theorem zb2 {b : Bool} {e : Int} (h : b = true) : zby b e = some (.ok ()) := by subst h; rfl
theorem zce {b : Bool} {e : Int} (h : ¬ b = true) : zby b e = some (.error (pe e)) := by
 rw [Bool.not_eq_true] at h
 subst h; rfl
def fo (o : Option Nat) : Int := match o with
 | some k => (k : Int)
 | none => -1
theorem ixL {α : Type} {l : List α} {p : α → Bool} {L : Nat → Int → Option Int} (hl : l.length ≤ 1000000000000)
  (hL : ∀ n x, L (n + 1) x = if (decide (x < (l.length : Int))) = true then (zt l x).bind fun y => (if p y = true then some x else L n (IntKind.i64.wrap (x + 1))) else some (-1)) :
  ∀ n k, k ≤ l.length → l.length - k < n → L n (k : Int) = some (match (l.drop k).findIdx? p with | some j => ((k + j : Nat) : Int) | none => -1) := by
 intro n
 induction n with
 | zero => intro k _ h; omega
 | succ n ih =>
  intro k hk hn
  rw [hL]
  by_cases h : k < l.length
  ·rw [if_pos (zbB (by omega)), zbx h, Option.bind_some, List.drop_eq_getElem_cons h, List.findIdx?_cons]
   by_cases hp : p l[k] = true
   ·rw [if_pos hp, if_pos hp]
    rfl
   ·rw [if_neg hp, if_neg hp, zbW (by omega), ih (k + 1) (by omega) (by omega)]
    cases (l.drop (k + 1)).findIdx? p with
    | none => rfl
    | some j =>
     show some ((k + 1 + j : Nat) : Int) = some ((k + (j + 1) : Nat) : Int)
     congr 2; omega
  ·rw [if_neg (by simp; omega), List.drop_of_length_le (by omega)]
   rfl
theorem ixB {α : Type} {l : List α} {p : α → Bool} {L : Nat → Int → Option Int} (hl : l.length ≤ 1000000000000)
  (hL : ∀ n x, L (n + 1) x = if (decide (x < (l.length : Int))) = true then (zt l x).bind fun y => (if p y = true then some x else L n (IntKind.i64.wrap (x + 1))) else some (-1)) :
  L big 0 = some (fo (l.findIdx? p)) := by
 have := ixL hl hL big 0 (by omega) (zbF (by omega))
 rw [List.drop_zero] at this
 refine this.trans ?_
 cases l.findIdx? p with
 | none => rfl
 | some j =>
  show some ((0 + j : Nat) : Int) = some (j : Int)
  rw [Nat.zero_add]
theorem ziY {α : Type} {l : List α} {p : α → Bool} : decide (fo (l.findIdx? p) ≥ 0) = l.any p := by
 rw [← List.findIdx?_isSome]
 cases l.findIdx? p with
 | none => rfl
 | some j => exact zbB (by show (j : Int) ≥ 0; omega)
def nmI (l : List BA) (x : BA) : Option Nat := l.findIdx? (fun y => zG x y)
def zde (c : Ck) (nm : BA) : Option Nat := c.vars.findIdx? (fun v => zG v.Name nm)
def zcr (c : Ck) (nm : BA) : Option Nat := c.prog.Funcs.findIdx? (fun v => zG v.Name nm)
def zcC (c : Ck) (nm : BA) : Option Nat := c.prog.Structs.findIdx? (fun v => zG v.Name nm)
theorem zl1 {l : List BA} {x : BA} (h : l.length ≤ 1000000000000) : zgh l x = some (fo (nmI l x)) := ixB h fun _ _ => rfl
theorem zmO {l : List Int} {x : Int} (h : l.length ≤ 1000000000000) : zgE l x = some (fo (l.findIdx? (fun y => x == y))) := ixB h fun _ _ => rfl
theorem znr {l : List BA} {x : BA} (h : l.length ≤ 1000000000000) : zf5 l x = some (l.any (fun y => zG x y)) := by
 unfold zf5
 rw [zl1 h, Option.bind_some]
 exact congrArg some ziY
theorem zqp {l : List Int} {x : Int} (h : l.length ≤ 1000000000000) : zfS l x = some (l.any (fun y => x == y)) := by
 unfold zfS
 rw [zmO h, Option.bind_some]
 exact congrArg some ziY
theorem zmk {c : Ck} {nm : BA} (h : c.vars.length ≤ 1000000000000) : zfc c nm = some (fo (zde c nm)) := by
 unfold zfc
 rw [show zg1 c.vars nm = some (fo (zde c nm)) from ixB (p := fun v => zG v.Name nm) h fun _ _ => rfl]
 rfl
theorem zlv {c : Ck} {nm : BA} (h : c.prog.Funcs.length ≤ 1000000000000) : ze1 c nm = some (fo (zcr c nm)) := by
 unfold ze1
 rw [show zf8 c.prog.Funcs nm = some (fo (zcr c nm)) from ixB (p := fun v => zG v.Name nm) h fun _ _ => rfl]
 rfl
theorem zln {c : Ck} {nm : BA} (h : c.prog.Funcs.length ≤ 1000000000000) : zeH c nm = some (fo (zcr c nm)) := zlv h
def zc8 (c : Ck) (nm : BA) : List BA := match zcC c nm with
 | none => []
 | some k => match c.prog.Structs[k]? with
  | some s => s.Fields
  | none => []
theorem zfu {α : Type} {l : List α} {p : α → Bool} {k : Nat} (h : l.findIdx? p = some k) : k < l.length := by
 rw [List.findIdx?_eq_some_iff_getElem] at h
 exact h.1
theorem zkk {c : Ck} {nm : BA} (h : c.prog.Structs.length ≤ 1000000000000) : zfg c nm = some (zc8 c nm, (zcC c nm).isSome) := by
 unfold zfg zc8
 rw [show zgZ c.prog.Structs nm = some (fo (zcC c nm)) from ixB (p := fun v => zG v.Name nm) h fun _ _ => rfl, Option.bind_some]
 cases e : zcC c nm with
 | none => rfl
 | some k =>
  have hk := zfu e
  rw [if_neg (by show ¬ (decide ((k : Int) < 0) = true); simp)]
  show (zt c.prog.Structs (k : Int)).bind _ = _
  rw [zbx hk, Option.bind_some]
  dsimp only
  rw [List.getElem?_eq_getElem hk]
  rfl
def knw (c : Ck) (t : zD) : Bool := ((t.Kind.toNat : Int) != 4) || (zcC c t.Name).isSome
theorem zk4 {c : Ck} {t : zD} (h : c.prog.Structs.length ≤ 1000000000000) : zdb c t = some (knw c t) := by
 unfold zdb
 rw [zkk h]
 rfl
def sca (t : zD) : Bool := ((t.Kind.toNat : Int) == 1) || ((t.Kind.toNat : Int) == 2)
theorem zjK (t : zD) : zc1 t = some (sca t) := rfl
def fnd (c : Ck) (nm : BA) : Er Nat := match zde c nm with
 | none => .error 8
 | some k => if (c.scope.any fun y => (k : Int) == y) = true then .ok k else .error 8
theorem zhT {c : Ck} {nm : BA} {k : Nat} (h : fnd c nm = .ok k) : k < c.vars.length := by
 unfold fnd at h
 split at h
 ·cases h
 ·rename_i e
  split at h
  ·injection h with h
   subst h
   exact zfu e
  ·cases h
theorem zim {c : Ck} {nm : BA} (h : c.vars.length ≤ 1000000000000) (h2 : c.scope.length ≤ 1000000000000) : zep c nm = some (match fnd c nm with | .error e => .error (pe e) | .ok k => .ok (k : Int)) := by
 unfold zep fnd
 rw [zmk h, Option.bind_some]
 cases e : zde c nm with
 | none => rfl
 | some k =>
  rw [show fo (some k) = (k : Int) from rfl]
  rw [if_pos (zbB (by omega)), zqp h2]
  dsimp only [Option.bind_some]
  by_cases hb : (c.scope.any fun y => (k : Int) == y) = true
  ·rw [if_pos hb, zb2 hb]
   rfl
  ·rw [if_neg hb, zce hb]
   rfl
def noT : zD := ⟨0, 0, zqA⟩
def vt (c : Ck) (k : Nat) : zD := match c.vars[k]? with
 | some v => v.Type_
 | none => noT
def vf (c : Ck) (k : Nat) : List BA := match c.vars[k]? with
 | some v => v.Fields
 | none => []
theorem zfs {c : Ck} {k : Nat} (h : k < c.vars.length) : vt c k = c.vars[k].Type_ := by
 unfold vt
 rw [List.getElem?_eq_getElem h]
theorem zk0 {c : Ck} {k : Nat} (h : k < c.vars.length) : vf c k = c.vars[k].Fields := by
 unfold vf
 rw [List.getElem?_eq_getElem h]
def tU {α : Type} (r : Er α) : Option (Except Value α) := some (match r with
 | .error e => .error (pe e)
 | .ok a => .ok a)
theorem zfA {c : Ck} {k : Nat} {n : Int} (h : k < c.vars.length) : zdK c (k : Int) n = tU (ck (((vt c k).Kind.toNat : Int) == n) 9) := by
 unfold zdK
 rw [zbx h, Option.bind_some, zfs h]
 by_cases hb : ((c.vars[k].Type_.Kind.toNat : Int) == n) = true
 ·rw [zb2 hb, ckT hb]
  rfl
 ·rw [zce hb, ckF hb]
  rfl
def zdH (c : Ck) (k : Nat) (nm : BA) : Er Nat := match nmI (vf c k) nm with
 | none => .error 8
 | some f => .ok f
theorem zlI {c : Ck} {k : Nat} {nm : BA} (h : k < c.vars.length) (h2 : (vf c k).length ≤ 1000000000000) : zej c (k : Int) nm = some (match zdH c k nm with | .error e => .error (pe e) | .ok f => .ok (f : Int)) := by
 unfold zej zdH
 rw [zbx h, Option.bind_some]
 rw [zk0 h] at h2 ⊢
 rw [zl1 h2, Option.bind_some]
 cases nmI c.vars[k].Fields nm with
 | none => rfl
 | some f =>
  show zJ (zby (decide ((f : Int) ≥ 0)) 8) _ _ = _
  rw [zb2 (zbB (by omega))]
  rfl
theorem zpf {a b : List UInt8} (hl : a.length = b.length) (hs : a.length ≤ 1000000000000) : ∀ n k, k ≤ a.length → a.length - k < n → zfe a b n (k : Int) = some (decide (a.drop k = b.drop k)) := by
 intro n
 induction n with
 | zero => intro k _ h; omega
 | succ n ih =>
  intro k hk hn
  show zgg (zfe a b n) a b (k : Int) = _
  unfold zgg
  by_cases h : k < a.length
  ·have h2 : k < b.length := by omega
   rw [if_pos (zbB (by omega)), zbx h, zbx h2, Option.bind_some, Option.bind_some, zbW (by omega), ih (k + 1) (by omega) (by omega), List.drop_eq_getElem_cons h, List.drop_eq_getElem_cons h2]
   by_cases he : a[k] = b[k]
   ·rw [if_neg (by simp [he]), he]
    congr 1
    rw [Bool.eq_iff_iff, decide_eq_true_iff, decide_eq_true_iff, List.cons.injEq]
    exact ⟨fun h => ⟨rfl, h⟩, fun h => h.2⟩
   ·rw [if_pos (zhO fun h => he (zla.1 h)), zgC fun h => he (by injection h)]
  ·rw [if_neg (by simp; omega), List.drop_of_length_le (by omega), List.drop_of_length_le (by omega)]
   simp
theorem zlE {a b : List UInt8} (hs : a.length ≤ 1000000000000) : zeZ a b = some (decide (a = b)) := by
 unfold zeZ
 by_cases hl : a.length = b.length
 ·rw [if_neg (by simp [hl])]
  exact zpf hl hs big 0 (by omega) (zbF (by omega))
 ·rw [if_pos (zhO (by omega)), zgC (fun h => hl (by rw [h]))]
theorem zc0 (p : BA) (n : Nat) (i k : Int) (t : BA) (h1 : decide (i < 26) = true) (h2 : ((ze4 zqD i (IntKind.i64.wrap (i + 2))).bind fun y21 => zhf y21 zqI) = some t) (h3 : IntKind.i64.wrap (i + 2) = k) : zdV p (n + 1) i = if (zG p t) = true then some (IntKind.u8.wrap (1 + (IntKind.u8.wrap (IntKind.i64.wrap (Int.tdiv i 2))))) else zdV p n k := by
 show zfO (zdV p n) p i = _
 unfold zfO
 rw [if_pos h1]
 obtain ⟨y, h4, h5⟩ := Option.bind_eq_some_iff.1 h2
 rw [h4, Option.bind_some, h5, Option.bind_some, h3]
theorem zmS (p : BA) : ∃ k : Nat, k < 256 ∧ zeI p = some (k : Int) := by
 have hw : ∀ x : Int, ∃ k : Nat, k < 256 ∧ some (IntKind.u8.wrap x) = some (k : Int) := fun x => ⟨(x % 256).toNat, by omega, by rw [zp6]; congr 1; omega⟩
 have hn : big = (big - 14) + 14 := by kernel_rfl
 show ∃ k : Nat, k < 256 ∧ zdV p big 0 = some (k : Int)
 rw [hn]
 rw [zc0 p _ 0 2 ⟨#[43]⟩ (by kernel_rfl) (by kernel_rfl) (by kernel_rfl)]; split; exact hw _
 rw [zc0 p _ 2 4 zqG (by kernel_rfl) (by kernel_rfl) (by kernel_rfl)]; split; exact hw _
 rw [zc0 p _ 4 6 ⟨#[42]⟩ (by kernel_rfl) (by kernel_rfl) (by kernel_rfl)]; split; exact hw _
 rw [zc0 p _ 6 8 ⟨#[47]⟩ (by kernel_rfl) (by kernel_rfl) (by kernel_rfl)]; split; exact hw _
 rw [zc0 p _ 8 10 ⟨#[37]⟩ (by kernel_rfl) (by kernel_rfl) (by kernel_rfl)]; split; exact hw _
 rw [zc0 p _ 10 12 ⟨#[61, 61]⟩ (by kernel_rfl) (by kernel_rfl) (by kernel_rfl)]; split; exact hw _
 rw [zc0 p _ 12 14 ⟨#[33, 61]⟩ (by kernel_rfl) (by kernel_rfl) (by kernel_rfl)]; split; exact hw _
 rw [zc0 p _ 14 16 ⟨#[60]⟩ (by kernel_rfl) (by kernel_rfl) (by kernel_rfl)]; split; exact hw _
 rw [zc0 p _ 16 18 ⟨#[60, 61]⟩ (by kernel_rfl) (by kernel_rfl) (by kernel_rfl)]; split; exact hw _
 rw [zc0 p _ 18 20 zqH (by kernel_rfl) (by kernel_rfl) (by kernel_rfl)]; split; exact hw _
 rw [zc0 p _ 20 22 ⟨#[62, 61]⟩ (by kernel_rfl) (by kernel_rfl) (by kernel_rfl)]; split; exact hw _
 rw [zc0 p _ 22 24 ⟨#[38, 38]⟩ (by kernel_rfl) (by kernel_rfl) (by kernel_rfl)]; split; exact hw _
 rw [zc0 p _ 24 26 ⟨#[124, 124]⟩ (by kernel_rfl) (by kernel_rfl) (by kernel_rfl)]; split; exact hw _
 exact ⟨0, by omega, rfl⟩
def sg (p : BA) : Nat := match zeI p with
 | some k => k.toNat
 | none => 0
theorem zlY (p : BA) : zeI p = some ((sg p : Nat) : Int) ∧ sg p < 256 := by
 obtain ⟨k, h1, h2⟩ := zmS p
 have : sg p = k := by unfold sg; rw [h2]; rfl
 rw [this]
 exact ⟨h2, h1⟩
end Go.Proofs.Ytakcaekikfcbpaa
