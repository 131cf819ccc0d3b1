import Derived.Test.YtnhboaaikehpoaaP_12g
import Derived.KernelRfl
namespace Go.Proofs.Ytnhboaaikehpoaa
open Go.Ab Go.RowKit
set_option linter.unusedVariables false
set_option linter.unusedSimpArgs false
def opW (l : List BA) : List Tok → BA
 | [] => ⟨#[]⟩
 | t :: _ => if (decide ((t.Kind.toNat : Int) = 4) && inB t.Text l) = true then t.Text else ⟨#[]⟩
section
variable {T : List Tok} {r : List Tok} {k : Int} {tx : List BA}
theorem zqC (hs : Suf T r) {lv : List BA} (hv : ∀ x ∈ lv, x ≠ ⟨#[]⟩) (hl : lv.length ≤ 1000) : ∀ (n k : Nat), k ≤ lv.length → lv.length - k < n → zfI (mkR T r false) lv n (k : Int) = some (opW (lv.drop k) r) := by
 intro n
 induction n with
 | zero => intro k _ h; omega
 | succ n ih =>
  intro k hk hn
  show zhg (zfI (mkR T r false) lv n) (mkR T r false) lv (k : Int) = _
  unfold zhg
  by_cases h : k < lv.length
  ·have ih' := ih (k + 1) (by omega) (by omega)
   rw [if_pos (zbo (by omega)), zdd h, Option.bind_some, Option.bind_some, zcB hs (hv _ (List.getElem_mem h)), Option.bind_some, List.drop_eq_getElem_cons h, zcq (by omega)]
   cases r with
   | nil => exact (if_neg (by simp [zs])).trans ih'
   | cons t r =>
    unfold zs opW
    unfold opW at ih'
    dsimp only at ih' ⊢
    by_cases hk : (t.Kind.toNat : Int) = 4
    ·by_cases hx : t.Text = lv[k]
     ·rw [if_pos (by rw [zbo hk, (ze0 (l := [lv[k]])).2 (by rw [hx]; simp)]; simp), if_pos (by rw [zbo hk, ze0.2 (by rw [hx]; exact List.mem_cons_self ..)]; rfl), hx]
     ·have hno : inB t.Text [lv[k]] = false := by
       cases hb : inB t.Text [lv[k]] with
       | false => rfl
       | true => exact absurd (by simpa using ze0.1 hb) hx
      rw [if_neg (by rw [zbo hk, hno]; simp), ih']
      congr 1
      have : inB t.Text (lv[k] :: lv.drop (k + 1)) = inB t.Text (lv.drop (k + 1)) := by
       rw [Bool.eq_iff_iff, ze0, ze0, List.mem_cons]
       exact ⟨fun h => h.resolve_left hx, .inr⟩
      rw [this]
    ·rw [if_neg (by rw [zdD hk]; simp), ih']
     rw [zdD hk]
     simp
  ·rw [if_neg (by simp; omega), List.drop_of_length_le (by omega)]
   unfold opW
   cases r with
   | nil => rfl
   | cons t r =>
    dsimp only
    rw [if_neg (by simp [inB])]
theorem zqV {e : List Tok} {lv : List BA} (hl : lv.length ≤ 1000) : ∀ (n k : Nat), k ≤ lv.length → lv.length - k < n → zfI (mkR T e true) lv n (k : Int) = some ⟨#[]⟩ := by
 intro n
 induction n with
 | zero => intro k _ h; omega
 | succ n ih =>
  intro k hk hn
  show zhg (zfI (mkR T e true) lv n) (mkR T e true) lv (k : Int) = _
  unfold zhg
  by_cases h : k < lv.length
  ·rw [if_pos (zbo (by omega)), zdd h, Option.bind_some, Option.bind_some, zcq (by omega)]
   exact ih (k + 1) (by omega) (by omega)
  ·rw [if_neg (by simp; omega)]
theorem ziU : ∀ lv ∈ lvls, lv ≠ [] ∧ (∀ x ∈ lv, x ≠ ⟨#[]⟩) ∧ lv.length ≤ 1000 := by decide
theorem zhU {j : Nat} {lv : List BA} {ls : List (List BA)} (hj : lvls.drop j = lv :: ls) : zI lvls (j : Int) = some lv ∧ lv ∈ lvls ∧ ls = lvls.drop (j + 1) ∧ j < 5 := by
 refine ⟨?_, ?_, ?_, ?_⟩
 ·rw [zjo]
  have := List.getElem?_drop (xs := lvls) (i := j) (j := 0)
  rw [hj] at this
  exact this.symm
 ·exact List.mem_of_mem_drop (i := j) (by rw [hj]; exact List.mem_cons_self ..)
 ·rw [← List.drop_drop, hj]
  rfl
 ·have := congrArg List.length hj
  rw [List.length_drop] at this
  simp [lvls] at this
  omega
theorem zoA (hs : Suf T r) {j : Nat} {lv : List BA} {ls : List (List BA)} (hj : lvls.drop j = lv :: ls) : zjl (mkR T r false) (j : Int) = some (opW lv r) := by
 obtain ⟨h1, h2, _⟩ := zhU hj
 obtain ⟨_, h4, h5⟩ := ziU lv h2
 show ((zI lvls (j : Int)).bind _) = _
 rw [h1, Option.bind_some]
 exact zqC hs h4 h5 big 0 (by omega) (zb9 (by omega))
theorem zq7 {e : List Tok} {j : Nat} {lv : List BA} {ls : List (List BA)} (hj : lvls.drop j = lv :: ls) : zjl (mkR T e true) (j : Int) = some ⟨#[]⟩ := by
 obtain ⟨h1, h2, _⟩ := zhU hj
 obtain ⟨_, h4, h5⟩ := ziU lv h2
 show ((zI lvls (j : Int)).bind _) = _
 rw [h1, Option.bind_some]
 exact zqV h5 big 0 (by omega) (zb9 (by omega))
theorem zkV {R : RP → Int → Option (za × RP)} {e : List Tok} {j : Nat} {lv : List BA} {ls : List (List BA)} (hj : lvls.drop j = lv :: ls) (n : Nat) (x : za) : zeZ R (j : Int) (n + 1) T ((T.length - e.length : Nat) : Int) true x.Kind x.Num x.Name x.Field x.Op x.Kids = some (x, mkR T e true) := by
 show zgO _ R (j : Int) T _ true x.Kind x.Num x.Name x.Field x.Op x.Kids = _
 unfold zgO
 have := zq7 (T := T) (e := e) hj
 unfold mkR at this
 rw [this, Option.bind_some, zeJ, if_pos (zbo rfl)]
 cases x
 rfl
theorem zmp {j : Nat} (h : j < 5) : ∃ lv ls, lvls.drop j = lv :: ls := by
 match j, h with
 | 0, _ => exact ⟨_, _, rfl⟩
 | 1, _ => exact ⟨_, _, rfl⟩
 | 2, _ => exact ⟨_, _, rfl⟩
 | 3, _ => exact ⟨_, _, rfl⟩
 | 4, _ => exact ⟨_, _, rfl⟩
theorem zno (e : List Tok) (m : Nat) : ∃ y, (zcv (m + 1)).2 (mkR T e true) = some (y, mkR T e true) := ⟨_, rfl⟩
theorem zlC (e : List Tok) : ∀ (d j m : Nat), j + d = 5 → d + 2 ≤ m → ∃ y, (zcv m).1 (mkR T e true) (j : Int) = some (y, mkR T e true)
 | 0, j, 0, _, h => by omega
 | 0, j, 1, _, h => by omega
 | 0, j, m + 2, hj, h => by
  obtain ⟨y, hy⟩ := zno (T := T) e m
  refine ⟨y, ?_⟩
  show zeW (zcv (m + 1)).1 (zcv (m + 1)).2 (mkR T e true) (j : Int) = _
  unfold zeW
  rw [show zgj = some lvls from rfl, Option.bind_some, if_pos (zbo (by simp [lvls]; omega)), hy]
  rfl
 | d + 1, j, 0, _, h => by omega
 | d + 1, j, m + 1, hj, h => by
  obtain ⟨y, hy⟩ := zlC e d (j + 1) m (by omega) (by omega)
  obtain ⟨lv, ls, hd⟩ := zmp (j := j) (by omega)
  refine ⟨y, ?_⟩
  show zeW (zcv m).1 (zcv m).2 (mkR T e true) (j : Int) = _
  unfold zeW
  rw [show zgj = some lvls from rfl, Option.bind_some, if_neg (by simp [lvls]; omega), zcq (by omega), hy, Option.bind_some]
  exact zkV hd _ y
theorem zeu (e : List Tok) : ∃ y, zb8 (mkR T e true) 0 = some (y, mkR T e true) :=
 zlC e 5 0 big rfl (by have := zbZ; omega)
theorem zmC {R : RP → Int → Option (za × RP)} {Bf : List (List BA) → Ps za} (hf : ∀ l, Sf (Bf l)) {j : Nat} {lv : List BA} {ls : List (List BA)} (hj : lvls.drop j = lv :: ls) (hR : ∀ r, Suf T r → zG T (R (mkR T r false) ((j + 1 : Nat) : Int)) (Bf ls) r) :
  ∀ (n m : Nat) (x : za) (r : List Tok), r.length < n → Suf T r → zG T (zeZ R (j : Int) n T ((T.length - r.length : Nat) : Int) false x.Kind x.Num x.Name x.Field x.Op x.Kids) (bL Bf lv ls m x) r
 | n, 0, x, r, _, _ => zeb
 | 0, m + 1, x, r, h, _ => by omega
 | n + 1, m + 1, x, r, hn, hs => by
  obtain ⟨_, h2, _, hj5⟩ := zhU hj
  obtain ⟨hne, h4, h5⟩ := ziU lv h2
  show zG T (zgO (zeZ R (j : Int) n) R (j : Int) T ((T.length - r.length : Nat) : Int) false x.Kind x.Num x.Name x.Field x.Op x.Kids) (ifS 4 lv (bd (tk 4 []) fun t => bd (Bf ls) fun y => bL Bf lv ls m ⟨7, 0, ⟨#[]⟩, ⟨#[]⟩, t.Text, [x, y]⟩) (pu x)) r
  unfold zgO
  have e1 := zoA hs hj
  unfold mkR at e1
  rw [e1, Option.bind_some]
  intro v hv
  unfold ifS at hv
  have no : opW lv r = ⟨#[]⟩ → pu x r = some v → Rel T (if zb4 (opW lv r) ⟨#[]⟩ = true then some ((⟨x.Kind, x.Num, x.Name, x.Field, x.Op, x.Kids⟩ : za), (⟨T, ((T.length - r.length : Nat) : Int), false⟩ : RP)) else (R ⟨T, IntKind.i64.wrap (((T.length - r.length : Nat) : Int) + 1), false⟩ (IntKind.i64.wrap ((j : Int) + 1))).bind fun c119 => zeZ R (j : Int) n c119.2.L c119.2.At c119.2.Failed (7 : UInt8) 0 (⟨#[]⟩ : ByteArray) (⟨#[]⟩ : ByteArray) (opW lv r) ([(⟨x.Kind, x.Num, x.Name, x.Field, x.Op, x.Kids⟩ : za), (⟨c119.1.Kind, c119.1.Num, c119.1.Name, c119.1.Field, c119.1.Op, c119.1.Kids⟩ : za)] : List za)) v := fun ho hv => by
   rw [ho, zeJ, if_pos (zbo rfl)]
   injection hv with hv
   subst hv
   cases x
   rfl
  cases r with
  | nil => exact no rfl (by simpa [zs] using hv)
  | cons t r =>
   cases h : zs 4 lv (t :: r) with
   | false =>
    rw [h, if_neg (by simp)] at hv
    refine no ?_ hv
    unfold zs at h
    dsimp only at h
    rw [zdD hne, Bool.false_or] at h
    unfold opW
    dsimp only
    rw [h, if_neg (by simp)]
   | true =>
    rw [h, if_pos rfl] at hv
    unfold zs at h
    dsimp only at h
    rw [zdD hne, Bool.false_or] at h
    have ho : opW lv (t :: r) = t.Text := by
     unfold opW
     dsimp only
     rw [h, if_pos rfl]
    rw [Bool.and_eq_true] at h
    have hk : (t.Kind.toNat : Int) = 4 := of_decide_eq_true h.1
    have hx : t.Text ≠ ⟨#[]⟩ := h4 _ (ze0.1 h.2)
    rw [ho, zeJ, if_neg (by rw [zdD hx]; simp), zeo (S := []) (D := []) hs, zcq (by omega)]
    have ht : tk 4 [] (t :: r) = some (.ok (t, r)) := by
     exact if_pos (by unfold zs; dsimp only; rw [zbo hk]; rfl)
    unfold bd at hv
    rw [ht] at hv
    dsimp only at hv
    simp only [List.length_cons] at hn
    have key : zG T ((R (mkR T r false) ((j + 1 : Nat) : Int)).bind fun c119 => zeZ R (j : Int) n c119.2.L c119.2.At c119.2.Failed (7 : UInt8) 0 (⟨#[]⟩ : ByteArray) (⟨#[]⟩ : ByteArray) t.Text ([(⟨x.Kind, x.Num, x.Name, x.Field, x.Op, x.Kids⟩ : za), (⟨c119.1.Kind, c119.1.Num, c119.1.Name, c119.1.Field, c119.1.Op, c119.1.Kids⟩ : za)] : List za)) (bd (Bf ls) fun y => bL Bf lv ls m ⟨7, 0, ⟨#[]⟩, ⟨#[]⟩, t.Text, [x, y]⟩) r := by
     refine zbh hs.tail (hf ls) (hR r hs.tail) (fun y r3 hs3 he => ?_) fun y e => ?_
     ·have := (hf ls).le he
      have : r3.length ≤ r.length := this
      have := zmC hf hj hR n m ⟨7, 0, ⟨#[]⟩, ⟨#[]⟩, t.Text, [x, y]⟩ r3 (by omega) hs3
      cases x
      cases y
      exact this
     ·obtain ⟨n', rfl⟩ : ∃ n', n = n' + 1 := ⟨n - 1, by omega⟩
      exact ⟨_, zkV hj n' ⟨7, 0, ⟨#[]⟩, ⟨#[]⟩, t.Text, [⟨x.Kind, x.Num, x.Name, x.Field, x.Op, x.Kids⟩, ⟨y.Kind, y.Num, y.Name, y.Field, y.Op, y.Kids⟩]⟩⟩
    exact key v hv
end
end Go.Proofs.Ytnhboaaikehpoaa
