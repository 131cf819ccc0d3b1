import Derived.Test.YtnhboaaikehpoaaP_12g
import Derived.KernelRfl
namespace Go.Proofs.Ytnhboaaikehpoaa
open Go.Ab Go.RowKit
set_option linter.unusedVariables false
set_option linter.unusedSimpArgs false
def opW (l : List BA) : List Tok → BA
 | [] => ⟨#[]⟩
 | t :: _ => if (decide ((t.Kind.toNat : Int) = 4) && inB t.Text l) = true then t.Text else ⟨#[]⟩
section
variable {T : List Tok} {r : List Tok} {k : Int} {tx : List BA}
theorem zre (hs : Suf T r) {lv : List BA} (hv : ∀ x ∈ lv, x ≠ ⟨#[]⟩) (hl : lv.length ≤ 1000) : ∀ (n k : Nat), k ≤ lv.length → lv.length - k < n → zfO (mkR T r false) lv n (k : Int) = some (opW (lv.drop k) r) := by
 intro n
 induction n with
 | zero => intro k _ h; omega
 | succ n ih =>
  intro k hk hn
  show zgx (zfO (mkR T r false) lv n) (mkR T r false) lv (k : Int) = _
  unfold zgx
  by_cases h : k < lv.length
  ·have ih' := ih (k + 1) (by omega) (by omega)
   rw [if_pos (zbx (by omega)), zch h, Option.bind_some, Option.bind_some, zcS hs (hv _ (List.getElem_mem h)), Option.bind_some, List.drop_eq_getElem_cons h, zcc (by omega)]
   cases r with
   | nil => exact (if_neg (by simp [zz])).trans ih'
   | cons t r =>
    unfold zz opW
    unfold opW at ih'
    dsimp only at ih' ⊢
    by_cases hk : (t.Kind.toNat : Int) = 4
    ·by_cases hx : t.Text = lv[k]
     ·rw [if_pos (by rw [zbx hk, (ze4 (l := [lv[k]])).2 (by rw [hx]; simp)]; simp), if_pos (by rw [zbx hk, ze4.2 (by rw [hx]; exact List.mem_cons_self ..)]; rfl), hx]
     ·have hno : inB t.Text [lv[k]] = false := by
       cases hb : inB t.Text [lv[k]] with
       | false => rfl
       | true => exact absurd (by simpa using ze4.1 hb) hx
      rw [if_neg (by rw [zbx hk, hno]; simp), ih']
      congr 1
      have : inB t.Text (lv[k] :: lv.drop (k + 1)) = inB t.Text (lv.drop (k + 1)) := by
       rw [Bool.eq_iff_iff, ze4, ze4, List.mem_cons]
       exact ⟨fun h => h.resolve_left hx, .inr⟩
      rw [this]
    ·rw [if_neg (by rw [zdQ hk]; simp), ih']
     rw [zdQ hk]
     simp
  ·rw [if_neg (by simp; omega), List.drop_of_length_le (by omega)]
   unfold opW
   cases r with
   | nil => rfl
   | cons t r =>
    dsimp only
    rw [if_neg (by simp [inB])]
theorem zpL {e : List Tok} {lv : List BA} (hl : lv.length ≤ 1000) : ∀ (n k : Nat), k ≤ lv.length → lv.length - k < n → zfO (mkR T e true) lv n (k : Int) = some ⟨#[]⟩ := by
 intro n
 induction n with
 | zero => intro k _ h; omega
 | succ n ih =>
  intro k hk hn
  show zgx (zfO (mkR T e true) lv n) (mkR T e true) lv (k : Int) = _
  unfold zgx
  by_cases h : k < lv.length
  ·rw [if_pos (zbx (by omega)), zch h, Option.bind_some, Option.bind_some, zcc (by omega)]
   exact ih (k + 1) (by omega) (by omega)
  ·rw [if_neg (by simp; omega)]
theorem zj3 : ∀ lv ∈ lvls, lv ≠ [] ∧ (∀ x ∈ lv, x ≠ ⟨#[]⟩) ∧ lv.length ≤ 1000 := by decide
theorem zij {j : Nat} {lv : List BA} {ls : List (List BA)} (hj : lvls.drop j = lv :: ls) : zA lvls (j : Int) = some lv ∧ lv ∈ lvls ∧ ls = lvls.drop (j + 1) ∧ j < 5 := by
 refine ⟨?_, ?_, ?_, ?_⟩
 ·rw [zji]
  have := List.getElem?_drop (xs := lvls) (i := j) (j := 0)
  rw [hj] at this
  exact this.symm
 ·exact List.mem_of_mem_drop (i := j) (by rw [hj]; exact List.mem_cons_self ..)
 ·rw [← List.drop_drop, hj]
  rfl
 ·have := congrArg List.length hj
  rw [List.length_drop] at this
  simp [lvls] at this
  omega
theorem zqk (hs : Suf T r) {j : Nat} {lv : List BA} {ls : List (List BA)} (hj : lvls.drop j = lv :: ls) : zkB (mkR T r false) (j : Int) = some (opW lv r) := by
 obtain ⟨h1, h2, _⟩ := zij hj
 obtain ⟨_, h4, h5⟩ := zj3 lv h2
 show ((zA lvls (j : Int)).bind _) = _
 rw [h1, Option.bind_some]
 exact zre hs h4 h5 big 0 (by omega) (zbU (by omega))
theorem zoZ {e : List Tok} {j : Nat} {lv : List BA} {ls : List (List BA)} (hj : lvls.drop j = lv :: ls) : zkB (mkR T e true) (j : Int) = some ⟨#[]⟩ := by
 obtain ⟨h1, h2, _⟩ := zij hj
 obtain ⟨_, h4, h5⟩ := zj3 lv h2
 show ((zA lvls (j : Int)).bind _) = _
 rw [h1, Option.bind_some]
 exact zpL h5 big 0 (by omega) (zbU (by omega))
theorem zjA {R : RP → Int → Option (zb × RP)} {e : List Tok} {j : Nat} {lv : List BA} {ls : List (List BA)} (hj : lvls.drop j = lv :: ls) (n : Nat) (x : zb) : zfy R (j : Int) (n + 1) T ((T.length - e.length : Nat) : Int) true x.Kind x.Num x.Name x.Field x.Op x.Kids = some (x, mkR T e true) := by
 show zhK _ R (j : Int) T _ true x.Kind x.Num x.Name x.Field x.Op x.Kids = _
 unfold zhK
 have := zoZ (T := T) (e := e) hj
 unfold mkR at this
 rw [this, Option.bind_some, zdf, if_pos (zbx rfl)]
 cases x
 rfl
theorem zlh {j : Nat} (h : j < 5) : ∃ lv ls, lvls.drop j = lv :: ls := by
 match j, h with
 | 0, _ => exact ⟨_, _, rfl⟩
 | 1, _ => exact ⟨_, _, rfl⟩
 | 2, _ => exact ⟨_, _, rfl⟩
 | 3, _ => exact ⟨_, _, rfl⟩
 | 4, _ => exact ⟨_, _, rfl⟩
theorem zmR (e : List Tok) (m : Nat) : ∃ y, (zcI (m + 1)).2 (mkR T e true) = some (y, mkR T e true) := ⟨_, rfl⟩
theorem zmC (e : List Tok) : ∀ (d j m : Nat), j + d = 5 → d + 2 ≤ m → ∃ y, (zcI m).1 (mkR T e true) (j : Int) = some (y, mkR T e true)
 | 0, j, 0, _, h => by omega
 | 0, j, 1, _, h => by omega
 | 0, j, m + 2, hj, h => by
  obtain ⟨y, hy⟩ := zmR (T := T) e m
  refine ⟨y, ?_⟩
  show zfa (zcI (m + 1)).1 (zcI (m + 1)).2 (mkR T e true) (j : Int) = _
  unfold zfa
  rw [show zhg = some lvls from rfl, Option.bind_some, if_pos (zbx (by simp [lvls]; omega)), hy]
  rfl
 | d + 1, j, 0, _, h => by omega
 | d + 1, j, m + 1, hj, h => by
  obtain ⟨y, hy⟩ := zmC e d (j + 1) m (by omega) (by omega)
  obtain ⟨lv, ls, hd⟩ := zlh (j := j) (by omega)
  refine ⟨y, ?_⟩
  show zfa (zcI m).1 (zcI m).2 (mkR T e true) (j : Int) = _
  unfold zfa
  rw [show zhg = some lvls from rfl, Option.bind_some, if_neg (by simp [lvls]; omega), zcc (by omega), hy, Option.bind_some]
  exact zjA hd _ y
theorem zeC (e : List Tok) : ∃ y, zcu (mkR T e true) 0 = some (y, mkR T e true) :=
 zmC e 5 0 big rfl (by have := zco; omega)
theorem zms {R : RP → Int → Option (zb × RP)} {Bf : List (List BA) → Ps zb} (hf : ∀ l, Sf (Bf l)) {j : Nat} {lv : List BA} {ls : List (List BA)} (hj : lvls.drop j = lv :: ls) (hR : ∀ r, Suf T r → zQ T (R (mkR T r false) ((j + 1 : Nat) : Int)) (Bf ls) r) :
  ∀ (n m : Nat) (x : zb) (r : List Tok), r.length < n → Suf T r → zQ T (zfy R (j : Int) n T ((T.length - r.length : Nat) : Int) false x.Kind x.Num x.Name x.Field x.Op x.Kids) (bL Bf lv ls m x) r
 | n, 0, x, r, _, _ => zer
 | 0, m + 1, x, r, h, _ => by omega
 | n + 1, m + 1, x, r, hn, hs => by
  obtain ⟨_, h2, _, hj5⟩ := zij hj
  obtain ⟨hne, h4, h5⟩ := zj3 lv h2
  show zQ T (zhK (zfy R (j : Int) n) R (j : Int) T ((T.length - r.length : Nat) : Int) false x.Kind x.Num x.Name x.Field x.Op x.Kids) (ifS 4 lv (bd (tk 4 []) fun t => bd (Bf ls) fun y => bL Bf lv ls m ⟨7, 0, ⟨#[]⟩, ⟨#[]⟩, t.Text, [x, y]⟩) (pu x)) r
  unfold zhK
  have e1 := zqk hs hj
  unfold mkR at e1
  rw [e1, Option.bind_some]
  intro v hv
  unfold ifS at hv
  have no : opW lv r = ⟨#[]⟩ → pu x r = some v → Rel T (if zbn (opW lv r) ⟨#[]⟩ = true then some ((⟨x.Kind, x.Num, x.Name, x.Field, x.Op, x.Kids⟩ : zb), (⟨T, ((T.length - r.length : Nat) : Int), false⟩ : RP)) else (R ⟨T, IntKind.i64.wrap (((T.length - r.length : Nat) : Int) + 1), false⟩ (IntKind.i64.wrap ((j : Int) + 1))).bind fun c119 => zfy R (j : Int) n c119.2.L c119.2.At c119.2.Failed (7 : UInt8) 0 (⟨#[]⟩ : ByteArray) (⟨#[]⟩ : ByteArray) (opW lv r) ([(⟨x.Kind, x.Num, x.Name, x.Field, x.Op, x.Kids⟩ : zb), (⟨c119.1.Kind, c119.1.Num, c119.1.Name, c119.1.Field, c119.1.Op, c119.1.Kids⟩ : zb)] : List zb)) v := fun ho hv => by
   rw [ho, zdf, if_pos (zbx rfl)]
   injection hv with hv
   subst hv
   cases x
   rfl
  cases r with
  | nil => exact no rfl (by simpa [zz] using hv)
  | cons t r =>
   cases h : zz 4 lv (t :: r) with
   | false =>
    rw [h, if_neg (by simp)] at hv
    refine no ?_ hv
    unfold zz at h
    dsimp only at h
    rw [zdQ hne, Bool.false_or] at h
    unfold opW
    dsimp only
    rw [h, if_neg (by simp)]
   | true =>
    rw [h, if_pos rfl] at hv
    unfold zz at h
    dsimp only at h
    rw [zdQ hne, Bool.false_or] at h
    have ho : opW lv (t :: r) = t.Text := by
     unfold opW
     dsimp only
     rw [h, if_pos rfl]
    rw [Bool.and_eq_true] at h
    have hk : (t.Kind.toNat : Int) = 4 := of_decide_eq_true h.1
    have hx : t.Text ≠ ⟨#[]⟩ := h4 _ (ze4.1 h.2)
    rw [ho, zdf, if_neg (by rw [zdQ hx]; simp), zeO (S := []) (D := []) hs, zcc (by omega)]
    have ht : tk 4 [] (t :: r) = some (.ok (t, r)) := by
     exact if_pos (by unfold zz; dsimp only; rw [zbx hk]; rfl)
    unfold bd at hv
    rw [ht] at hv
    dsimp only at hv
    simp only [List.length_cons] at hn
    have key : zQ T ((R (mkR T r false) ((j + 1 : Nat) : Int)).bind fun c119 => zfy R (j : Int) n c119.2.L c119.2.At c119.2.Failed (7 : UInt8) 0 (⟨#[]⟩ : ByteArray) (⟨#[]⟩ : ByteArray) t.Text ([(⟨x.Kind, x.Num, x.Name, x.Field, x.Op, x.Kids⟩ : zb), (⟨c119.1.Kind, c119.1.Num, c119.1.Name, c119.1.Field, c119.1.Op, c119.1.Kids⟩ : zb)] : List zb)) (bd (Bf ls) fun y => bL Bf lv ls m ⟨7, 0, ⟨#[]⟩, ⟨#[]⟩, t.Text, [x, y]⟩) r := by
     refine zby hs.tail (hf ls) (hR r hs.tail) (fun y r3 hs3 he => ?_) fun y e => ?_
     ·have := (hf ls).le he
      have : r3.length ≤ r.length := this
      have := zms hf hj hR n m ⟨7, 0, ⟨#[]⟩, ⟨#[]⟩, t.Text, [x, y]⟩ r3 (by omega) hs3
      cases x
      cases y
      exact this
     ·obtain ⟨n', rfl⟩ : ∃ n', n = n' + 1 := ⟨n - 1, by omega⟩
      exact ⟨_, zjA hj n' ⟨7, 0, ⟨#[]⟩, ⟨#[]⟩, t.Text, [⟨x.Kind, x.Num, x.Name, x.Field, x.Op, x.Kids⟩, ⟨y.Kind, y.Num, y.Name, y.Field, y.Op, y.Kids⟩]⟩⟩
    exact key v hv
end
end Go.Proofs.Ytnhboaaikehpoaa
