import Derived.Test.YtnhboaaikehpoaaP_12i
import Derived.KernelRfl
namespace Go.Proofs.Ytnhboaaikehpoaa
open Go.Ab Go.RowKit
set_option linter.unusedVariables false
set_option linter.unusedSimpArgs false
theorem zl5 {α β : Type} (k : Int) (tx : List BA) (p q : Ps α) (f : α → Ps β) : bd (ifS k tx p q) f = ifS k tx (bd p f) (bd q f) := by
 funext r
 unfold bd ifS
 by_cases hc : zI k tx r = true
 ·simp only [if_pos hc]
 ·simp only [if_neg hc]
theorem zls {α β : Type} (k : Int) (tx : List BA) (p q : Ps α) (f : α → Ps β) : bd (ifH k tx p q) f = ifH k tx (bd p f) (bd q f) := by
 funext r
 unfold bd ifH
 by_cases hc : zI k tx r = true
 ·simp only [if_pos hc]
 ·simp only [if_neg hc]
theorem zp4 {β : Type} (a b : BA) (f : Unit → Ps β) : bd (zbs [a, b]) f = bd (zbs [a]) fun _ => bd (zbs [b]) f := by
 simp only [zbs, zfs, zfV]
theorem ziF {k : Int} {a : BA} {t : Tok} {r : List Tok} (h : zI k [a] (t :: r) = true) : t.Text = a := by
 unfold zI at h
 dsimp only at h
 rw [Bool.and_eq_true] at h
 have h := h.2
 simp [inB] at h
 exact h.symm
theorem zld {α : Type} {k : Int} {a b : BA} (h : a ≠ b) (p q s : Ps α) : ifH k [a] p (ifH k [b] q s) = ifH k [b] q (ifH k [a] p s) := by
 funext r
 unfold ifH
 by_cases h1 : zI k [a] r = true
 ·by_cases h2 : zI k [b] r = true
  ·cases r with
   | nil => cases h1
   | cons t r => exact absurd ((ziF h1).symm.trans (ziF h2)) h
  ·simp only [if_pos h1, if_neg h2]
 ·simp only [if_neg h1]
section
variable {T : List Tok} {r : List Tok} {k : Int} {tx : List BA}
theorem zjW (e : List Tok) (n : Nat) (l : List zb) : zfF (n + 1) T ((T.length - e.length : Nat) : Int) true l = some (l, mkR T e true) := rfl
theorem zmZ : ∀ (n m : Nat) (l : List zb) (r : List Tok), r.length < n → Suf T r → l.length + r.length ≤ 1000001 → zU T (zfF n T ((T.length - r.length : Nat) : Int) false l) (aL m l) r
 | n, 0, l, r, _, _, _ => zes
 | 0, m + 1, l, r, h, _, _ => by omega
 | n + 1, m + 1, l, r, hn, hs, hl => by
  show zU T (zgK (zfF n) T ((T.length - r.length : Nat) : Int) false l) (ifH 4 [⟨#[44]⟩] (bd zb5 fun x => aL m (l ++ [x])) (bd (zbs [⟨#[41]⟩]) fun _ => pu l)) r
  unfold zgK
  refine zcW (T := T) hs (by decide) (fun t r2 e hs2 => ?_) fun _ => ?_
  ·subst e
   simp only [List.length_cons] at hn hl
   rw [zeO (S := []) (D := []) hs]
   refine zbu hs2 zbq (zdN hs2) (fun x r3 hs3 he => ?_) fun x e => ?_
   ·have := zbq.le he
    have : r3.length ≤ r2.length := this
    rw [zbY (by omega), Option.bind_some]
    have := zmZ n m (l ++ [x]) r3 (by omega) hs3 (by simp; omega)
    cases x
    exact this
   ·obtain ⟨n', rfl⟩ : ∃ n', n = n' + 1 := ⟨n - 1, by omega⟩
    rw [zbY (by omega), Option.bind_some]
    exact ⟨_, rfl⟩
  ·exact zcv hs (zK _) (zb0 hs (by decide)) (fun r4 hs4 _ => zbO) fun e => ⟨_, rfl⟩
theorem zlf (hs : Suf T r) : zU T (ze0 (mkR T r false)) zd1 r := by
 unfold ze0 zd1
 refine zcv hs (zK _) (zb0 hs (by decide)) (fun r2 hs2 _ => ?_) fun e => ?_
 ·refine zcW hs2 (by decide) (fun t r3 e hs3 => by subst e; rw [zcu hs2]; exact zbO) fun _ => ?_
  refine zbu hs2 zbq (zdN hs2) (fun x r3 hs3 he => ?_) fun x e => ?_
  ·have h1 := zbW hs3
   have h2 := hs3.2
   have := zmZ (T := T) big big [x] r3 (by have := zcB; omega) hs3 (by simp; omega)
   cases x
   exact this
  ·exact ⟨_, zjW e _ _⟩
 ·obtain ⟨y, hy⟩ := zeu (T := T) e
  refine ⟨[⟨y.Kind, y.Num, y.Name, y.Field, y.Op, y.Kids⟩], ?_⟩
  show ((zcj (mkR T e true) 0).bind _) = _
  rw [hy]
  exact zjW e _ _
theorem znM (e : List Tok) : ∃ y, ze0 (mkR T e true) = some (y, mkR T e true) := by
 obtain ⟨y, hy⟩ := zeu (T := T) e
 refine ⟨[⟨y.Kind, y.Num, y.Name, y.Field, y.Op, y.Kids⟩], ?_⟩
 show ((zcj (mkR T e true) 0).bind _) = _
 rw [hy]
 exact zjW e _ _
theorem zn6 {β : Type} (hs : Suf T r) (A B : Option β) : ((zbg (mkR T r false) 1 (⟨#[]⟩ : ByteArray)).bind fun c26 => ((if (c26 && (decide ((IntKind.i64.wrap ((mkR T r false).At + 1)) < ((mkR T r false).L.length : Int)))) = true then (zA (mkR T r false).L (IntKind.i64.wrap ((mkR T r false).At + 1))).bind fun y33 => some ((y33.Kind.toNat : Int) == 4) else some false)).bind fun c30 => ((if c30 = true then (zA (mkR T r false).L (IntKind.i64.wrap ((mkR T r false).At + 1))).bind fun y41 => some (zbl y41.Text (⟨#[40]⟩ : ByteArray)) else some false)).bind fun c38 => if c38 = true then A else B) = if zed r = true then A else B := by
 rw [zhy hs, Option.bind_some]
 unfold zed
 cases h : zI 1 [] r with
 | false => rfl
 | true =>
  cases r with
  | nil => cases h
  | cons t r =>
   have hw : IntKind.i64.wrap ((mkR T (t :: r) false).At + 1) = ((T.length - r.length : Nat) : Int) := zeO (S := []) (D := []) hs
   have hL : (mkR T (t :: r) false).L = T := rfl
   rw [hw, hL]
   have h1 := zbW hs
   simp only [List.length_cons] at h1
   cases r with
   | nil =>
    rw [if_neg (by simp)]
    rfl
   | cons t2 r =>
    rw [if_pos (by simp only [List.length_cons] at *; simp; omega), zeE hs.tail, Option.bind_some, Option.bind_some]
    show _ = if (true && zI 4 [⟨#[40]⟩] (t2 :: r)) = true then A else B
    by_cases hk : (t2.Kind.toNat : Int) = 4
    ·have es : zI 4 [⟨#[40]⟩] (t2 :: r) = zbl t2.Text ⟨#[40]⟩ := by
      unfold zI
      dsimp only
      rw [zbe hk, zc5]
      simp [inB, eq_comm]
     rw [es, zjU hk, if_pos rfl, Option.bind_some, Option.bind_some, Bool.true_and]
    ·have es : zI 4 [⟨#[40]⟩] (t2 :: r) = false := by
      unfold zI
      dsimp only
      rw [zdC hk]
      rfl
     rw [es, zjH hk]
     rfl
theorem R_C {α : Type} {A B : Option (α × RP)} {p q : Ps α} (hA : zU T A p r) (hB : zU T B q r) : zU T (if zed r = true then A else B) (ifC p q) r := fun v hv => by
 unfold ifC at hv
 cases h : zed r with
 | true => rw [h, if_pos rfl] at hv; exact hA v hv
 | false => rw [h, if_neg (by simp)] at hv; exact hB v hv
theorem zoq (hs : Suf T r) (q : Stm) : zU T (zeD (mkR T r false) q) (zel q) r := by
 unfold zeD zel
 refine zcW hs (by decide) (fun t r2 e hs2 => ?_) fun _ => ?_
 ·subst e
  rw [zcu hs, zp4]
  refine zcv hs2 (zK _) (zb0 hs2 (by decide)) (fun r3 hs3 _ => ?_) fun e => ⟨_, rfl⟩
  exact zcv hs3 (zK _) (zb0 hs3 (by decide)) (fun r4 hs4 _ => zbO) fun e => ⟨_, rfl⟩
 rw [zn6 hs]
 refine R_C ?_ ?_
 ·refine zbu hs zbo (zdn hs) (fun n r2 hs2 _ => ?_) fun x e => ?_
  ·exact zbu hs2 zeH (zlf hs2) (fun l r3 hs3 _ => zbO) fun x e => ⟨_, rfl⟩
  ·obtain ⟨y, hy⟩ := znM (T := T) e
   dsimp only
   rw [hy]
   exact ⟨_, rfl⟩
 ·exact zbu hs zbq (zdN hs) (fun x r2 hs2 _ => by cases x; exact zbO) fun x e => ⟨_, rfl⟩
theorem zlc (e : List Tok) (q : Stm) : ∃ y, zeD (mkR T e true) q = some (y, mkR T e true) := by
 obtain ⟨y, hy⟩ := zeu (T := T) e
 refine ⟨⟨2, q.Line, q.Name, q.Field, q.Call, q.Type_, [⟨y.Kind, y.Num, y.Name, y.Field, y.Op, y.Kids⟩], q.Body, q.Else⟩, ?_⟩
 show ((zcj (mkR T e true) 0).bind _) = _
 rw [hy]
 rfl
theorem ziU (hs : Suf T r) (s : Stm) : zU T (zeJ T ((T.length - r.length : Nat) : Int) false s.Kind s.Line s.Name s.Field s.Call s.Type_.Kind s.Type_.N s.Type_.Name s.Kids s.Body s.Else) (k3 s) r :=
 zcv hs (zK _) (zb0 hs (by decide)) (fun r2 hs2 _ => by cases s; exact zbO) fun e => ⟨_, rfl⟩
def qN (ln : Int) : Stm := ⟨0, ln, ⟨#[]⟩, ⟨#[]⟩, ⟨#[]⟩, ⟨0, 0, ⟨#[]⟩⟩, [], [], []⟩
theorem zoU (q : Stm) : zdX q = bd zbU fun n => ifS 4 [⟨#[40]⟩] (bd zd1 fun l => pu ⟨5, q.Line, q.Name, q.Field, n, q.Type_, l, q.Body, q.Else⟩) (ifS 4 [⟨#[91]⟩] (bd zeb fun i => bd (zbs [⟨#[61]⟩]) fun _ => bd zb5 fun x => pu ⟨3, q.Line, n, q.Field, q.Call, q.Type_, [i, x], q.Body, q.Else⟩)
  (ifH 4 [⟨#[46]⟩] (bd zbU fun f => bd (zbs [⟨#[61]⟩]) fun _ => bd zb5 fun x => pu ⟨4, q.Line, n, f, q.Call, q.Type_, [x], q.Body, q.Else⟩)
   (bd (zbs [⟨#[61]⟩]) fun _ => zel ⟨q.Kind, q.Line, n, q.Field, q.Call, q.Type_, q.Kids, q.Body, q.Else⟩))) := by
 funext r
 unfold zdX ifC zed
 cases h : zI 1 [] r with
 | false =>
  have hn : zbU r = some (.error r) := by
   show bd (tk 1 []) _ r = _
   unfold bd
   rw [zjz h]
  rw [if_neg (by simp)]
  unfold bd
  rw [hn]
 | true =>
  cases r with
  | nil => cases h
  | cons t r =>
   have hn : zbU (t :: r) = some (.ok (t.Text, r)) := by
    show bd (tk 1 []) _ (t :: r) = _
    have : tk 1 [] (t :: r) = some (.ok (t, r)) := if_pos h
    rw [zeB this]
    rfl
   rw [zeB hn, zeB hn, zeB hn]
   conv => rhs; unfold ifS
   rw [Bool.true_and]
   rfl
theorem zq3 (hs : Suf T r) (ln : Int) : zU T (zh8 (mkR T r false) (qN ln)) (bd (zdX (qN ln)) k3) r := by
 rw [zoU, zfs]
 unfold zh8
 refine zbu hs zbo (zdn hs) (fun n r2 hs2 _ => ?_) fun x e => ?_
 ·dsimp only
  rw [zl5, zl5, zls]
  simp only [zfs, zfV]
  refine R_S (zcO hs2 (by decide)) (fun _ => ?_) fun _ => ?_
  ·exact zbu hs2 zeH (zlf hs2) (fun l r3 hs3 _ => ziU hs3 ⟨5, ln, ⟨#[]⟩, ⟨#[]⟩, n, ⟨0, 0, ⟨#[]⟩⟩, l, [], []⟩) fun x e => ⟨_, rfl⟩
  refine R_S (zcO hs2 (by decide)) (fun h => ?_) fun _ => ?_
  ·cases r2 with
   | nil => cases h
   | cons t r3 =>
    rw [zcu hs2]
    refine zq0 hs2 t r3 rfl h hs2.tail _ (fun i d => (zbt d (⟨#[61]⟩ : ByteArray)).bind fun c246 => (zcj c246 0).bind fun c254 => zeJ c254.2.L c254.2.At c254.2.Failed (3 : UInt8) (qN ln).Line n (qN ln).Field (qN ln).Call (qN ln).Type_.Kind (qN ln).Type_.N (qN ln).Type_.Name ([(⟨i.Kind, i.Num, i.Name, i.Field, i.Op, i.Kids⟩ : zb), (⟨c254.1.Kind, c254.1.Num, c254.1.Name, c254.1.Field, c254.1.Op, c254.1.Kids⟩ : zb)] : List zb) (qN ln).Body (qN ln).Else) (fun i r4 hs4 => ?_) fun i e => ?_
    ·refine zcv hs4 (zK _) (zb0 hs4 (by decide)) (fun r5 hs5 _ => ?_) fun e => ?_
     ·exact zbu hs5 zbq (zdN hs5) (fun x r6 hs6 _ => by cases x; cases i; exact ziU hs6 ⟨3, ln, n, ⟨#[]⟩, ⟨#[]⟩, ⟨0, 0, ⟨#[]⟩⟩, [_, _], [], []⟩) fun x e => ⟨_, rfl⟩
     ·obtain ⟨y, hy⟩ := zeu (T := T) e
      rw [hy]
      exact ⟨_, rfl⟩
    ·obtain ⟨y, hy⟩ := zeu (T := T) e
     refine ⟨?_, ?_⟩
     rotate_left
     ·show ((zcj (mkR T e true) 0).bind _) = _
      rw [hy]
      rfl
  refine zcW hs2 (by decide) (fun t r3 e hs3 => ?_) fun _ => ?_
  ·subst e
   rw [zcu hs2]
   refine zbu hs3 zbo (zdn hs3) (fun f r4 hs4 _ => ?_) fun x e => ?_
   ·refine zcv hs4 (zK _) (zb0 hs4 (by decide)) (fun r5 hs5 _ => ?_) fun e => ?_
    ·exact zbu hs5 zbq (zdN hs5) (fun x r6 hs6 _ => by cases x; exact ziU hs6 ⟨4, ln, n, f, ⟨#[]⟩, ⟨0, 0, ⟨#[]⟩⟩, [_], [], []⟩) fun x e => ⟨_, rfl⟩
    ·obtain ⟨y, hy⟩ := zeu (T := T) e
     dsimp only
     rw [hy]
     exact ⟨_, rfl⟩
   ·obtain ⟨y, hy⟩ := zeu (T := T) e
    refine ⟨?_, ?_⟩
    rotate_left
    ·show ((zcj (mkR T e true) 0).bind _) = _
     rw [hy]
     rfl
  ·refine zcv hs2 (zK _) (zb0 hs2 (by decide)) (fun r3 hs3 _ => ?_) fun e => ?_
   ·exact zbu hs3 (zmC _) (zoq hs3 _) (fun s r4 hs4 _ => ziU hs4 s) fun x e => ⟨_, rfl⟩
   ·obtain ⟨y, hy⟩ := zlc (T := T) e ⟨(qN ln).Kind, (qN ln).Line, n, (qN ln).Field, (qN ln).Call, (qN ln).Type_, (qN ln).Kids, (qN ln).Body, (qN ln).Else⟩
    refine ⟨?_, ?_⟩
    rotate_left
    ·show ((zeD (mkR T e true) ⟨(qN ln).Kind, (qN ln).Line, n, (qN ln).Field, (qN ln).Call, (qN ln).Type_, (qN ln).Kids, (qN ln).Body, (qN ln).Else⟩).bind _) = _
     rw [hy]
     rfl
 ·obtain ⟨y, hy⟩ := zlc (T := T) e ⟨(qN ln).Kind, (qN ln).Line, x, (qN ln).Field, (qN ln).Call, (qN ln).Type_, (qN ln).Kids, (qN ln).Body, (qN ln).Else⟩
  refine ⟨?_, ?_⟩
  rotate_left
  ·show ((zeD (mkR T e true) ⟨(qN ln).Kind, (qN ln).Line, x, (qN ln).Field, (qN ln).Call, (qN ln).Type_, (qN ln).Kids, (qN ln).Body, (qN ln).Else⟩).bind _) = _
   rw [hy]
   rfl
end
end Go.Proofs.Ytnhboaaikehpoaa
