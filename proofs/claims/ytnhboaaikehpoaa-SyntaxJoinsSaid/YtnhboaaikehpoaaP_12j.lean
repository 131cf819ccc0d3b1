import Derived.Test.YtnhboaaikehpoaaP_12i
import Derived.KernelRfl
namespace Go.Proofs.Ytnhboaaikehpoaa
open Go.Ab Go.RowKit
set_option linter.unusedVariables false
set_option linter.unusedSimpArgs false
theorem zlB {α β : Type} (k : Int) (tx : List BA) (p q : Ps α) (f : α → Ps β) : bd (ifS k tx p q) f = ifS k tx (bd p f) (bd q f) := by
 funext r
 unfold bd ifS
 by_cases hc : zz k tx r = true
 ·simp only [if_pos hc]
 ·simp only [if_neg hc]
theorem znk {α β : Type} (k : Int) (tx : List BA) (p q : Ps α) (f : α → Ps β) : bd (ifH k tx p q) f = ifH k tx (bd p f) (bd q f) := by
 funext r
 unfold bd ifH
 by_cases hc : zz k tx r = true
 ·simp only [if_pos hc]
 ·simp only [if_neg hc]
theorem znS {β : Type} (a b : BA) (f : Unit → Ps β) : bd (zbu [a, b]) f = bd (zbu [a]) fun _ => bd (zbu [b]) f := by
 simp only [zbu, zfo, zgd]
theorem ziT {k : Int} {a : BA} {t : Tok} {r : List Tok} (h : zz k [a] (t :: r) = true) : t.Text = a := by
 unfold zz at h
 dsimp only at h
 rw [Bool.and_eq_true] at h
 have h := h.2
 simp [inB] at h
 exact h.symm
theorem zmb {α : Type} {k : Int} {a b : BA} (h : a ≠ b) (p q s : Ps α) : ifH k [a] p (ifH k [b] q s) = ifH k [b] q (ifH k [a] p s) := by
 funext r
 unfold ifH
 by_cases h1 : zz k [a] r = true
 ·by_cases h2 : zz k [b] r = true
  ·cases r with
   | nil => cases h1
   | cons t r => exact absurd ((ziT h1).symm.trans (ziT h2)) h
  ·simp only [if_pos h1, if_neg h2]
 ·simp only [if_neg h1]
section
variable {T : List Tok} {r : List Tok} {k : Int} {tx : List BA}
theorem zjJ (e : List Tok) (n : Nat) (l : List zb) : zgL (n + 1) T ((T.length - e.length : Nat) : Int) true l = some (l, mkR T e true) := rfl
theorem znO : ∀ (n m : Nat) (l : List zb) (r : List Tok), r.length < n → Suf T r → l.length + r.length ≤ 1000001 → zQ T (zgL n T ((T.length - r.length : Nat) : Int) false l) (aL m l) r
 | n, 0, l, r, _, _, _ => zer
 | 0, m + 1, l, r, h, _, _ => by omega
 | n + 1, m + 1, l, r, hn, hs, hl => by
  show zQ T (zku (zgL n) T ((T.length - r.length : Nat) : Int) false l) (ifH 4 [⟨#[44]⟩] (bd zbZ fun x => aL m (l ++ [x])) (bd (zbu [⟨#[41]⟩]) fun _ => pu l)) r
  unfold zku
  refine zc5 (T := T) hs (by decide) (fun t r2 e hs2 => ?_) fun _ => ?_
  ·subst e
   simp only [List.length_cons] at hn hl
   rw [zeO (S := []) (D := []) hs]
   refine zby hs2 zbo (zdX hs2) (fun x r3 hs3 he => ?_) fun x e => ?_
   ·have := zbo.le he
    have : r3.length ≤ r2.length := this
    rw [zbO (by omega), Option.bind_some]
    have := znO n m (l ++ [x]) r3 (by omega) hs3 (by simp; omega)
    cases x
    exact this
   ·obtain ⟨n', rfl⟩ : ∃ n', n = n' + 1 := ⟨n - 1, by omega⟩
    rw [zbO (by omega), Option.bind_some]
    exact ⟨_, rfl⟩
  ·exact zct hs (zG _) (zb4 hs (by decide)) (fun r4 hs4 _ => zbT) fun e => ⟨_, rfl⟩
theorem zlP (hs : Suf T r) : zQ T (zgj (mkR T r false)) zdL r := by
 unfold zgj zdL
 refine zct hs (zG _) (zb4 hs (by decide)) (fun r2 hs2 _ => ?_) fun e => ?_
 ·refine zc5 hs2 (by decide) (fun t r3 e hs3 => by subst e; rw [zcy hs2]; exact zbT) fun _ => ?_
  refine zby hs2 zbo (zdX hs2) (fun x r3 hs3 he => ?_) fun x e => ?_
  ·have h1 := zb3 hs3
   have h2 := hs3.2
   have := znO (T := T) big big [x] r3 (by have := zco; omega) hs3 (by simp; omega)
   cases x
   exact this
  ·exact ⟨_, zjJ e _ _⟩
 ·obtain ⟨y, hy⟩ := zeC (T := T) e
  refine ⟨[⟨y.Kind, y.Num, y.Name, y.Field, y.Op, y.Kids⟩], ?_⟩
  show ((zcu (mkR T e true) 0).bind _) = _
  rw [hy]
  exact zjJ e _ _
theorem zol (e : List Tok) : ∃ y, zgj (mkR T e true) = some (y, mkR T e true) := by
 obtain ⟨y, hy⟩ := zeC (T := T) e
 refine ⟨[⟨y.Kind, y.Num, y.Name, y.Field, y.Op, y.Kids⟩], ?_⟩
 show ((zcu (mkR T e true) 0).bind _) = _
 rw [hy]
 exact zjJ e _ _
theorem zoW {β : Type} (hs : Suf T r) (A B : Option β) : ((zbk (mkR T r false) 1 (⟨#[]⟩ : ByteArray)).bind fun c26 => ((if (c26 && (decide ((IntKind.i64.wrap ((mkR T r false).At + 1)) < ((mkR T r false).L.length : Int)))) = true then (zA (mkR T r false).L (IntKind.i64.wrap ((mkR T r false).At + 1))).bind fun y33 => some ((y33.Kind.toNat : Int) == 4) else some false)).bind fun c30 => ((if c30 = true then (zA (mkR T r false).L (IntKind.i64.wrap ((mkR T r false).At + 1))).bind fun y41 => some (zbn y41.Text (⟨#[40]⟩ : ByteArray)) else some false)).bind fun c38 => if c38 = true then A else B) = if zdh r = true then A else B := by
 rw [zhw hs, Option.bind_some]
 unfold zdh
 cases h : zz 1 [] r with
 | false => rfl
 | true =>
  cases r with
  | nil => cases h
  | cons t r =>
   have hw : IntKind.i64.wrap ((mkR T (t :: r) false).At + 1) = ((T.length - r.length : Nat) : Int) := zeO (S := []) (D := []) hs
   have hL : (mkR T (t :: r) false).L = T := rfl
   rw [hw, hL]
   have h1 := zb3 hs
   simp only [List.length_cons] at h1
   cases r with
   | nil =>
    rw [if_neg (by simp)]
    rfl
   | cons t2 r =>
    rw [if_pos (by simp only [List.length_cons] at *; simp; omega), zeJ hs.tail, Option.bind_some, Option.bind_some]
    show _ = if (true && zz 4 [⟨#[40]⟩] (t2 :: r)) = true then A else B
    by_cases hk : (t2.Kind.toNat : Int) = 4
    ·have es : zz 4 [⟨#[40]⟩] (t2 :: r) = zbn t2.Text ⟨#[40]⟩ := by
      unfold zz
      dsimp only
      rw [zbx hk, zdf]
      simp [inB, eq_comm]
     rw [es, zik hk, if_pos rfl, Option.bind_some, Option.bind_some, Bool.true_and]
    ·have es : zz 4 [⟨#[40]⟩] (t2 :: r) = false := by
      unfold zz
      dsimp only
      rw [zdQ hk]
      rfl
     rw [es, zk4 hk]
     rfl
theorem R_C {α : Type} {A B : Option (α × RP)} {p q : Ps α} (hA : zQ T A p r) (hB : zQ T B q r) : zQ T (if zdh r = true then A else B) (ifC p q) r := fun v hv => by
 unfold ifC at hv
 cases h : zdh r with
 | true => rw [h, if_pos rfl] at hv; exact hA v hv
 | false => rw [h, if_neg (by simp)] at hv; exact hB v hv
theorem zrN (hs : Suf T r) (q : Stm) : zQ T (zfQ (mkR T r false) q) (zdZ q) r := by
 unfold zfQ zdZ
 refine zc5 hs (by decide) (fun t r2 e hs2 => ?_) fun _ => ?_
 ·subst e
  rw [zcy hs, znS]
  refine zct hs2 (zG _) (zb4 hs2 (by decide)) (fun r3 hs3 _ => ?_) fun e => ⟨_, rfl⟩
  exact zct hs3 (zG _) (zb4 hs3 (by decide)) (fun r4 hs4 _ => zbT) fun e => ⟨_, rfl⟩
 rw [zoW hs]
 refine R_C ?_ ?_
 ·refine zby hs zbl (zdz hs) (fun n r2 hs2 _ => ?_) fun x e => ?_
  ·exact zby hs2 zeb (zlP hs2) (fun l r3 hs3 _ => zbT) fun x e => ⟨_, rfl⟩
  ·obtain ⟨y, hy⟩ := zol (T := T) e
   dsimp only
   rw [hy]
   exact ⟨_, rfl⟩
 ·exact zby hs zbo (zdX hs) (fun x r2 hs2 _ => by cases x; exact zbT) fun x e => ⟨_, rfl⟩
theorem zmt (e : List Tok) (q : Stm) : ∃ y, zfQ (mkR T e true) q = some (y, mkR T e true) := by
 obtain ⟨y, hy⟩ := zeC (T := T) e
 refine ⟨⟨2, q.Line, q.Name, q.Field, q.Call, q.Type_, [⟨y.Kind, y.Num, y.Name, y.Field, y.Op, y.Kids⟩], q.Body, q.Else⟩, ?_⟩
 show ((zcu (mkR T e true) 0).bind _) = _
 rw [hy]
 rfl
theorem ziy (hs : Suf T r) (s : Stm) : zQ T (zfE T ((T.length - r.length : Nat) : Int) false s.Kind s.Line s.Name s.Field s.Call s.Type_.Kind s.Type_.N s.Type_.Name s.Kids s.Body s.Else) (k3 s) r :=
 zct hs (zG _) (zb4 hs (by decide)) (fun r2 hs2 _ => by cases s; exact zbT) fun e => ⟨_, rfl⟩
def qN (ln : Int) : Stm := ⟨0, ln, ⟨#[]⟩, ⟨#[]⟩, ⟨#[]⟩, ⟨0, 0, ⟨#[]⟩⟩, [], [], []⟩
theorem znW (q : Stm) : zdK q = bd zbQ fun n => ifS 4 [⟨#[40]⟩] (bd zdL fun l => pu ⟨5, q.Line, q.Name, q.Field, n, q.Type_, l, q.Body, q.Else⟩) (ifS 4 [⟨#[91]⟩] (bd zd9 fun i => bd (zbu [⟨#[61]⟩]) fun _ => bd zbZ fun x => pu ⟨3, q.Line, n, q.Field, q.Call, q.Type_, [i, x], q.Body, q.Else⟩)
  (ifH 4 [⟨#[46]⟩] (bd zbQ fun f => bd (zbu [⟨#[61]⟩]) fun _ => bd zbZ fun x => pu ⟨4, q.Line, n, f, q.Call, q.Type_, [x], q.Body, q.Else⟩)
   (bd (zbu [⟨#[61]⟩]) fun _ => zdZ ⟨q.Kind, q.Line, n, q.Field, q.Call, q.Type_, q.Kids, q.Body, q.Else⟩))) := by
 funext r
 unfold zdK ifC zdh
 cases h : zz 1 [] r with
 | false =>
  have hn : zbQ r = some (.error r) := by
   show bd (tk 1 []) _ r = _
   unfold bd
   rw [zj9 h]
  rw [if_neg (by simp)]
  unfold bd
  rw [hn]
 | true =>
  cases r with
  | nil => cases h
  | cons t r =>
   have hn : zbQ (t :: r) = some (.ok (t.Text, r)) := by
    show bd (tk 1 []) _ (t :: r) = _
    have : tk 1 [] (t :: r) = some (.ok (t, r)) := if_pos h
    rw [zdI this]
    rfl
   rw [zdI hn, zdI hn, zdI hn]
   conv => rhs; unfold ifS
   rw [Bool.true_and]
   rfl
theorem zqN (hs : Suf T r) (ln : Int) : zQ T (zjn (mkR T r false) (qN ln)) (bd (zdK (qN ln)) k3) r := by
 rw [znW, zfo]
 unfold zjn
 refine zby hs zbl (zdz hs) (fun n r2 hs2 _ => ?_) fun x e => ?_
 ·dsimp only
  rw [zlB, zlB, znk]
  simp only [zfo, zgd]
  refine R_S (zcS hs2 (by decide)) (fun _ => ?_) fun _ => ?_
  ·exact zby hs2 zeb (zlP hs2) (fun l r3 hs3 _ => ziy hs3 ⟨5, ln, ⟨#[]⟩, ⟨#[]⟩, n, ⟨0, 0, ⟨#[]⟩⟩, l, [], []⟩) fun x e => ⟨_, rfl⟩
  refine R_S (zcS hs2 (by decide)) (fun h => ?_) fun _ => ?_
  ·cases r2 with
   | nil => cases h
   | cons t r3 =>
    rw [zcy hs2]
    refine zrI hs2 t r3 rfl h hs2.tail _ (fun i d => (zbA d (⟨#[61]⟩ : ByteArray)).bind fun c246 => (zcu c246 0).bind fun c254 => zfE c254.2.L c254.2.At c254.2.Failed (3 : UInt8) (qN ln).Line n (qN ln).Field (qN ln).Call (qN ln).Type_.Kind (qN ln).Type_.N (qN ln).Type_.Name ([(⟨i.Kind, i.Num, i.Name, i.Field, i.Op, i.Kids⟩ : zb), (⟨c254.1.Kind, c254.1.Num, c254.1.Name, c254.1.Field, c254.1.Op, c254.1.Kids⟩ : zb)] : List zb) (qN ln).Body (qN ln).Else) (fun i r4 hs4 => ?_) fun i e => ?_
    ·refine zct hs4 (zG _) (zb4 hs4 (by decide)) (fun r5 hs5 _ => ?_) fun e => ?_
     ·exact zby hs5 zbo (zdX hs5) (fun x r6 hs6 _ => by cases x; cases i; exact ziy hs6 ⟨3, ln, n, ⟨#[]⟩, ⟨#[]⟩, ⟨0, 0, ⟨#[]⟩⟩, [_, _], [], []⟩) fun x e => ⟨_, rfl⟩
     ·obtain ⟨y, hy⟩ := zeC (T := T) e
      rw [hy]
      exact ⟨_, rfl⟩
    ·obtain ⟨y, hy⟩ := zeC (T := T) e
     refine ⟨?_, ?_⟩
     rotate_left
     ·show ((zcu (mkR T e true) 0).bind _) = _
      rw [hy]
      rfl
  refine zc5 hs2 (by decide) (fun t r3 e hs3 => ?_) fun _ => ?_
  ·subst e
   rw [zcy hs2]
   refine zby hs3 zbl (zdz hs3) (fun f r4 hs4 _ => ?_) fun x e => ?_
   ·refine zct hs4 (zG _) (zb4 hs4 (by decide)) (fun r5 hs5 _ => ?_) fun e => ?_
    ·exact zby hs5 zbo (zdX hs5) (fun x r6 hs6 _ => by cases x; exact ziy hs6 ⟨4, ln, n, f, ⟨#[]⟩, ⟨0, 0, ⟨#[]⟩⟩, [_], [], []⟩) fun x e => ⟨_, rfl⟩
    ·obtain ⟨y, hy⟩ := zeC (T := T) e
     dsimp only
     rw [hy]
     exact ⟨_, rfl⟩
   ·obtain ⟨y, hy⟩ := zeC (T := T) e
    refine ⟨?_, ?_⟩
    rotate_left
    ·show ((zcu (mkR T e true) 0).bind _) = _
     rw [hy]
     rfl
  ·refine zct hs2 (zG _) (zb4 hs2 (by decide)) (fun r3 hs3 _ => ?_) fun e => ?_
   ·exact zby hs3 (zjH _) (zrN hs3 _) (fun s r4 hs4 _ => ziy hs4 s) fun x e => ⟨_, rfl⟩
   ·obtain ⟨y, hy⟩ := zmt (T := T) e ⟨(qN ln).Kind, (qN ln).Line, n, (qN ln).Field, (qN ln).Call, (qN ln).Type_, (qN ln).Kids, (qN ln).Body, (qN ln).Else⟩
    refine ⟨?_, ?_⟩
    rotate_left
    ·show ((zfQ (mkR T e true) ⟨(qN ln).Kind, (qN ln).Line, n, (qN ln).Field, (qN ln).Call, (qN ln).Type_, (qN ln).Kids, (qN ln).Body, (qN ln).Else⟩).bind _) = _
     rw [hy]
     rfl
 ·obtain ⟨y, hy⟩ := zmt (T := T) e ⟨(qN ln).Kind, (qN ln).Line, x, (qN ln).Field, (qN ln).Call, (qN ln).Type_, (qN ln).Kids, (qN ln).Body, (qN ln).Else⟩
  refine ⟨?_, ?_⟩
  rotate_left
  ·show ((zfQ (mkR T e true) ⟨(qN ln).Kind, (qN ln).Line, x, (qN ln).Field, (qN ln).Call, (qN ln).Type_, (qN ln).Kids, (qN ln).Body, (qN ln).Else⟩).bind _) = _
   rw [hy]
   rfl
end
end Go.Proofs.Ytnhboaaikehpoaa
