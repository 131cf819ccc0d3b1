import Derived.Test.YtnhboaaikehpoaaP_12i
import Derived.KernelRfl
namespace Go.Proofs.Ytnhboaaikehpoaa
open Go.Ab Go.RowKit
set_option linter.unusedVariables false
set_option linter.unusedSimpArgs false
theorem zmL {α β : Type} (k : Int) (tx : List BA) (p q : Ps α) (f : α → Ps β) : bd (ifS k tx p q) f = ifS k tx (bd p f) (bd q f) := by
 funext r
 unfold bd ifS
 by_cases hc : zs k tx r = true
 ·simp only [if_pos hc]
 ·simp only [if_neg hc]
theorem znn {α β : Type} (k : Int) (tx : List BA) (p q : Ps α) (f : α → Ps β) : bd (ifH k tx p q) f = ifH k tx (bd p f) (bd q f) := by
 funext r
 unfold bd ifH
 by_cases hc : zs k tx r = true
 ·simp only [if_pos hc]
 ·simp only [if_neg hc]
theorem zoE {β : Type} (a b : BA) (f : Unit → Ps β) : bd (zbd [a, b]) f = bd (zbd [a]) fun _ => bd (zbd [b]) f := by
 simp only [zbd, ze9, zfs]
theorem ziA {k : Int} {a : BA} {t : Tok} {r : List Tok} (h : zs k [a] (t :: r) = true) : t.Text = a := by
 unfold zs at h
 dsimp only at h
 rw [Bool.and_eq_true] at h
 have h := h.2
 simp [inB] at h
 exact h.symm
theorem zk8 {α : Type} {k : Int} {a b : BA} (h : a ≠ b) (p q s : Ps α) : ifH k [a] p (ifH k [b] q s) = ifH k [b] q (ifH k [a] p s) := by
 funext r
 unfold ifH
 by_cases h1 : zs k [a] r = true
 ·by_cases h2 : zs k [b] r = true
  ·cases r with
   | nil => cases h1
   | cons t r => exact absurd ((ziA h1).symm.trans (ziA h2)) h
  ·simp only [if_pos h1, if_neg h2]
 ·simp only [if_neg h1]
section
variable {T : List Tok} {r : List Tok} {k : Int} {tx : List BA}
theorem zkr (e : List Tok) (n : Nat) (l : List za) : zhi (n + 1) T ((T.length - e.length : Nat) : Int) true l = some (l, mkR T e true) := rfl
theorem zmS : ∀ (n m : Nat) (l : List za) (r : List Tok), r.length < n → Suf T r → l.length + r.length ≤ 1000001 → zG T (zhi n T ((T.length - r.length : Nat) : Int) false l) (aL m l) r
 | n, 0, l, r, _, _, _ => zeb
 | 0, m + 1, l, r, h, _, _ => by omega
 | n + 1, m + 1, l, r, hn, hs, hl => by
  show zG T (zjg (zhi n) T ((T.length - r.length : Nat) : Int) false l) (ifH 4 [⟨#[44]⟩] (bd zbI fun x => aL m (l ++ [x])) (bd (zbd [⟨#[41]⟩]) fun _ => pu l)) r
  unfold zjg
  refine zcP (T := T) hs (by decide) (fun t r2 e hs2 => ?_) fun _ => ?_
  ·subst e
   simp only [List.length_cons] at hn hl
   rw [zeo (S := []) (D := []) hs]
   refine zbh hs2 zbb (zdO hs2) (fun x r3 hs3 he => ?_) fun x e => ?_
   ·have := zbb.le he
    have : r3.length ≤ r2.length := this
    rw [zbJ (by omega), Option.bind_some]
    have := zmS n m (l ++ [x]) r3 (by omega) hs3 (by simp; omega)
    cases x
    exact this
   ·obtain ⟨n', rfl⟩ : ∃ n', n = n' + 1 := ⟨n - 1, by omega⟩
    rw [zbJ (by omega), Option.bind_some]
    exact ⟨_, rfl⟩
  ·exact zb7 hs (zy _) (zbN hs (by decide)) (fun r4 hs4 _ => zbE) fun e => ⟨_, rfl⟩
theorem zmE (hs : Suf T r) : zG T (zgx (mkR T r false)) zdA r := by
 unfold zgx zdA
 refine zb7 hs (zy _) (zbN hs (by decide)) (fun r2 hs2 _ => ?_) fun e => ?_
 ·refine zcP hs2 (by decide) (fun t r3 e hs3 => by subst e; rw [zcg hs2]; exact zbE) fun _ => ?_
  refine zbh hs2 zbb (zdO hs2) (fun x r3 hs3 he => ?_) fun x e => ?_
  ·have h1 := zbM hs3
   have h2 := hs3.2
   have := zmS (T := T) big big [x] r3 (by have := zbZ; omega) hs3 (by simp; omega)
   cases x
   exact this
  ·exact ⟨_, zkr e _ _⟩
 ·obtain ⟨y, hy⟩ := zeu (T := T) e
  refine ⟨[⟨y.Kind, y.Num, y.Name, y.Field, y.Op, y.Kids⟩], ?_⟩
  show ((zb8 (mkR T e true) 0).bind _) = _
  rw [hy]
  exact zkr e _ _
theorem zqo (e : List Tok) : ∃ y, zgx (mkR T e true) = some (y, mkR T e true) := by
 obtain ⟨y, hy⟩ := zeu (T := T) e
 refine ⟨[⟨y.Kind, y.Num, y.Name, y.Field, y.Op, y.Kids⟩], ?_⟩
 show ((zb8 (mkR T e true) 0).bind _) = _
 rw [hy]
 exact zkr e _ _
theorem zov {β : Type} (hs : Suf T r) (A B : Option β) : ((z7 (mkR T r false) 1 (⟨#[]⟩ : ByteArray)).bind fun c26 => ((if (c26 && (decide ((IntKind.i64.wrap ((mkR T r false).At + 1)) < ((mkR T r false).L.length : Int)))) = true then (zI (mkR T r false).L (IntKind.i64.wrap ((mkR T r false).At + 1))).bind fun y33 => some ((y33.Kind.toNat : Int) == 4) else some false)).bind fun c30 => ((if c30 = true then (zI (mkR T r false).L (IntKind.i64.wrap ((mkR T r false).At + 1))).bind fun y41 => some (zb4 y41.Text (⟨#[40]⟩ : ByteArray)) else some false)).bind fun c38 => if c38 = true then A else B) = if zc7 r = true then A else B := by
 rw [zgU hs, Option.bind_some]
 unfold zc7
 cases h : zs 1 [] r with
 | false => rfl
 | true =>
  cases r with
  | nil => cases h
  | cons t r =>
   have hw : IntKind.i64.wrap ((mkR T (t :: r) false).At + 1) = ((T.length - r.length : Nat) : Int) := zeo (S := []) (D := []) hs
   have hL : (mkR T (t :: r) false).L = T := rfl
   rw [hw, hL]
   have h1 := zbM hs
   simp only [List.length_cons] at h1
   cases r with
   | nil =>
    rw [if_neg (by simp)]
    rfl
   | cons t2 r =>
    rw [if_pos (by simp only [List.length_cons] at *; simp; omega), zeA hs.tail, Option.bind_some, Option.bind_some]
    show _ = if (true && zs 4 [⟨#[40]⟩] (t2 :: r)) = true then A else B
    by_cases hk : (t2.Kind.toNat : Int) = 4
    ·have es : zs 4 [⟨#[40]⟩] (t2 :: r) = zb4 t2.Text ⟨#[40]⟩ := by
      unfold zs
      dsimp only
      rw [zbo hk, zeJ]
      simp [inB, eq_comm]
     rw [es, zic hk, if_pos rfl, Option.bind_some, Option.bind_some, Bool.true_and]
    ·have es : zs 4 [⟨#[40]⟩] (t2 :: r) = false := by
      unfold zs
      dsimp only
      rw [zdD hk]
      rfl
     rw [es, zkD hk]
     rfl
theorem R_C {α : Type} {A B : Option (α × RP)} {p q : Ps α} (hA : zG T A p r) (hB : zG T B q r) : zG T (if zc7 r = true then A else B) (ifC p q) r := fun v hv => by
 unfold ifC at hv
 cases h : zc7 r with
 | true => rw [h, if_pos rfl] at hv; exact hA v hv
 | false => rw [h, if_neg (by simp)] at hv; exact hB v hv
theorem zqa (hs : Suf T r) (q : Stm) : zG T (zfw (mkR T r false) q) (zd5 q) r := by
 unfold zfw zd5
 refine zcP hs (by decide) (fun t r2 e hs2 => ?_) fun _ => ?_
 ·subst e
  rw [zcg hs, zoE]
  refine zb7 hs2 (zy _) (zbN hs2 (by decide)) (fun r3 hs3 _ => ?_) fun e => ⟨_, rfl⟩
  exact zb7 hs3 (zy _) (zbN hs3 (by decide)) (fun r4 hs4 _ => zbE) fun e => ⟨_, rfl⟩
 rw [zov hs]
 refine R_C ?_ ?_
 ·refine zbh hs z9 (zdf hs) (fun n r2 hs2 _ => ?_) fun x e => ?_
  ·exact zbh hs2 zd6 (zmE hs2) (fun l r3 hs3 _ => zbE) fun x e => ⟨_, rfl⟩
  ·obtain ⟨y, hy⟩ := zqo (T := T) e
   dsimp only
   rw [hy]
   exact ⟨_, rfl⟩
 ·exact zbh hs zbb (zdO hs) (fun x r2 hs2 _ => by cases x; exact zbE) fun x e => ⟨_, rfl⟩
theorem zl5 (e : List Tok) (q : Stm) : ∃ y, zfw (mkR T e true) q = some (y, mkR T e true) := by
 obtain ⟨y, hy⟩ := zeu (T := T) e
 refine ⟨⟨2, q.Line, q.Name, q.Field, q.Call, q.Type_, [⟨y.Kind, y.Num, y.Name, y.Field, y.Op, y.Kids⟩], q.Body, q.Else⟩, ?_⟩
 show ((zb8 (mkR T e true) 0).bind _) = _
 rw [hy]
 rfl
theorem zhR (hs : Suf T r) (s : Stm) : zG T (zfn T ((T.length - r.length : Nat) : Int) false s.Kind s.Line s.Name s.Field s.Call s.Type_.Kind s.Type_.N s.Type_.Name s.Kids s.Body s.Else) (k3 s) r :=
 zb7 hs (zy _) (zbN hs (by decide)) (fun r2 hs2 _ => by cases s; exact zbE) fun e => ⟨_, rfl⟩
def qN (ln : Int) : Stm := ⟨0, ln, ⟨#[]⟩, ⟨#[]⟩, ⟨#[]⟩, ⟨0, 0, ⟨#[]⟩⟩, [], [], []⟩
theorem zqy (q : Stm) : zdJ q = bd zbB fun n => ifS 4 [⟨#[40]⟩] (bd zdA fun l => pu ⟨5, q.Line, q.Name, q.Field, n, q.Type_, l, q.Body, q.Else⟩) (ifS 4 [⟨#[91]⟩] (bd zd8 fun i => bd (zbd [⟨#[61]⟩]) fun _ => bd zbI fun x => pu ⟨3, q.Line, n, q.Field, q.Call, q.Type_, [i, x], q.Body, q.Else⟩)
  (ifH 4 [⟨#[46]⟩] (bd zbB fun f => bd (zbd [⟨#[61]⟩]) fun _ => bd zbI fun x => pu ⟨4, q.Line, n, f, q.Call, q.Type_, [x], q.Body, q.Else⟩)
   (bd (zbd [⟨#[61]⟩]) fun _ => zd5 ⟨q.Kind, q.Line, n, q.Field, q.Call, q.Type_, q.Kids, q.Body, q.Else⟩))) := by
 funext r
 unfold zdJ ifC zc7
 cases h : zs 1 [] r with
 | false =>
  have hn : zbB r = some (.error r) := by
   show bd (tk 1 []) _ r = _
   unfold bd
   rw [ziS h]
  rw [if_neg (by simp)]
  unfold bd
  rw [hn]
 | true =>
  cases r with
  | nil => cases h
  | cons t r =>
   have hn : zbB (t :: r) = some (.ok (t.Text, r)) := by
    show bd (tk 1 []) _ (t :: r) = _
    have : tk 1 [] (t :: r) = some (.ok (t, r)) := if_pos h
    rw [zdz this]
    rfl
   rw [zdz hn, zdz hn, zdz hn]
   conv => rhs; unfold ifS
   rw [Bool.true_and]
   rfl
theorem zn9 (hs : Suf T r) (ln : Int) : zG T (zi1 (mkR T r false) (qN ln)) (bd (zdJ (qN ln)) k3) r := by
 rw [zqy, ze9]
 unfold zi1
 refine zbh hs z9 (zdf hs) (fun n r2 hs2 _ => ?_) fun x e => ?_
 ·dsimp only
  rw [zmL, zmL, znn]
  simp only [ze9, zfs]
  refine R_S (zcB hs2 (by decide)) (fun _ => ?_) fun _ => ?_
  ·exact zbh hs2 zd6 (zmE hs2) (fun l r3 hs3 _ => zhR hs3 ⟨5, ln, ⟨#[]⟩, ⟨#[]⟩, n, ⟨0, 0, ⟨#[]⟩⟩, l, [], []⟩) fun x e => ⟨_, rfl⟩
  refine R_S (zcB hs2 (by decide)) (fun h => ?_) fun _ => ?_
  ·cases r2 with
   | nil => cases h
   | cons t r3 =>
    rw [zcg hs2]
    refine zpz hs2 t r3 rfl h hs2.tail _ (fun i d => (zbi d (⟨#[61]⟩ : ByteArray)).bind fun c246 => (zb8 c246 0).bind fun c254 => zfn c254.2.L c254.2.At c254.2.Failed (3 : UInt8) (qN ln).Line n (qN ln).Field (qN ln).Call (qN ln).Type_.Kind (qN ln).Type_.N (qN ln).Type_.Name ([(⟨i.Kind, i.Num, i.Name, i.Field, i.Op, i.Kids⟩ : za), (⟨c254.1.Kind, c254.1.Num, c254.1.Name, c254.1.Field, c254.1.Op, c254.1.Kids⟩ : za)] : List za) (qN ln).Body (qN ln).Else) (fun i r4 hs4 => ?_) fun i e => ?_
    ·refine zb7 hs4 (zy _) (zbN hs4 (by decide)) (fun r5 hs5 _ => ?_) fun e => ?_
     ·exact zbh hs5 zbb (zdO hs5) (fun x r6 hs6 _ => by cases x; cases i; exact zhR hs6 ⟨3, ln, n, ⟨#[]⟩, ⟨#[]⟩, ⟨0, 0, ⟨#[]⟩⟩, [_, _], [], []⟩) fun x e => ⟨_, rfl⟩
     ·obtain ⟨y, hy⟩ := zeu (T := T) e
      rw [hy]
      exact ⟨_, rfl⟩
    ·obtain ⟨y, hy⟩ := zeu (T := T) e
     refine ⟨?_, ?_⟩
     rotate_left
     ·show ((zb8 (mkR T e true) 0).bind _) = _
      rw [hy]
      rfl
  refine zcP hs2 (by decide) (fun t r3 e hs3 => ?_) fun _ => ?_
  ·subst e
   rw [zcg hs2]
   refine zbh hs3 z9 (zdf hs3) (fun f r4 hs4 _ => ?_) fun x e => ?_
   ·refine zb7 hs4 (zy _) (zbN hs4 (by decide)) (fun r5 hs5 _ => ?_) fun e => ?_
    ·exact zbh hs5 zbb (zdO hs5) (fun x r6 hs6 _ => by cases x; exact zhR hs6 ⟨4, ln, n, f, ⟨#[]⟩, ⟨0, 0, ⟨#[]⟩⟩, [_], [], []⟩) fun x e => ⟨_, rfl⟩
    ·obtain ⟨y, hy⟩ := zeu (T := T) e
     dsimp only
     rw [hy]
     exact ⟨_, rfl⟩
   ·obtain ⟨y, hy⟩ := zeu (T := T) e
    refine ⟨?_, ?_⟩
    rotate_left
    ·show ((zb8 (mkR T e true) 0).bind _) = _
     rw [hy]
     rfl
  ·refine zb7 hs2 (zy _) (zbN hs2 (by decide)) (fun r3 hs3 _ => ?_) fun e => ?_
   ·exact zbh hs3 (ziX _) (zqa hs3 _) (fun s r4 hs4 _ => zhR hs4 s) fun x e => ⟨_, rfl⟩
   ·obtain ⟨y, hy⟩ := zl5 (T := T) e ⟨(qN ln).Kind, (qN ln).Line, n, (qN ln).Field, (qN ln).Call, (qN ln).Type_, (qN ln).Kids, (qN ln).Body, (qN ln).Else⟩
    refine ⟨?_, ?_⟩
    rotate_left
    ·show ((zfw (mkR T e true) ⟨(qN ln).Kind, (qN ln).Line, n, (qN ln).Field, (qN ln).Call, (qN ln).Type_, (qN ln).Kids, (qN ln).Body, (qN ln).Else⟩).bind _) = _
     rw [hy]
     rfl
 ·obtain ⟨y, hy⟩ := zl5 (T := T) e ⟨(qN ln).Kind, (qN ln).Line, x, (qN ln).Field, (qN ln).Call, (qN ln).Type_, (qN ln).Kids, (qN ln).Body, (qN ln).Else⟩
  refine ⟨?_, ?_⟩
  rotate_left
  ·show ((zfw (mkR T e true) ⟨(qN ln).Kind, (qN ln).Line, x, (qN ln).Field, (qN ln).Call, (qN ln).Type_, (qN ln).Kids, (qN ln).Body, (qN ln).Else⟩).bind _) = _
   rw [hy]
   rfl
end
end Go.Proofs.Ytnhboaaikehpoaa
