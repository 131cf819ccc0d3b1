import Derived.Test.YtnhboaaikehpoaaP_12j
import Derived.KernelRfl
namespace Go.Proofs.Ytnhboaaikehpoaa
open Go.Ab Go.RowKit
set_option linter.unusedVariables false
set_option linter.unusedSimpArgs false
theorem zoJ (rB : Ps (List Stm)) (r : List Tok) : zc7 rB r = (ifH 3 [⟨#[118, 97, 114]⟩] (bd (zeq (qN (zb9 r))) k3)
  (ifH 3 [⟨#[105, 102]⟩] (bd zbZ fun x => bd rB fun b => ifH 3 [⟨#[101, 108, 115, 101]⟩] (bd rB fun e => pu ⟨6, zb9 r, ⟨#[]⟩, ⟨#[]⟩, ⟨#[]⟩, ⟨0, 0, ⟨#[]⟩⟩, [x], b, e⟩) (pu ⟨6, zb9 r, ⟨#[]⟩, ⟨#[]⟩, ⟨#[]⟩, ⟨0, 0, ⟨#[]⟩⟩, [x], b, []⟩))
  (ifH 3 [⟨#[102, 111, 114]⟩] (bd zbZ fun x => bd rB fun b => pu ⟨7, zb9 r, ⟨#[]⟩, ⟨#[]⟩, ⟨#[]⟩, ⟨0, 0, ⟨#[]⟩⟩, [x], b, []⟩)
  (ifH 3 [⟨#[112, 114, 105, 110, 116]⟩] (bd (zbu [⟨#[40]⟩]) fun _ => bd zbZ fun x => bd (zbu [⟨#[41]⟩]) fun _ => k3 ⟨8, zb9 r, ⟨#[]⟩, ⟨#[]⟩, ⟨#[]⟩, ⟨0, 0, ⟨#[]⟩⟩, [x], [], []⟩)
  (ifH 3 [⟨#[114, 101, 116, 117, 114, 110]⟩] (ifS 4 [⟨#[59]⟩] (k3 ⟨10, zb9 r, ⟨#[]⟩, ⟨#[]⟩, ⟨#[]⟩, ⟨0, 0, ⟨#[]⟩⟩, [], [], []⟩) (bd zbZ fun x => k3 ⟨10, zb9 r, ⟨#[]⟩, ⟨#[]⟩, ⟨#[]⟩, ⟨0, 0, ⟨#[]⟩⟩, [x], [], []⟩))
  (bd (zdK (qN (zb9 r))) k3)))))) r := by
 unfold zc7 zdF
 rw [zmb (a := ⟨#[102, 111, 114]⟩) (b := ⟨#[118, 97, 114]⟩) (by decide), zmb (a := ⟨#[105, 102]⟩) (b := ⟨#[118, 97, 114]⟩) (by decide)]
 rfl
theorem sk3 {c3 : Int} {T : List Tok} {p : Int} {fl : Bool} {kd : Int} {nm : BA} {a : UInt8} {b : Int} {c : BA} {ks : List zb} {bo el : List Stm} (z : UInt8) (h : u8o kd = some z) : zed c3 T p fl kd nm a b c ks bo el = some (⟨z, c3, nm, ⟨#[]⟩, ⟨#[]⟩, ⟨a, b, c⟩, ks, bo, el⟩, ⟨T, p, fl⟩) := by
 unfold zed
 rw [h]
 rfl
section
variable {T : List Tok} {r : List Tok} {k : Int} {tx : List BA}
theorem zlW (hs : Suf T r) : zg0 (mkR T r false) = some (zb9 r) := by
 unfold zg0 mkR
 dsimp only
 cases r with
 | nil => rw [if_neg (by simp)]; rfl
 | cons t r =>
  have := zb3 hs
  rw [if_pos (zbx (by simp only [List.length_cons] at *; omega)), zeJ hs]
  rfl
theorem zn2 {α : Type} {x : BA} {A B : Option (α × RP)} {p q : Ps α} (hi : zbk (mkR T r false) k x = some (zz k tx r)) (hA : zz k tx r = true → zQ T A p r) (hB : zz k tx r = false → zQ T B q r) : zQ T ((zbk (mkR T r false) k x).bind fun c => if (!c) = true then B else A) (ifS k tx p q) r := fun v hv => by
 rw [hi, Option.bind_some]
 unfold ifS at hv
 cases h : zz k tx r with
 | true => rw [h, if_pos rfl] at hv; exact hA h v hv
 | false => rw [h, if_neg (by simp)] at hv; exact hB h v hv
theorem zrK {Rb : RP → Option (List Stm × RP)} {Rs : RP → Option (Stm × RP)} {rB : Ps (List Stm)} (hB : Sf rB) (h1 : ∀ r, Suf T r → zQ T (Rb (mkR T r false)) rB r) (hF : ∀ e, ∃ y, Rb (mkR T e true) = some (y, mkR T e true)) (hs : Suf T r) : zQ T (zkz Rb Rs (mkR T r false)) (zc7 rB) r := by
 intro v hv
 rw [zoJ] at hv
 revert v
 show zQ T _ (ifH _ _ _ _) r
 unfold zkz
 rw [zlW hs, Option.bind_some]
 generalize zb9 r = ln
 refine zc5 hs (by decide) (fun t r2 e hs2 => ?_) fun _ => ?_
 ·subst e
  rw [zcy hs]
  unfold zeq
  simp only [zfo, znk, zgd]
  refine zby hs2 zbl (zdz hs2) (fun n r3 hs3 _ => ?_) fun x e => ⟨_, rfl⟩
  refine zby hs3 (zcQ _) (ziz hs3 true) (fun ty r4 hs4 _ => ?_) fun x e => ⟨_, rfl⟩
  refine zc5 hs4 (by decide) (fun t r5 e hs5 => ?_) fun _ => ?_
  ·subst e
   dsimp only
   rw [zcy hs4]
   refine zby hs5 zbo (zdX hs5) (fun x r6 hs6 _ => ?_) fun x e => ⟨_, rfl⟩
   exact zct hs6 (zG _) (zb4 hs6 (by decide)) (fun r7 hs7 _ => by rw [sk3 1 (by decide)]; cases x; exact zbT) fun e => ⟨_, rfl⟩
  ·exact zct hs4 (zG _) (zb4 hs4 (by decide)) (fun r7 hs7 _ => by rw [sk3 1 (by decide)]; exact zbT) fun e => ⟨_, rfl⟩
 refine zc5 hs (by decide) (fun t r2 e hs2 => ?_) fun _ => ?_
 ·subst e
  rw [zcy hs]
  refine zby hs2 zbo (zdX hs2) (fun x r3 hs3 _ => ?_) fun x e => ?_
  ·refine zby hs3 hB (h1 r3 hs3) (fun b r4 hs4 _ => ?_) fun x e => ⟨_, rfl⟩
   refine zc5 hs4 (by decide) (fun t r5 e hs5 => ?_) fun _ => ?_
   ·subst e
    dsimp only
    rw [zcy hs4]
    exact zby hs5 hB (h1 r5 hs5) (fun b2 r6 hs6 _ => by rw [sk3 6 (by decide)]; cases x; exact zbT) fun x e => ⟨_, rfl⟩
   ·rw [sk3 6 (by decide)]
    cases x
    exact zbT
  ·obtain ⟨y, hy⟩ := hF e
   dsimp only
   rw [hy]
   exact ⟨_, rfl⟩
 refine zc5 hs (by decide) (fun t r2 e hs2 => ?_) fun _ => ?_
 ·subst e
  rw [zcy hs]
  refine zby hs2 zbo (zdX hs2) (fun x r3 hs3 _ => ?_) fun x e => ?_
  ·exact zby hs3 hB (h1 r3 hs3) (fun b r4 hs4 _ => by rw [sk3 7 (by decide)]; cases x; exact zbT) fun x e => ⟨_, rfl⟩
  ·obtain ⟨y, hy⟩ := hF e
   dsimp only
   rw [hy]
   exact ⟨_, rfl⟩
 refine zc5 hs (by decide) (fun t r2 e hs2 => ?_) fun _ => ?_
 ·subst e
  rw [zcy hs]
  refine zct hs2 (zG _) (zb4 hs2 (by decide)) (fun r3 hs3 _ => ?_) fun e => ?_
  ·refine zby hs3 zbo (zdX hs3) (fun x r4 hs4 _ => ?_) fun x e => ⟨_, rfl⟩
   refine zct hs4 (zG _) (zb4 hs4 (by decide)) (fun r5 hs5 _ => ?_) fun e => ⟨_, rfl⟩
   exact zct hs5 (zG _) (zb4 hs5 (by decide)) (fun r7 hs7 _ => by rw [sk3 8 (by decide)]; cases x; exact zbT) fun e => ⟨_, rfl⟩
  ·obtain ⟨y, hy⟩ := zeC (T := T) e
   rw [hy]
   exact ⟨_, rfl⟩
 refine zc5 hs (by decide) (fun t r2 e hs2 => ?_) fun _ => ?_
 ·subst e
  rw [zcy hs]
  refine zn2 (zcS hs2 (by decide)) (fun _ => ?_) fun _ => ?_
  ·exact zct hs2 (zG _) (zb4 hs2 (by decide)) (fun r7 hs7 _ => by rw [sk3 10 (by decide)]; exact zbT) fun e => ⟨_, rfl⟩
  ·refine zby hs2 zbo (zdX hs2) (fun x r4 hs4 _ => ?_) fun x e => ⟨_, rfl⟩
   exact zct hs4 (zG _) (zb4 hs4 (by decide)) (fun r7 hs7 _ => by rw [sk3 10 (by decide)]; cases x; exact zbT) fun e => ⟨_, rfl⟩
 have eta : ∀ X : Option (Stm × RP), (X.bind fun c => some (c.1, c.2)) = X := fun X => by cases X <;> rfl
 rw [eta]
 exact zqN hs ln
theorem zqM {R : RP → Option (Stm × RP)} (e : List Tok) (n : Nat) (l : List Stm) : zgt R (n + 1) T ((T.length - e.length : Nat) : Int) true l = some (l, mkR T e true) := rfl
theorem znG {R : RP → Option (Stm × RP)} {rS : Ps Stm} (f1 : Sf rS) (f2 : Co rS) (hR : ∀ r, Suf T r → zQ T (R (mkR T r false)) rS r) : ∀ (n m : Nat) (l : List Stm) (r : List Tok), r.length + 1 < n → Suf T r → l.length + r.length ≤ 1000000 → zQ T (zgt R n T ((T.length - r.length : Nat) : Int) false l) (zde rS m l) r
 | n, 0, l, r, _, _, _ => zer
 | 0, m + 1, l, r, h, _, _ => by omega
 | n + 1, m + 1, l, r, hn, hs, hl => by
  show zQ T (zjB (zgt R n) R T ((T.length - r.length : Nat) : Int) false l) (ifH 4 [⟨#[125]⟩] (pu l) (bd rS fun s => zde rS m (l ++ [s]))) r
  unfold zjB
  rw [if_pos (show (!false) = true from rfl)]
  show zQ T (((zbk (mkR T r false) 4 ⟨#[125]⟩).bind fun c => some (!c)).bind _) _ r
  rw [zcS hs (by decide), Option.bind_some, Option.bind_some]
  intro v hv
  unfold ifH at hv
  cases h : zz 4 [⟨#[125]⟩] r with
  | true =>
   rw [h, if_pos rfl] at hv
   rw [if_neg (by simp)]
   have hu := zb4 (x := ⟨#[125]⟩) hs (by decide)
   have e0 : zbu [⟨#[125]⟩] r = some (.ok ((), r.tail)) := by
    show bd (tk 4 [⟨#[125]⟩]) (fun _ => pu ()) r = _
    cases r with
    | nil => cases h
    | cons t r =>
     have : tk 4 [⟨#[125]⟩] (t :: r) = some (.ok (t, r)) := if_pos h
     rw [zdI this]
     rfl
   have e1 : zbA (mkR T r false) ⟨#[125]⟩ = some (mkR T r.tail false) := hu _ e0
   unfold mkR at e1
   rw [e1]
   injection hv with hv
   subst hv
   rfl
  | false =>
   rw [h, if_neg (by simp)] at hv
   rw [if_pos (show (!false) = true from rfl)]
   refine (zby hs f1 (hR r hs) (fun x r3 hs3 he => ?_) fun x e => ?_) v hv
   ·have := f2 r x r3 he
    rw [zbO (by omega), Option.bind_some]
    have := znG f1 f2 hR n m (l ++ [x]) r3 (by omega) hs3 (by simp; omega)
    cases x
    exact this
   ·obtain ⟨n', rfl⟩ : ∃ n', n = n' + 1 := ⟨n - 1, by omega⟩
    rw [zbO (by omega), Option.bind_some]
    exact ⟨_, rfl⟩
theorem znZ (e : List Tok) (m : Nat) : ∃ y, (zdN (m + 1)).1 (mkR T e true) = some (y, mkR T e true) := ⟨[], rfl⟩
theorem R_B : ∀ (n m : Nat), n + 10 ≤ m → ∀ r, Suf T r → zQ T ((zdN m).1 (mkR T r false)) (sB n).1 r ∧ zQ T ((zdN m).2 (mkR T r false)) (sB n).2 r
 | 0, m, _, r, hs => ⟨zer, zer⟩
 | n + 1, 0, h, r, hs => by omega
 | n + 1, m + 1, h, r, hs => by
  obtain ⟨f1, f2, f3⟩ := zfh n
  have a := fun r hs => R_B n m (by omega) r hs
  refine ⟨?_, ?_⟩
  ·show zQ T (zkT (zdN m).1 (zdN m).2 (mkR T r false)) (zgF (sB n).2) r
   unfold zkT zgF
   refine zct hs (zG _) (zb4 hs (by decide)) (fun r2 hs2 _ => ?_) fun e => ⟨_, zqM e _ _⟩
   exact znG f2 f3 (fun r hs => (a r hs).2) big big [] r2 (by have := zb3 hs2; have := hs2.2; have := zco; omega) hs2 (by have := zb3 hs2; have := hs2.2; simp; omega)
  ·exact zrK (Rs := (zdN m).2) f1 (fun r hs => (a r hs).1) (fun e => by
    obtain ⟨m', rfl⟩ : ∃ m', m = m' + 1 := ⟨m - 1, by omega⟩
    exact znZ e m') hs
theorem zrq (hs : Suf T r) : zQ T (zfz (mkR T r false)) zev r := fun v hv =>
 (R_B 8000008 big (by have := zbU (show 8000018 ≤ 9223372036854775807 by omega); omega) r hs).1 v (zrC (by have := zb3 hs; have := hs.2; omega) hv)
theorem zqT (e : List Tok) : zfz (mkR T e true) = some ([], mkR T e true) := rfl
end
end Go.Proofs.Ytnhboaaikehpoaa
