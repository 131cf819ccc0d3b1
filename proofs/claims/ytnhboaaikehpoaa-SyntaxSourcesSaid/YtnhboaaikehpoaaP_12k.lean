import Derived.Test.YtnhboaaikehpoaaP_12j
import Derived.KernelRfl
namespace Go.Proofs.Ytnhboaaikehpoaa
open Go.Ab Go.RowKit
set_option linter.unusedVariables false
set_option linter.unusedSimpArgs false
theorem zqK (rB : Ps (List Stm)) (r : List Tok) : zdk rB r = (ifH 3 [⟨#[118, 97, 114]⟩] (bd (zeG (qN (zb7 r))) k3)
  (ifH 3 [⟨#[105, 102]⟩] (bd zb5 fun x => bd rB fun b => ifH 3 [⟨#[101, 108, 115, 101]⟩] (bd rB fun e => pu ⟨6, zb7 r, ⟨#[]⟩, ⟨#[]⟩, ⟨#[]⟩, ⟨0, 0, ⟨#[]⟩⟩, [x], b, e⟩) (pu ⟨6, zb7 r, ⟨#[]⟩, ⟨#[]⟩, ⟨#[]⟩, ⟨0, 0, ⟨#[]⟩⟩, [x], b, []⟩))
  (ifH 3 [⟨#[102, 111, 114]⟩] (bd zb5 fun x => bd rB fun b => pu ⟨7, zb7 r, ⟨#[]⟩, ⟨#[]⟩, ⟨#[]⟩, ⟨0, 0, ⟨#[]⟩⟩, [x], b, []⟩)
  (ifH 3 [⟨#[112, 114, 105, 110, 116]⟩] (bd (zbs [⟨#[40]⟩]) fun _ => bd zb5 fun x => bd (zbs [⟨#[41]⟩]) fun _ => k3 ⟨8, zb7 r, ⟨#[]⟩, ⟨#[]⟩, ⟨#[]⟩, ⟨0, 0, ⟨#[]⟩⟩, [x], [], []⟩)
  (ifH 3 [⟨#[114, 101, 116, 117, 114, 110]⟩] (ifS 4 [⟨#[59]⟩] (k3 ⟨10, zb7 r, ⟨#[]⟩, ⟨#[]⟩, ⟨#[]⟩, ⟨0, 0, ⟨#[]⟩⟩, [], [], []⟩) (bd zb5 fun x => k3 ⟨10, zb7 r, ⟨#[]⟩, ⟨#[]⟩, ⟨#[]⟩, ⟨0, 0, ⟨#[]⟩⟩, [x], [], []⟩))
  (bd (zdX (qN (zb7 r))) k3)))))) r := by
 unfold zdk zeh
 rw [zld (a := ⟨#[102, 111, 114]⟩) (b := ⟨#[118, 97, 114]⟩) (by decide), zld (a := ⟨#[105, 102]⟩) (b := ⟨#[118, 97, 114]⟩) (by decide)]
 rfl
theorem sk3 {c3 : Int} {T : List Tok} {p : Int} {fl : Bool} {kd : Int} {nm : BA} {a : UInt8} {b : Int} {c : BA} {ks : List zb} {bo el : List Stm} (z : UInt8) (h : u8o kd = some z) : zdm c3 T p fl kd nm a b c ks bo el = some (⟨z, c3, nm, ⟨#[]⟩, ⟨#[]⟩, ⟨a, b, c⟩, ks, bo, el⟩, ⟨T, p, fl⟩) := by
 unfold zdm
 rw [h]
 rfl
section
variable {T : List Tok} {r : List Tok} {k : Int} {tx : List BA}
theorem zmP (hs : Suf T r) : zfx (mkR T r false) = some (zb7 r) := by
 unfold zfx mkR
 dsimp only
 cases r with
 | nil => rw [if_neg (by simp)]; rfl
 | cons t r =>
  have := zbW hs
  rw [if_pos (zbe (by simp only [List.length_cons] at *; omega)), zeE hs]
  rfl
theorem zqZ {α : Type} {x : BA} {A B : Option (α × RP)} {p q : Ps α} (hi : zbg (mkR T r false) k x = some (zI k tx r)) (hA : zI k tx r = true → zU T A p r) (hB : zI k tx r = false → zU T B q r) : zU T ((zbg (mkR T r false) k x).bind fun c => if (!c) = true then B else A) (ifS k tx p q) r := fun v hv => by
 rw [hi, Option.bind_some]
 unfold ifS at hv
 cases h : zI k tx r with
 | true => rw [h, if_pos rfl] at hv; exact hA h v hv
 | false => rw [h, if_neg (by simp)] at hv; exact hB h v hv
theorem zo0 {Rb : RP → Option (List Stm × RP)} {Rs : RP → Option (Stm × RP)} {rB : Ps (List Stm)} (hB : Sf rB) (h1 : ∀ r, Suf T r → zU T (Rb (mkR T r false)) rB r) (hF : ∀ e, ∃ y, Rb (mkR T e true) = some (y, mkR T e true)) (hs : Suf T r) : zU T (zhQ Rb Rs (mkR T r false)) (zdk rB) r := by
 intro v hv
 rw [zqK] at hv
 revert v
 show zU T _ (ifH _ _ _ _) r
 unfold zhQ
 rw [zmP hs, Option.bind_some]
 generalize zb7 r = ln
 refine zcW hs (by decide) (fun t r2 e hs2 => ?_) fun _ => ?_
 ·subst e
  rw [zcu hs]
  unfold zeG
  simp only [zfs, zls, zfV]
  refine zbu hs2 zbo (zdn hs2) (fun n r3 hs3 _ => ?_) fun x e => ⟨_, rfl⟩
  refine zbu hs3 (zcR _) (zin hs3 true) (fun ty r4 hs4 _ => ?_) fun x e => ⟨_, rfl⟩
  refine zcW hs4 (by decide) (fun t r5 e hs5 => ?_) fun _ => ?_
  ·subst e
   dsimp only
   rw [zcu hs4]
   refine zbu hs5 zbq (zdN hs5) (fun x r6 hs6 _ => ?_) fun x e => ⟨_, rfl⟩
   exact zcv hs6 (zK _) (zb0 hs6 (by decide)) (fun r7 hs7 _ => by rw [sk3 1 (by decide)]; cases x; exact zbO) fun e => ⟨_, rfl⟩
  ·exact zcv hs4 (zK _) (zb0 hs4 (by decide)) (fun r7 hs7 _ => by rw [sk3 1 (by decide)]; exact zbO) fun e => ⟨_, rfl⟩
 refine zcW hs (by decide) (fun t r2 e hs2 => ?_) fun _ => ?_
 ·subst e
  rw [zcu hs]
  refine zbu hs2 zbq (zdN hs2) (fun x r3 hs3 _ => ?_) fun x e => ?_
  ·refine zbu hs3 hB (h1 r3 hs3) (fun b r4 hs4 _ => ?_) fun x e => ⟨_, rfl⟩
   refine zcW hs4 (by decide) (fun t r5 e hs5 => ?_) fun _ => ?_
   ·subst e
    dsimp only
    rw [zcu hs4]
    exact zbu hs5 hB (h1 r5 hs5) (fun b2 r6 hs6 _ => by rw [sk3 6 (by decide)]; cases x; exact zbO) fun x e => ⟨_, rfl⟩
   ·rw [sk3 6 (by decide)]
    cases x
    exact zbO
  ·obtain ⟨y, hy⟩ := hF e
   dsimp only
   rw [hy]
   exact ⟨_, rfl⟩
 refine zcW hs (by decide) (fun t r2 e hs2 => ?_) fun _ => ?_
 ·subst e
  rw [zcu hs]
  refine zbu hs2 zbq (zdN hs2) (fun x r3 hs3 _ => ?_) fun x e => ?_
  ·exact zbu hs3 hB (h1 r3 hs3) (fun b r4 hs4 _ => by rw [sk3 7 (by decide)]; cases x; exact zbO) fun x e => ⟨_, rfl⟩
  ·obtain ⟨y, hy⟩ := hF e
   dsimp only
   rw [hy]
   exact ⟨_, rfl⟩
 refine zcW hs (by decide) (fun t r2 e hs2 => ?_) fun _ => ?_
 ·subst e
  rw [zcu hs]
  refine zcv hs2 (zK _) (zb0 hs2 (by decide)) (fun r3 hs3 _ => ?_) fun e => ?_
  ·refine zbu hs3 zbq (zdN hs3) (fun x r4 hs4 _ => ?_) fun x e => ⟨_, rfl⟩
   refine zcv hs4 (zK _) (zb0 hs4 (by decide)) (fun r5 hs5 _ => ?_) fun e => ⟨_, rfl⟩
   exact zcv hs5 (zK _) (zb0 hs5 (by decide)) (fun r7 hs7 _ => by rw [sk3 8 (by decide)]; cases x; exact zbO) fun e => ⟨_, rfl⟩
  ·obtain ⟨y, hy⟩ := zeu (T := T) e
   rw [hy]
   exact ⟨_, rfl⟩
 refine zcW hs (by decide) (fun t r2 e hs2 => ?_) fun _ => ?_
 ·subst e
  rw [zcu hs]
  refine zqZ (zcO hs2 (by decide)) (fun _ => ?_) fun _ => ?_
  ·exact zcv hs2 (zK _) (zb0 hs2 (by decide)) (fun r7 hs7 _ => by rw [sk3 10 (by decide)]; exact zbO) fun e => ⟨_, rfl⟩
  ·refine zbu hs2 zbq (zdN hs2) (fun x r4 hs4 _ => ?_) fun x e => ⟨_, rfl⟩
   exact zcv hs4 (zK _) (zb0 hs4 (by decide)) (fun r7 hs7 _ => by rw [sk3 10 (by decide)]; cases x; exact zbO) fun e => ⟨_, rfl⟩
 have eta : ∀ X : Option (Stm × RP), (X.bind fun c => some (c.1, c.2)) = X := fun X => by cases X <;> rfl
 rw [eta]
 exact zq3 hs ln
theorem zqa {R : RP → Option (Stm × RP)} (e : List Tok) (n : Nat) (l : List Stm) : zfB R (n + 1) T ((T.length - e.length : Nat) : Int) true l = some (l, mkR T e true) := rfl
theorem zmt {R : RP → Option (Stm × RP)} {rS : Ps Stm} (f1 : Sf rS) (f2 : Co rS) (hR : ∀ r, Suf T r → zU T (R (mkR T r false)) rS r) : ∀ (n m : Nat) (l : List Stm) (r : List Tok), r.length + 1 < n → Suf T r → l.length + r.length ≤ 1000000 → zU T (zfB R n T ((T.length - r.length : Nat) : Int) false l) (zdJ rS m l) r
 | n, 0, l, r, _, _, _ => zes
 | 0, m + 1, l, r, h, _, _ => by omega
 | n + 1, m + 1, l, r, hn, hs, hl => by
  show zU T (zg5 (zfB R n) R T ((T.length - r.length : Nat) : Int) false l) (ifH 4 [⟨#[125]⟩] (pu l) (bd rS fun s => zdJ rS m (l ++ [s]))) r
  unfold zg5
  rw [if_pos (show (!false) = true from rfl)]
  show zU T (((zbg (mkR T r false) 4 ⟨#[125]⟩).bind fun c => some (!c)).bind _) _ r
  rw [zcO hs (by decide), Option.bind_some, Option.bind_some]
  intro v hv
  unfold ifH at hv
  cases h : zI 4 [⟨#[125]⟩] r with
  | true =>
   rw [h, if_pos rfl] at hv
   rw [if_neg (by simp)]
   have hu := zb0 (x := ⟨#[125]⟩) hs (by decide)
   have e0 : zbs [⟨#[125]⟩] r = some (.ok ((), r.tail)) := by
    show bd (tk 4 [⟨#[125]⟩]) (fun _ => pu ()) r = _
    cases r with
    | nil => cases h
    | cons t r =>
     have : tk 4 [⟨#[125]⟩] (t :: r) = some (.ok (t, r)) := if_pos h
     rw [zeB this]
     rfl
   have e1 : zbt (mkR T r false) ⟨#[125]⟩ = some (mkR T r.tail false) := hu _ e0
   unfold mkR at e1
   rw [e1]
   injection hv with hv
   subst hv
   rfl
  | false =>
   rw [h, if_neg (by simp)] at hv
   rw [if_pos (show (!false) = true from rfl)]
   refine (zbu hs f1 (hR r hs) (fun x r3 hs3 he => ?_) fun x e => ?_) v hv
   ·have := f2 r x r3 he
    rw [zbY (by omega), Option.bind_some]
    have := zmt f1 f2 hR n m (l ++ [x]) r3 (by omega) hs3 (by simp; omega)
    cases x
    exact this
   ·obtain ⟨n', rfl⟩ : ∃ n', n = n' + 1 := ⟨n - 1, by omega⟩
    rw [zbY (by omega), Option.bind_some]
    exact ⟨_, rfl⟩
theorem zpI (e : List Tok) (m : Nat) : ∃ y, (zcr (m + 1)).1 (mkR T e true) = some (y, mkR T e true) := ⟨[], rfl⟩
theorem R_B : ∀ (n m : Nat), n + 10 ≤ m → ∀ r, Suf T r → zU T ((zcr m).1 (mkR T r false)) (sB n).1 r ∧ zU T ((zcr m).2 (mkR T r false)) (sB n).2 r
 | 0, m, _, r, hs => ⟨zes, zes⟩
 | n + 1, 0, h, r, hs => by omega
 | n + 1, m + 1, h, r, hs => by
  obtain ⟨f1, f2, f3⟩ := zhw n
  have a := fun r hs => R_B n m (by omega) r hs
  refine ⟨?_, ?_⟩
  ·show zU T (zhT (zcr m).1 (zcr m).2 (mkR T r false)) (zhY (sB n).2) r
   unfold zhT zhY
   refine zcv hs (zK _) (zb0 hs (by decide)) (fun r2 hs2 _ => ?_) fun e => ⟨_, zqa e _ _⟩
   exact zmt f2 f3 (fun r hs => (a r hs).2) big big [] r2 (by have := zbW hs2; have := hs2.2; have := zcB; omega) hs2 (by have := zbW hs2; have := hs2.2; simp; omega)
  ·exact zo0 (Rs := (zcr m).2) f1 (fun r hs => (a r hs).1) (fun e => by
    obtain ⟨m', rfl⟩ : ∃ m', m = m' + 1 := ⟨m - 1, by omega⟩
    exact zpI e m') hs
theorem zn3 (hs : Suf T r) : zU T (zfh (mkR T r false)) ze7 r := fun v hv =>
 (R_B 8000008 big (by have := zbC (show 8000018 ≤ 9223372036854775807 by omega); omega) r hs).1 v (zpe (by have := zbW hs; have := hs.2; omega) hv)
theorem zoc (e : List Tok) : zfh (mkR T e true) = some ([], mkR T e true) := rfl
end
end Go.Proofs.Ytnhboaaikehpoaa
