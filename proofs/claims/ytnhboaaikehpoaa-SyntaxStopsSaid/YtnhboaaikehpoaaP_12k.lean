import Derived.Test.YtnhboaaikehpoaaP_12j
import Derived.KernelRfl
namespace Go.Proofs.Ytnhboaaikehpoaa
open Go.Ab Go.RowKit
set_option linter.unusedVariables false
set_option linter.unusedSimpArgs false
theorem znW (rB : Ps (List Stm)) (r : List Tok) : zcZ rB r = (ifH 3 [⟨#[118, 97, 114]⟩] (bd (zel (qN (zbO r))) k3)
  (ifH 3 [⟨#[105, 102]⟩] (bd zbI fun x => bd rB fun b => ifH 3 [⟨#[101, 108, 115, 101]⟩] (bd rB fun e => pu ⟨6, zbO r, ⟨#[]⟩, ⟨#[]⟩, ⟨#[]⟩, ⟨0, 0, ⟨#[]⟩⟩, [x], b, e⟩) (pu ⟨6, zbO r, ⟨#[]⟩, ⟨#[]⟩, ⟨#[]⟩, ⟨0, 0, ⟨#[]⟩⟩, [x], b, []⟩))
  (ifH 3 [⟨#[102, 111, 114]⟩] (bd zbI fun x => bd rB fun b => pu ⟨7, zbO r, ⟨#[]⟩, ⟨#[]⟩, ⟨#[]⟩, ⟨0, 0, ⟨#[]⟩⟩, [x], b, []⟩)
  (ifH 3 [⟨#[112, 114, 105, 110, 116]⟩] (bd (zbd [⟨#[40]⟩]) fun _ => bd zbI fun x => bd (zbd [⟨#[41]⟩]) fun _ => k3 ⟨8, zbO r, ⟨#[]⟩, ⟨#[]⟩, ⟨#[]⟩, ⟨0, 0, ⟨#[]⟩⟩, [x], [], []⟩)
  (ifH 3 [⟨#[114, 101, 116, 117, 114, 110]⟩] (ifS 4 [⟨#[59]⟩] (k3 ⟨10, zbO r, ⟨#[]⟩, ⟨#[]⟩, ⟨#[]⟩, ⟨0, 0, ⟨#[]⟩⟩, [], [], []⟩) (bd zbI fun x => k3 ⟨10, zbO r, ⟨#[]⟩, ⟨#[]⟩, ⟨#[]⟩, ⟨0, 0, ⟨#[]⟩⟩, [x], [], []⟩))
  (bd (zdJ (qN (zbO r))) k3)))))) r := by
 unfold zcZ zdB
 rw [zk8 (a := ⟨#[102, 111, 114]⟩) (b := ⟨#[118, 97, 114]⟩) (by decide), zk8 (a := ⟨#[105, 102]⟩) (b := ⟨#[118, 97, 114]⟩) (by decide)]
 rfl
theorem sk3 {c3 : Int} {T : List Tok} {p : Int} {fl : Bool} {kd : Int} {nm : BA} {a : UInt8} {b : Int} {c : BA} {ks : List za} {bo el : List Stm} (z : UInt8) (h : u8o kd = some z) : zdY c3 T p fl kd nm a b c ks bo el = some (⟨z, c3, nm, ⟨#[]⟩, ⟨#[]⟩, ⟨a, b, c⟩, ks, bo, el⟩, ⟨T, p, fl⟩) := by
 unfold zdY
 rw [h]
 rfl
section
variable {T : List Tok} {r : List Tok} {k : Int} {tx : List BA}
theorem zlb (hs : Suf T r) : zgA (mkR T r false) = some (zbO r) := by
 unfold zgA mkR
 dsimp only
 cases r with
 | nil => rw [if_neg (by simp)]; rfl
 | cons t r =>
  have := zbM hs
  rw [if_pos (zbo (by simp only [List.length_cons] at *; omega)), zeA hs]
  rfl
theorem zpY {α : Type} {x : BA} {A B : Option (α × RP)} {p q : Ps α} (hi : z7 (mkR T r false) k x = some (zs k tx r)) (hA : zs k tx r = true → zG T A p r) (hB : zs k tx r = false → zG T B q r) : zG T ((z7 (mkR T r false) k x).bind fun c => if (!c) = true then B else A) (ifS k tx p q) r := fun v hv => by
 rw [hi, Option.bind_some]
 unfold ifS at hv
 cases h : zs k tx r with
 | true => rw [h, if_pos rfl] at hv; exact hA h v hv
 | false => rw [h, if_neg (by simp)] at hv; exact hB h v hv
theorem zrd {Rb : RP → Option (List Stm × RP)} {Rs : RP → Option (Stm × RP)} {rB : Ps (List Stm)} (hB : Sf rB) (h1 : ∀ r, Suf T r → zG T (Rb (mkR T r false)) rB r) (hF : ∀ e, ∃ y, Rb (mkR T e true) = some (y, mkR T e true)) (hs : Suf T r) : zG T (zjj Rb Rs (mkR T r false)) (zcZ rB) r := by
 intro v hv
 rw [znW] at hv
 revert v
 show zG T _ (ifH _ _ _ _) r
 unfold zjj
 rw [zlb hs, Option.bind_some]
 generalize zbO r = ln
 refine zcP hs (by decide) (fun t r2 e hs2 => ?_) fun _ => ?_
 ·subst e
  rw [zcg hs]
  unfold zel
  simp only [ze9, znn, zfs]
  refine zbh hs2 z9 (zdf hs2) (fun n r3 hs3 _ => ?_) fun x e => ⟨_, rfl⟩
  refine zbh hs3 (zcO _) (ziv hs3 true) (fun ty r4 hs4 _ => ?_) fun x e => ⟨_, rfl⟩
  refine zcP hs4 (by decide) (fun t r5 e hs5 => ?_) fun _ => ?_
  ·subst e
   dsimp only
   rw [zcg hs4]
   refine zbh hs5 zbb (zdO hs5) (fun x r6 hs6 _ => ?_) fun x e => ⟨_, rfl⟩
   exact zb7 hs6 (zy _) (zbN hs6 (by decide)) (fun r7 hs7 _ => by rw [sk3 1 (by decide)]; cases x; exact zbE) fun e => ⟨_, rfl⟩
  ·exact zb7 hs4 (zy _) (zbN hs4 (by decide)) (fun r7 hs7 _ => by rw [sk3 1 (by decide)]; exact zbE) fun e => ⟨_, rfl⟩
 refine zcP hs (by decide) (fun t r2 e hs2 => ?_) fun _ => ?_
 ·subst e
  rw [zcg hs]
  refine zbh hs2 zbb (zdO hs2) (fun x r3 hs3 _ => ?_) fun x e => ?_
  ·refine zbh hs3 hB (h1 r3 hs3) (fun b r4 hs4 _ => ?_) fun x e => ⟨_, rfl⟩
   refine zcP hs4 (by decide) (fun t r5 e hs5 => ?_) fun _ => ?_
   ·subst e
    dsimp only
    rw [zcg hs4]
    exact zbh hs5 hB (h1 r5 hs5) (fun b2 r6 hs6 _ => by rw [sk3 6 (by decide)]; cases x; exact zbE) fun x e => ⟨_, rfl⟩
   ·rw [sk3 6 (by decide)]
    cases x
    exact zbE
  ·obtain ⟨y, hy⟩ := hF e
   dsimp only
   rw [hy]
   exact ⟨_, rfl⟩
 refine zcP hs (by decide) (fun t r2 e hs2 => ?_) fun _ => ?_
 ·subst e
  rw [zcg hs]
  refine zbh hs2 zbb (zdO hs2) (fun x r3 hs3 _ => ?_) fun x e => ?_
  ·exact zbh hs3 hB (h1 r3 hs3) (fun b r4 hs4 _ => by rw [sk3 7 (by decide)]; cases x; exact zbE) fun x e => ⟨_, rfl⟩
  ·obtain ⟨y, hy⟩ := hF e
   dsimp only
   rw [hy]
   exact ⟨_, rfl⟩
 refine zcP hs (by decide) (fun t r2 e hs2 => ?_) fun _ => ?_
 ·subst e
  rw [zcg hs]
  refine zb7 hs2 (zy _) (zbN hs2 (by decide)) (fun r3 hs3 _ => ?_) fun e => ?_
  ·refine zbh hs3 zbb (zdO hs3) (fun x r4 hs4 _ => ?_) fun x e => ⟨_, rfl⟩
   refine zb7 hs4 (zy _) (zbN hs4 (by decide)) (fun r5 hs5 _ => ?_) fun e => ⟨_, rfl⟩
   exact zb7 hs5 (zy _) (zbN hs5 (by decide)) (fun r7 hs7 _ => by rw [sk3 8 (by decide)]; cases x; exact zbE) fun e => ⟨_, rfl⟩
  ·obtain ⟨y, hy⟩ := zeu (T := T) e
   rw [hy]
   exact ⟨_, rfl⟩
 refine zcP hs (by decide) (fun t r2 e hs2 => ?_) fun _ => ?_
 ·subst e
  rw [zcg hs]
  refine zpY (zcB hs2 (by decide)) (fun _ => ?_) fun _ => ?_
  ·exact zb7 hs2 (zy _) (zbN hs2 (by decide)) (fun r7 hs7 _ => by rw [sk3 10 (by decide)]; exact zbE) fun e => ⟨_, rfl⟩
  ·refine zbh hs2 zbb (zdO hs2) (fun x r4 hs4 _ => ?_) fun x e => ⟨_, rfl⟩
   exact zb7 hs4 (zy _) (zbN hs4 (by decide)) (fun r7 hs7 _ => by rw [sk3 10 (by decide)]; cases x; exact zbE) fun e => ⟨_, rfl⟩
 have eta : ∀ X : Option (Stm × RP), (X.bind fun c => some (c.1, c.2)) = X := fun X => by cases X <;> rfl
 rw [eta]
 exact zn9 hs ln
theorem zpr {R : RP → Option (Stm × RP)} (e : List Tok) (n : Nat) (l : List Stm) : zhj R (n + 1) T ((T.length - e.length : Nat) : Int) true l = some (l, mkR T e true) := rfl
theorem znj {R : RP → Option (Stm × RP)} {rS : Ps Stm} (f1 : Sf rS) (f2 : Co rS) (hR : ∀ r, Suf T r → zG T (R (mkR T r false)) rS r) : ∀ (n m : Nat) (l : List Stm) (r : List Tok), r.length + 1 < n → Suf T r → l.length + r.length ≤ 1000000 → zG T (zhj R n T ((T.length - r.length : Nat) : Int) false l) (zcW rS m l) r
 | n, 0, l, r, _, _, _ => zeb
 | 0, m + 1, l, r, h, _, _ => by omega
 | n + 1, m + 1, l, r, hn, hs, hl => by
  show zG T (zj4 (zhj R n) R T ((T.length - r.length : Nat) : Int) false l) (ifH 4 [⟨#[125]⟩] (pu l) (bd rS fun s => zcW rS m (l ++ [s]))) r
  unfold zj4
  rw [if_pos (show (!false) = true from rfl)]
  show zG T (((z7 (mkR T r false) 4 ⟨#[125]⟩).bind fun c => some (!c)).bind _) _ r
  rw [zcB hs (by decide), Option.bind_some, Option.bind_some]
  intro v hv
  unfold ifH at hv
  cases h : zs 4 [⟨#[125]⟩] r with
  | true =>
   rw [h, if_pos rfl] at hv
   rw [if_neg (by simp)]
   have hu := zbN (x := ⟨#[125]⟩) hs (by decide)
   have e0 : zbd [⟨#[125]⟩] r = some (.ok ((), r.tail)) := by
    show bd (tk 4 [⟨#[125]⟩]) (fun _ => pu ()) r = _
    cases r with
    | nil => cases h
    | cons t r =>
     have : tk 4 [⟨#[125]⟩] (t :: r) = some (.ok (t, r)) := if_pos h
     rw [zdz this]
     rfl
   have e1 : zbi (mkR T r false) ⟨#[125]⟩ = some (mkR T r.tail false) := hu _ e0
   unfold mkR at e1
   rw [e1]
   injection hv with hv
   subst hv
   rfl
  | false =>
   rw [h, if_neg (by simp)] at hv
   rw [if_pos (show (!false) = true from rfl)]
   refine (zbh hs f1 (hR r hs) (fun x r3 hs3 he => ?_) fun x e => ?_) v hv
   ·have := f2 r x r3 he
    rw [zbJ (by omega), Option.bind_some]
    have := znj f1 f2 hR n m (l ++ [x]) r3 (by omega) hs3 (by simp; omega)
    cases x
    exact this
   ·obtain ⟨n', rfl⟩ : ∃ n', n = n' + 1 := ⟨n - 1, by omega⟩
    rw [zbJ (by omega), Option.bind_some]
    exact ⟨_, rfl⟩
theorem zpn (e : List Tok) (m : Nat) : ∃ y, (zdy (m + 1)).1 (mkR T e true) = some (y, mkR T e true) := ⟨[], rfl⟩
theorem R_B : ∀ (n m : Nat), n + 10 ≤ m → ∀ r, Suf T r → zG T ((zdy m).1 (mkR T r false)) (sB n).1 r ∧ zG T ((zdy m).2 (mkR T r false)) (sB n).2 r
 | 0, m, _, r, hs => ⟨zeb, zeb⟩
 | n + 1, 0, h, r, hs => by omega
 | n + 1, m + 1, h, r, hs => by
  obtain ⟨f1, f2, f3⟩ := zeO n
  have a := fun r hs => R_B n m (by omega) r hs
  refine ⟨?_, ?_⟩
  ·show zG T (zkp (zdy m).1 (zdy m).2 (mkR T r false)) (zgP (sB n).2) r
   unfold zkp zgP
   refine zb7 hs (zy _) (zbN hs (by decide)) (fun r2 hs2 _ => ?_) fun e => ⟨_, zpr e _ _⟩
   exact znj f2 f3 (fun r hs => (a r hs).2) big big [] r2 (by have := zbM hs2; have := hs2.2; have := zbZ; omega) hs2 (by have := zbM hs2; have := hs2.2; simp; omega)
  ·exact zrd (Rs := (zdy m).2) f1 (fun r hs => (a r hs).1) (fun e => by
    obtain ⟨m', rfl⟩ : ∃ m', m = m' + 1 := ⟨m - 1, by omega⟩
    exact zpn e m') hs
theorem zoc (hs : Suf T r) : zG T (zfV (mkR T r false)) zd0 r := fun v hv =>
 (R_B 8000008 big (by have := zb9 (show 8000018 ≤ 9223372036854775807 by omega); omega) r hs).1 v (zqR (by have := zbM hs; have := hs.2; omega) hv)
theorem zo7 (e : List Tok) : zfV (mkR T e true) = some ([], mkR T e true) := rfl
end
end Go.Proofs.Ytnhboaaikehpoaa
