import Derived.Test.YtnhboaaikehpoaaP_12j
import Derived.KernelRfl
namespace Go.Proofs.Ytnhboaaikehpoaa
open Go.Ab Go.RowKit
set_option linter.unusedVariables false
set_option linter.unusedSimpArgs false
theorem zqg (rB : Ps (List Stm)) (r : List Tok) : zdc rB r = (ifH 3 [⟨#[118, 97, 114]⟩] (bd (zeM (qN (zcc r))) k3)
  (ifH 3 [⟨#[105, 102]⟩] (bd zb1 fun x => bd rB fun b => ifH 3 [⟨#[101, 108, 115, 101]⟩] (bd rB fun e => pu ⟨6, zcc r, ⟨#[]⟩, ⟨#[]⟩, ⟨#[]⟩, ⟨0, 0, ⟨#[]⟩⟩, [x], b, e⟩) (pu ⟨6, zcc r, ⟨#[]⟩, ⟨#[]⟩, ⟨#[]⟩, ⟨0, 0, ⟨#[]⟩⟩, [x], b, []⟩))
  (ifH 3 [⟨#[102, 111, 114]⟩] (bd zb1 fun x => bd rB fun b => pu ⟨7, zcc r, ⟨#[]⟩, ⟨#[]⟩, ⟨#[]⟩, ⟨0, 0, ⟨#[]⟩⟩, [x], b, []⟩)
  (ifH 3 [⟨#[112, 114, 105, 110, 116]⟩] (bd (zbs [⟨#[40]⟩]) fun _ => bd zb1 fun x => bd (zbs [⟨#[41]⟩]) fun _ => k3 ⟨8, zcc r, ⟨#[]⟩, ⟨#[]⟩, ⟨#[]⟩, ⟨0, 0, ⟨#[]⟩⟩, [x], [], []⟩)
  (ifH 3 [⟨#[114, 101, 116, 117, 114, 110]⟩] (ifS 4 [⟨#[59]⟩] (k3 ⟨10, zcc r, ⟨#[]⟩, ⟨#[]⟩, ⟨#[]⟩, ⟨0, 0, ⟨#[]⟩⟩, [], [], []⟩) (bd zb1 fun x => k3 ⟨10, zcc r, ⟨#[]⟩, ⟨#[]⟩, ⟨#[]⟩, ⟨0, 0, ⟨#[]⟩⟩, [x], [], []⟩))
  (bd (zdY (qN (zcc r))) k3)))))) r := by
 unfold zdc zep
 rw [zmy (a := ⟨#[102, 111, 114]⟩) (b := ⟨#[118, 97, 114]⟩) (by decide), zmy (a := ⟨#[105, 102]⟩) (b := ⟨#[118, 97, 114]⟩) (by decide)]
 rfl
theorem sk3 {c3 : Int} {T : List Tok} {p : Int} {fl : Bool} {kd : Int} {nm : BA} {a : UInt8} {b : Int} {c : BA} {ks : List zb} {bo el : List Stm} (z : UInt8) (h : u8o kd = some z) : zdh c3 T p fl kd nm a b c ks bo el = some (⟨z, c3, nm, ⟨#[]⟩, ⟨#[]⟩, ⟨a, b, c⟩, ks, bo, el⟩, ⟨T, p, fl⟩) := by
 unfold zdh
 rw [h]
 rfl
section
variable {T : List Tok} {r : List Tok} {k : Int} {tx : List BA}
theorem zl1 (hs : Suf T r) : ze0 (mkR T r false) = some (zcc r) := by
 unfold ze0 mkR
 dsimp only
 cases r with
 | nil => rw [if_neg (by simp)]; rfl
 | cons t r =>
  have := zbT hs
  rw [if_pos (zbq (by simp only [List.length_cons] at *; omega)), zeB hs]
  rfl
theorem zpM {α : Type} {x : BA} {A B : Option (α × RP)} {p q : Ps α} (hi : zbf (mkR T r false) k x = some (zI k tx r)) (hA : zI k tx r = true → zT T A p r) (hB : zI k tx r = false → zT T B q r) : zT T ((zbf (mkR T r false) k x).bind fun c => if (!c) = true then B else A) (ifS k tx p q) r := fun v hv => by
 rw [hi, Option.bind_some]
 unfold ifS at hv
 cases h : zI k tx r with
 | true => rw [h, if_pos rfl] at hv; exact hA h v hv
 | false => rw [h, if_neg (by simp)] at hv; exact hB h v hv
theorem zqV {Rb : RP → Option (List Stm × RP)} {Rs : RP → Option (Stm × RP)} {rB : Ps (List Stm)} (hB : Sf rB) (h1 : ∀ r, Suf T r → zT T (Rb (mkR T r false)) rB r) (hF : ∀ e, ∃ y, Rb (mkR T e true) = some (y, mkR T e true)) (hs : Suf T r) : zT T (zha Rb Rs (mkR T r false)) (zdc rB) r := by
 intro v hv
 rw [zqg] at hv
 revert v
 show zT T _ (ifH _ _ _ _) r
 unfold zha
 rw [zl1 hs, Option.bind_some]
 generalize zcc r = ln
 refine zcZ hs (by decide) (fun t r2 e hs2 => ?_) fun _ => ?_
 ·subst e
  rw [zct hs]
  unfold zeM
  simp only [zeU, zmA, zf5]
  refine zbu hs2 zbm (zdg hs2) (fun n r3 hs3 _ => ?_) fun x e => ⟨_, rfl⟩
  refine zbu hs3 (zcJ _) (zib hs3 true) (fun ty r4 hs4 _ => ?_) fun x e => ⟨_, rfl⟩
  refine zcZ hs4 (by decide) (fun t r5 e hs5 => ?_) fun _ => ?_
  ·subst e
   dsimp only
   rw [zct hs4]
   refine zbu hs5 zbo (zdZ hs5) (fun x r6 hs6 _ => ?_) fun x e => ⟨_, rfl⟩
   exact zcp hs6 (zJ _) (zbW hs6 (by decide)) (fun r7 hs7 _ => by rw [sk3 1 (by decide)]; cases x; exact zbL) fun e => ⟨_, rfl⟩
  ·exact zcp hs4 (zJ _) (zbW hs4 (by decide)) (fun r7 hs7 _ => by rw [sk3 1 (by decide)]; exact zbL) fun e => ⟨_, rfl⟩
 refine zcZ hs (by decide) (fun t r2 e hs2 => ?_) fun _ => ?_
 ·subst e
  rw [zct hs]
  refine zbu hs2 zbo (zdZ hs2) (fun x r3 hs3 _ => ?_) fun x e => ?_
  ·refine zbu hs3 hB (h1 r3 hs3) (fun b r4 hs4 _ => ?_) fun x e => ⟨_, rfl⟩
   refine zcZ hs4 (by decide) (fun t r5 e hs5 => ?_) fun _ => ?_
   ·subst e
    dsimp only
    rw [zct hs4]
    exact zbu hs5 hB (h1 r5 hs5) (fun b2 r6 hs6 _ => by rw [sk3 6 (by decide)]; cases x; exact zbL) fun x e => ⟨_, rfl⟩
   ·rw [sk3 6 (by decide)]
    cases x
    exact zbL
  ·obtain ⟨y, hy⟩ := hF e
   dsimp only
   rw [hy]
   exact ⟨_, rfl⟩
 refine zcZ hs (by decide) (fun t r2 e hs2 => ?_) fun _ => ?_
 ·subst e
  rw [zct hs]
  refine zbu hs2 zbo (zdZ hs2) (fun x r3 hs3 _ => ?_) fun x e => ?_
  ·exact zbu hs3 hB (h1 r3 hs3) (fun b r4 hs4 _ => by rw [sk3 7 (by decide)]; cases x; exact zbL) fun x e => ⟨_, rfl⟩
  ·obtain ⟨y, hy⟩ := hF e
   dsimp only
   rw [hy]
   exact ⟨_, rfl⟩
 refine zcZ hs (by decide) (fun t r2 e hs2 => ?_) fun _ => ?_
 ·subst e
  rw [zct hs]
  refine zcp hs2 (zJ _) (zbW hs2 (by decide)) (fun r3 hs3 _ => ?_) fun e => ?_
  ·refine zbu hs3 zbo (zdZ hs3) (fun x r4 hs4 _ => ?_) fun x e => ⟨_, rfl⟩
   refine zcp hs4 (zJ _) (zbW hs4 (by decide)) (fun r5 hs5 _ => ?_) fun e => ⟨_, rfl⟩
   exact zcp hs5 (zJ _) (zbW hs5 (by decide)) (fun r7 hs7 _ => by rw [sk3 8 (by decide)]; cases x; exact zbL) fun e => ⟨_, rfl⟩
  ·obtain ⟨y, hy⟩ := zeN (T := T) e
   rw [hy]
   exact ⟨_, rfl⟩
 refine zcZ hs (by decide) (fun t r2 e hs2 => ?_) fun _ => ?_
 ·subst e
  rw [zct hs]
  refine zpM (zcO hs2 (by decide)) (fun _ => ?_) fun _ => ?_
  ·exact zcp hs2 (zJ _) (zbW hs2 (by decide)) (fun r7 hs7 _ => by rw [sk3 10 (by decide)]; exact zbL) fun e => ⟨_, rfl⟩
  ·refine zbu hs2 zbo (zdZ hs2) (fun x r4 hs4 _ => ?_) fun x e => ⟨_, rfl⟩
   exact zcp hs4 (zJ _) (zbW hs4 (by decide)) (fun r7 hs7 _ => by rw [sk3 10 (by decide)]; cases x; exact zbL) fun e => ⟨_, rfl⟩
 have eta : ∀ X : Option (Stm × RP), (X.bind fun c => some (c.1, c.2)) = X := fun X => by cases X <;> rfl
 rw [eta]
 exact znj hs ln
theorem znl {R : RP → Option (Stm × RP)} (e : List Tok) (n : Nat) (l : List Stm) : zfg R (n + 1) T ((T.length - e.length : Nat) : Int) true l = some (l, mkR T e true) := rfl
theorem zmt {R : RP → Option (Stm × RP)} {rS : Ps Stm} (f1 : Sf rS) (f2 : Co rS) (hR : ∀ r, Suf T r → zT T (R (mkR T r false)) rS r) : ∀ (n m : Nat) (l : List Stm) (r : List Tok), r.length + 1 < n → Suf T r → l.length + r.length ≤ 1000000 → zT T (zfg R n T ((T.length - r.length : Nat) : Int) false l) (zdF rS m l) r
 | n, 0, l, r, _, _, _ => zei
 | 0, m + 1, l, r, h, _, _ => by omega
 | n + 1, m + 1, l, r, hn, hs, hl => by
  show zT T (zg6 (zfg R n) R T ((T.length - r.length : Nat) : Int) false l) (ifH 4 [⟨#[125]⟩] (pu l) (bd rS fun s => zdF rS m (l ++ [s]))) r
  unfold zg6
  rw [if_pos (show (!false) = true from rfl)]
  show zT T (((zbf (mkR T r false) 4 ⟨#[125]⟩).bind fun c => some (!c)).bind _) _ r
  rw [zcO hs (by decide), Option.bind_some, Option.bind_some]
  intro v hv
  unfold ifH at hv
  cases h : zI 4 [⟨#[125]⟩] r with
  | true =>
   rw [h, if_pos rfl] at hv
   rw [if_neg (by simp)]
   have hu := zbW (x := ⟨#[125]⟩) hs (by decide)
   have e0 : zbs [⟨#[125]⟩] r = some (.ok ((), r.tail)) := by
    show bd (tk 4 [⟨#[125]⟩]) (fun _ => pu ()) r = _
    cases r with
    | nil => cases h
    | cons t r =>
     have : tk 4 [⟨#[125]⟩] (t :: r) = some (.ok (t, r)) := if_pos h
     rw [zeI this]
     rfl
   have e1 : zbr (mkR T r false) ⟨#[125]⟩ = some (mkR T r.tail false) := hu _ e0
   unfold mkR at e1
   rw [e1]
   injection hv with hv
   subst hv
   rfl
  | false =>
   rw [h, if_neg (by simp)] at hv
   rw [if_pos (show (!false) = true from rfl)]
   refine (zbu hs f1 (hR r hs) (fun x r3 hs3 he => ?_) fun x e => ?_) v hv
   ·have := f2 r x r3 he
    rw [zbV (by omega), Option.bind_some]
    have := zmt f1 f2 hR n m (l ++ [x]) r3 (by omega) hs3 (by simp; omega)
    cases x
    exact this
   ·obtain ⟨n', rfl⟩ : ∃ n', n = n' + 1 := ⟨n - 1, by omega⟩
    rw [zbV (by omega), Option.bind_some]
    exact ⟨_, rfl⟩
theorem znQ (e : List Tok) (m : Nat) : ∃ y, (zcv (m + 1)).1 (mkR T e true) = some (y, mkR T e true) := ⟨[], rfl⟩
theorem R_B : ∀ (n m : Nat), n + 10 ≤ m → ∀ r, Suf T r → zT T ((zcv m).1 (mkR T r false)) (sB n).1 r ∧ zT T ((zcv m).2 (mkR T r false)) (sB n).2 r
 | 0, m, _, r, hs => ⟨zei, zei⟩
 | n + 1, 0, h, r, hs => by omega
 | n + 1, m + 1, h, r, hs => by
  obtain ⟨f1, f2, f3⟩ := zgi n
  have a := fun r hs => R_B n m (by omega) r hs
  refine ⟨?_, ?_⟩
  ·show zT T (zhp (zcv m).1 (zcv m).2 (mkR T r false)) (zg3 (sB n).2) r
   unfold zhp zg3
   refine zcp hs (zJ _) (zbW hs (by decide)) (fun r2 hs2 _ => ?_) fun e => ⟨_, znl e _ _⟩
   exact zmt f2 f3 (fun r hs => (a r hs).2) big big [] r2 (by have := zbT hs2; have := hs2.2; have := zcy; omega) hs2 (by have := zbT hs2; have := hs2.2; simp; omega)
  ·exact zqV (Rs := (zcv m).2) f1 (fun r hs => (a r hs).1) (fun e => by
    obtain ⟨m', rfl⟩ : ∃ m', m = m' + 1 := ⟨m - 1, by omega⟩
    exact znQ e m') hs
theorem zou (hs : Suf T r) : zT T (zfl (mkR T r false)) zfk r := fun v hv =>
 (R_B 8000008 big (by have := zbM (show 8000018 ≤ 9223372036854775807 by omega); omega) r hs).1 v (zq8 (by have := zbT hs; have := hs.2; omega) hv)
theorem zo4 (e : List Tok) : zfl (mkR T e true) = some ([], mkR T e true) := rfl
end
end Go.Proofs.Ytnhboaaikehpoaa
