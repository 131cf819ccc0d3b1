import Derived.Test.YtnhboaaikehpoaaP_12l
import Derived.KernelRfl
namespace Go.Proofs.Ytnhboaaikehpoaa
open Go.Ab Go.RowKit
set_option linter.unusedVariables false
set_option linter.unusedSimpArgs false
abbrev Ans := zL × Int × Int
abbrev R14 := List Tok → Int → Bool → List zl → List zi → Option Ans
def KF (T : List Tok) (rec14 : R14) (S : List zl) (D : List zi) (X : Option Ans) : Rs zl → Prop
 | .error e => ∃ S', X = rec14 T ((T.length - e.length : Nat) : Int) true S' D
 | .ok (x, r') => X = rec14 T ((T.length - r'.length : Nat) : Int) false (S ++ [x]) D
def KD (T : List Tok) (rec14 : R14) (S : List zl) (D : List zi) (X : Option Ans) : Rs zi → Prop
 | .error e => ∃ D', X = rec14 T ((T.length - e.length : Nat) : Int) true S D'
 | .ok (x, r') => X = rec14 T ((T.length - r'.length : Nat) : Int) false S (D ++ [x])
section
variable {T : List Tok} {r : List Tok} {S : List zl} {D : List zi} {rec14 : R14}
theorem zfH (c : BA × RP) (e : List Tok) (n : Nat) (l : List BA) (hS : S.length ≤ 1000000) : zeP rec14 c (n + 1) T ((T.length - e.length : Nat) : Int) true S D l = rec14 T ((T.length - e.length : Nat) : Int) true (S ++ [⟨c.1, l⟩]) D := by
 show ((room (S.length + 1)).bind fun _ => _) = _
 rw [zbO (by omega), Option.bind_some]
theorem zlF (c : BA × RP) (hS : S.length ≤ 1000000) : ∀ (n m : Nat) (l : List BA) (r : List Tok), r.length + 1 < n → Suf T r → l.length + r.length ≤ 1000000 → zdE (KF T rec14 S D) (zeP rec14 c n T ((T.length - r.length : Nat) : Int) false S D l) (fL c.1 m l) r
 | n, 0, l, r, _, _, _ => fun v h => by cases h
 | 0, m + 1, l, r, h, _, _ => by omega
 | n + 1, m + 1, l, r, hn, hs, hl => by
  obtain ⟨n', rfl⟩ : ∃ n', n = n' + 1 := ⟨n - 1, by omega⟩
  show zdE (KF T rec14 S D) (zkE (zeP rec14 c (n' + 1)) rec14 c T ((T.length - r.length : Nat) : Int) false S D l) (ifH 4 [⟨#[125]⟩] (pu ⟨c.1, l⟩) (bd zbQ fun f => bd (tk 3 [⟨#[105, 110, 116]⟩]) fun _ => bd (zbu [⟨#[59]⟩]) fun _ => fL c.1 m (l ++ [f]))) r
  unfold zkE
  rw [if_pos (show (!false) = true from rfl)]
  show zdE (KF T rec14 S D) (((zbk (mkR T r false) 4 ⟨#[125]⟩).bind fun c => some (!c)).bind fun c736 => if c736 = true then (zcX (mkR T r false)).bind fun c744 => (room (l.length + 1)).bind fun _ => (zdo c744.2 (⟨#[105, 110, 116]⟩ : ByteArray)).bind fun c761 => (zbA c761 (⟨#[59]⟩ : ByteArray)).bind fun c769 => zeP rec14 c (n' + 1) c769.L c769.At c769.Failed S D (l ++ [c744.1]) else (zbA (mkR T r false) (⟨#[125]⟩ : ByteArray)).bind fun c777 => (room (S.length + 1)).bind fun _ => rec14 c777.L c777.At c777.Failed (S ++ [⟨c.1, l⟩]) D) _ r
  rw [zcS hs (by decide), Option.bind_some, Option.bind_some]
  intro v hv
  unfold ifH at hv
  cases h : zz 4 [⟨#[125]⟩] r with
  | true =>
   rw [h, if_pos rfl] at hv
   rw [if_neg (by simp), zi0 hs (by decide) h, Option.bind_some, zbO (by omega), Option.bind_some]
   injection hv with hv
   subst hv
   rfl
  | false =>
   rw [h, if_neg (by simp)] at hv
   rw [if_pos (show (!false) = true from rfl)]
   refine (ziW hs zbl (zdz hs) (fun nm r2 hs2 he => ?_) fun x e => ?_) v hv
   ·rw [zbO (by omega), Option.bind_some]
    refine zjG hs2 (by decide) (fun t r3 hs3 he3 => ?_) fun e => ⟨_, zfH c e n' _ hS⟩
    refine zlD hs3 (zG _) (zb4 hs3 (by decide)) (fun r4 hs4 he4 => ?_) fun e => ⟨_, zfH c e n' _ hS⟩
    have h1 := zd2 r nm r2 he
    have h2 := (zbC _ _).le he3
    have h3 := (zG _).le he4
    have h2 : r3.length ≤ r2.length := h2
    have h3 : r4.length ≤ r3.length := h3
    exact zlF c hS (n' + 1) m (l ++ [nm]) r4 (by omega) hs4 (by simp; omega)
   ·rw [zbO (by omega), Option.bind_some]
    exact ⟨_, zfH c e n' _ hS⟩
theorem zlE (e : List Tok) (n : Nat) (S : List zl) (D : List zi) : zdc T (n + 1) T ((T.length - e.length : Nat) : Int) true S D = some (zb6 T (.error e)) := rfl
theorem zjv : ∀ (n m : Nat) (S : List zl) (D : List zi) (r : List Tok), r.length + 1 < n → Suf T r → S.length + D.length + r.length ≤ 1000000 → (∀ d ∈ D, zK d.Body ≤ 1000000000) → ∀ v, wL m S D r = some v → zdc T n T ((T.length - r.length : Nat) : Int) false S D = some (zb6 T v)
 | n, 0, S, D, r, _, _, _, _, v, h => by cases h
 | 0, m + 1, S, D, r, h, _, _, _, v, _ => by omega
 | n + 1, m + 1, S, D, [], hn, hs, hl, hD, v, hv => by
  injection hv with hv
  subst hv
  show zg1 (zdc T n) T T _ false S D = _
  unfold zg1
  rw [if_neg (by simp), if_neg (by simp), zqv (by omega) hD, Option.bind_some]
  unfold zb6
  dsimp only
  split <;> rfl
 | n + 1, m + 1, S, D, t :: r, hn, hs, hl, hD, v, hv => by
  obtain ⟨n', rfl⟩ : ∃ n', n = n' + 1 := ⟨n - 1, by omega⟩
  have h0 := zb3 hs
  have hT := hs.2
  simp only [List.length_cons] at hl h0 hn
  show zg1 (zdc T (n' + 1)) T T ((T.length - (t :: r).length : Nat) : Int) false S D = _
  unfold zg1
  rw [if_pos (by simp; omega)]
  show ((zbk (mkR T (t :: r) false) 3 (⟨#[116, 121, 112, 101]⟩ : ByteArray)).bind fun c562 => if c562 = true then (zcX (⟨(mkR T (t :: r) false).L, IntKind.i64.wrap ((mkR T (t :: r) false).At + 1), (mkR T (t :: r) false).Failed⟩ : zq)).bind fun c567 => (zdo c567.2 (⟨#[115, 116, 114, 117, 99, 116]⟩ : ByteArray)).bind fun c576 => (zbA c576 (⟨#[123]⟩ : ByteArray)).bind fun c584 => zeP (zdc T (n' + 1)) c567 big c584.L c584.At c584.Failed S D ([]) else (zg0 (mkR T (t :: r) false)).bind fun c792 => (zdo (mkR T (t :: r) false) (⟨#[102, 117, 110, 99]⟩ : ByteArray)).bind fun c796 => (zfJ c796 c792).bind fun c804 => (room (D.length + 1)).bind fun _ => zdc T (n' + 1) c804.2.L c804.2.At c804.2.Failed S (D ++ ([(⟨c804.1.Name, c804.1.Line, c804.1.Params, (⟨c804.1.Result.Kind, c804.1.Result.N, c804.1.Result.Name⟩ : zI), c804.1.Body⟩ : zi)] : List zi))) = _
  rw [zcS hs (by decide), Option.bind_some, zcy hs, zlW hs]
  unfold wL at hv
  by_cases h : zz 3 [⟨#[116, 121, 112, 101]⟩] (t :: r) = true
  ·rw [if_pos h] at hv
   rw [if_pos h]
   have key : zdE (KF T (zdc T (n' + 1)) S D) ((zcX (mkR T r false)).bind fun c567 => (zdo c567.2 (⟨#[115, 116, 114, 117, 99, 116]⟩ : ByteArray)).bind fun c576 => (zbA c576 (⟨#[123]⟩ : ByteArray)).bind fun c584 => zeP (zdc T (n' + 1)) c567 big c584.L c584.At c584.Failed S D ([])) zdU r := by
    unfold zdU
    refine ziW hs.tail zbl (zdz hs.tail) (fun nm r2 hs2 he => ?_) fun x e => ⟨_, zfH (x, mkR T e true) e (big - 1) [] (by omega)⟩
    refine zjG hs2 (by decide) (fun t r3 hs3 he3 => ?_) fun e => ⟨_, zfH _ e _ _ (by omega)⟩
    refine zlD hs3 (zG _) (zb4 hs3 (by decide)) (fun r4 hs4 he4 => ?_) fun e => ⟨_, zfH _ e _ _ (by omega)⟩
    exact zlF (nm, mkR T r2 false) (by omega) big big [] r4 (by have := zb3 hs4; have := zco; omega) hs4 (by have := zb3 hs4; simp; omega)
   split at hv
   ·cases hv
   ·rename_i e he
    injection hv with hv
    subst hv
    obtain ⟨S', hX⟩ := key _ he
    rw [hX]
    exact zlE e n' S' D
   ·rename_i x r' he
    have hX := key _ he
    have hX : _ = zdc T (n' + 1) T ((T.length - r'.length : Nat) : Int) false (S ++ [x]) D := hX
    rw [hX]
    have := zhb r x r' he
    exact zjv (n' + 1) m (S ++ [x]) D r' (by omega) (hs.tail.of (zi2 r _ he)) (by simp; omega) hD v hv
  ·rw [if_neg h] at hv
   rw [if_neg h, Option.bind_some]
   have key : zdE (KD T (zdc T (n' + 1)) S D) ((zdo (mkR T (t :: r) false) (⟨#[102, 117, 110, 99]⟩ : ByteArray)).bind fun c796 => (zfJ c796 (zb9 (t :: r))).bind fun c804 => (room (D.length + 1)).bind fun _ => zdc T (n' + 1) c804.2.L c804.2.At c804.2.Failed S (D ++ ([(⟨c804.1.Name, c804.1.Line, c804.1.Params, (⟨c804.1.Result.Kind, c804.1.Result.N, c804.1.Result.Name⟩ : zI), c804.1.Body⟩ : zi)] : List zi))) zdk (t :: r) := by
    intro v hv
    unfold zdk at hv
    revert v
    refine zjG hs (by decide) (fun t2 r3 hs3 he3 => ?_) fun e => ?_
    ·have eta : ∀ {p : Ps zi}, bd p (fun x => pu x) = p := fun {p} => by
      funext r
      unfold bd pu
      cases p r with
      | none => rfl
      | some v => cases v <;> rfl
     rw [← eta (p := bd zbQ _)]
     refine ziW hs3 (zy zbl fun _ => zy (zG _) fun _ => zbS (zf3 _ _ _) (zy zdl fun _ => zhM _ _ _ _)) (zo1 _ hs3) (fun x r4 hs4 _ => ?_) fun x e => ?_
     ·intro v hv
      injection hv with hv
      subst hv
      rw [zbO (by omega), Option.bind_some]
      rfl
     ·rw [zbO (by omega), Option.bind_some]
      exact ⟨_, rfl⟩
    ·obtain ⟨y, hy⟩ := zpa (T := T) (zb9 (t :: r)) e
     rw [hy, Option.bind_some, zbO (by omega), Option.bind_some]
     exact ⟨_, rfl⟩
   split at hv
   ·cases hv
   ·rename_i e he
    injection hv with hv
    subst hv
    obtain ⟨D', hX⟩ := key _ he
    rw [hX]
    exact zlE e n' S D'
   ·rename_i x r' he
    have hX := key _ he
    have hX : _ = zdc T (n' + 1) T ((T.length - r'.length : Nat) : Int) false S (D ++ [x]) := hX
    rw [hX]
    have h1 := zgP (t :: r) x r' he
    have h2 := zje (t :: r) x r' he
    simp only [List.length_cons] at h1 h2
    refine zjv (n' + 1) m S (D ++ [x]) r' (by omega) (hs.of (ziC _ _ he)) (by simp; omega) (fun d hd => ?_) v hv
    rw [List.mem_append, List.mem_singleton] at hd
    cases hd with
    | inl hd => exact hD d hd
    | inr hd =>
     subst hd
     unfold szD at h2
     omega
end
theorem zkK {T : List Tok} (hT : T.length ≤ 1000000) : ∃ v, zc1 T = some v ∧ zdM T = some (zb6 T v) ∧ zpO T = some (zb6 T v) := by
 obtain ⟨v, hv, hp⟩ := zrB hT
 refine ⟨v, hv, hp, ?_⟩
 have := zjv (T := T) big big [] [] T (by have := zco; omega) ⟨⟨[], rfl⟩, hT⟩ (by simpa using hT) (fun d hd => by cases hd) v hv
 rw [Nat.sub_self] at this
 exact this
end Go.Proofs.Ytnhboaaikehpoaa
