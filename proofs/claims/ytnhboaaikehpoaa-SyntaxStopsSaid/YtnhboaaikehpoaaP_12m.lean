import Derived.Test.YtnhboaaikehpoaaP_12l
import Derived.KernelRfl
namespace Go.Proofs.Ytnhboaaikehpoaa
open Go.Ab Go.RowKit
set_option linter.unusedVariables false
set_option linter.unusedSimpArgs false
abbrev Ans := zN × Int × Int
abbrev R14 := List Tok → Int → Bool → List zo → List zi → Option Ans
def KF (T : List Tok) (rec14 : R14) (S : List zo) (D : List zi) (X : Option Ans) : Rs zo → Prop
 | .error e => ∃ S', X = rec14 T ((T.length - e.length : Nat) : Int) true S' D
 | .ok (x, r') => X = rec14 T ((T.length - r'.length : Nat) : Int) false (S ++ [x]) D
def KD (T : List Tok) (rec14 : R14) (S : List zo) (D : List zi) (X : Option Ans) : Rs zi → Prop
 | .error e => ∃ D', X = rec14 T ((T.length - e.length : Nat) : Int) true S D'
 | .ok (x, r') => X = rec14 T ((T.length - r'.length : Nat) : Int) false S (D ++ [x])
section
variable {T : List Tok} {r : List Tok} {S : List zo} {D : List zi} {rec14 : R14}
theorem zf0 (c : BA × RP) (e : List Tok) (n : Nat) (l : List BA) (hS : S.length ≤ 1000000) : zev rec14 c (n + 1) T ((T.length - e.length : Nat) : Int) true S D l = rec14 T ((T.length - e.length : Nat) : Int) true (S ++ [⟨c.1, l⟩]) D := by
 show ((room (S.length + 1)).bind fun _ => _) = _
 rw [zbJ (by omega), Option.bind_some]
theorem zmR (c : BA × RP) (hS : S.length ≤ 1000000) : ∀ (n m : Nat) (l : List BA) (r : List Tok), r.length + 1 < n → Suf T r → l.length + r.length ≤ 1000000 → zdK (KF T rec14 S D) (zev rec14 c n T ((T.length - r.length : Nat) : Int) false S D l) (fL c.1 m l) r
 | n, 0, l, r, _, _, _ => fun v h => by cases h
 | 0, m + 1, l, r, h, _, _ => by omega
 | n + 1, m + 1, l, r, hn, hs, hl => by
  obtain ⟨n', rfl⟩ : ∃ n', n = n' + 1 := ⟨n - 1, by omega⟩
  show zdK (KF T rec14 S D) (zjA (zev rec14 c (n' + 1)) rec14 c T ((T.length - r.length : Nat) : Int) false S D l) (ifH 4 [⟨#[125]⟩] (pu ⟨c.1, l⟩) (bd zbB fun f => bd (tk 3 [⟨#[105, 110, 116]⟩]) fun _ => bd (zbd [⟨#[59]⟩]) fun _ => fL c.1 m (l ++ [f]))) r
  unfold zjA
  rw [if_pos (show (!false) = true from rfl)]
  show zdK (KF T rec14 S D) (((z7 (mkR T r false) 4 ⟨#[125]⟩).bind fun c => some (!c)).bind fun c736 => if c736 = true then (zcM (mkR T r false)).bind fun c744 => (room (l.length + 1)).bind fun _ => (zde c744.2 (⟨#[105, 110, 116]⟩ : ByteArray)).bind fun c761 => (zbi c761 (⟨#[59]⟩ : ByteArray)).bind fun c769 => zev rec14 c (n' + 1) c769.L c769.At c769.Failed S D (l ++ [c744.1]) else (zbi (mkR T r false) (⟨#[125]⟩ : ByteArray)).bind fun c777 => (room (S.length + 1)).bind fun _ => rec14 c777.L c777.At c777.Failed (S ++ [⟨c.1, l⟩]) D) _ r
  rw [zcB hs (by decide), Option.bind_some, Option.bind_some]
  intro v hv
  unfold ifH at hv
  cases h : zs 4 [⟨#[125]⟩] r with
  | true =>
   rw [h, if_pos rfl] at hv
   rw [if_neg (by simp), ziE hs (by decide) h, Option.bind_some, zbJ (by omega), Option.bind_some]
   injection hv with hv
   subst hv
   rfl
  | false =>
   rw [h, if_neg (by simp)] at hv
   rw [if_pos (show (!false) = true from rfl)]
   refine (zh9 hs z9 (zdf hs) (fun nm r2 hs2 he => ?_) fun x e => ?_) v hv
   ·rw [zbJ (by omega), Option.bind_some]
    refine zi0 hs2 (by decide) (fun t r3 hs3 he3 => ?_) fun e => ⟨_, zf0 c e n' _ hS⟩
    refine zk5 hs3 (zy _) (zbN hs3 (by decide)) (fun r4 hs4 he4 => ?_) fun e => ⟨_, zf0 c e n' _ hS⟩
    have h1 := zeg r nm r2 he
    have h2 := (zbm _ _).le he3
    have h3 := (zy _).le he4
    have h2 : r3.length ≤ r2.length := h2
    have h3 : r4.length ≤ r3.length := h3
    exact zmR c hS (n' + 1) m (l ++ [nm]) r4 (by omega) hs4 (by simp; omega)
   ·rw [zbJ (by omega), Option.bind_some]
    exact ⟨_, zf0 c e n' _ hS⟩
theorem zl8 (e : List Tok) (n : Nat) (S : List zo) (D : List zi) : zc3 T (n + 1) T ((T.length - e.length : Nat) : Int) true S D = some (zbW T (.error e)) := rfl
theorem zkx : ∀ (n m : Nat) (S : List zo) (D : List zi) (r : List Tok), r.length + 1 < n → Suf T r → S.length + D.length + r.length ≤ 1000000 → (∀ d ∈ D, zF d.Body ≤ 1000000000) → ∀ v, wL m S D r = some v → zc3 T n T ((T.length - r.length : Nat) : Int) false S D = some (zbW T v)
 | n, 0, S, D, r, _, _, _, _, v, h => by cases h
 | 0, m + 1, S, D, r, h, _, _, _, v, _ => by omega
 | n + 1, m + 1, S, D, [], hn, hs, hl, hD, v, hv => by
  injection hv with hv
  subst hv
  show zhl (zc3 T n) T T _ false S D = _
  unfold zhl
  rw [if_neg (by simp), if_neg (by simp), zqO (by omega) hD, Option.bind_some]
  unfold zbW
  dsimp only
  split <;> rfl
 | n + 1, m + 1, S, D, t :: r, hn, hs, hl, hD, v, hv => by
  obtain ⟨n', rfl⟩ : ∃ n', n = n' + 1 := ⟨n - 1, by omega⟩
  have h0 := zbM hs
  have hT := hs.2
  simp only [List.length_cons] at hl h0 hn
  show zhl (zc3 T (n' + 1)) T T ((T.length - (t :: r).length : Nat) : Int) false S D = _
  unfold zhl
  rw [if_pos (by simp; omega)]
  show ((z7 (mkR T (t :: r) false) 3 (⟨#[116, 121, 112, 101]⟩ : ByteArray)).bind fun c562 => if c562 = true then (zcM (⟨(mkR T (t :: r) false).L, IntKind.i64.wrap ((mkR T (t :: r) false).At + 1), (mkR T (t :: r) false).Failed⟩ : zj)).bind fun c567 => (zde c567.2 (⟨#[115, 116, 114, 117, 99, 116]⟩ : ByteArray)).bind fun c576 => (zbi c576 (⟨#[123]⟩ : ByteArray)).bind fun c584 => zev (zc3 T (n' + 1)) c567 big c584.L c584.At c584.Failed S D ([]) else (zgA (mkR T (t :: r) false)).bind fun c792 => (zde (mkR T (t :: r) false) (⟨#[102, 117, 110, 99]⟩ : ByteArray)).bind fun c796 => (zfR c796 c792).bind fun c804 => (room (D.length + 1)).bind fun _ => zc3 T (n' + 1) c804.2.L c804.2.At c804.2.Failed S (D ++ ([(⟨c804.1.Name, c804.1.Line, c804.1.Params, (⟨c804.1.Result.Kind, c804.1.Result.N, c804.1.Result.Name⟩ : zz), c804.1.Body⟩ : zi)] : List zi))) = _
  rw [zcB hs (by decide), Option.bind_some, zcg hs, zlb hs]
  unfold wL at hv
  by_cases h : zs 3 [⟨#[116, 121, 112, 101]⟩] (t :: r) = true
  ·rw [if_pos h] at hv
   rw [if_pos h]
   have key : zdK (KF T (zc3 T (n' + 1)) S D) ((zcM (mkR T r false)).bind fun c567 => (zde c567.2 (⟨#[115, 116, 114, 117, 99, 116]⟩ : ByteArray)).bind fun c576 => (zbi c576 (⟨#[123]⟩ : ByteArray)).bind fun c584 => zev (zc3 T (n' + 1)) c567 big c584.L c584.At c584.Failed S D ([])) zdC r := by
    unfold zdC
    refine zh9 hs.tail z9 (zdf hs.tail) (fun nm r2 hs2 he => ?_) fun x e => ⟨_, zf0 (x, mkR T e true) e (big - 1) [] (by omega)⟩
    refine zi0 hs2 (by decide) (fun t r3 hs3 he3 => ?_) fun e => ⟨_, zf0 _ e _ _ (by omega)⟩
    refine zk5 hs3 (zy _) (zbN hs3 (by decide)) (fun r4 hs4 he4 => ?_) fun e => ⟨_, zf0 _ e _ _ (by omega)⟩
    exact zmR (nm, mkR T r2 false) (by omega) big big [] r4 (by have := zbM hs4; have := zbZ; omega) hs4 (by have := zbM hs4; simp; omega)
   split at hv
   ·cases hv
   ·rename_i e he
    injection hv with hv
    subst hv
    obtain ⟨S', hX⟩ := key _ he
    rw [hX]
    exact zl8 e n' S' D
   ·rename_i x r' he
    have hX := key _ he
    have hX : _ = zc3 T (n' + 1) T ((T.length - r'.length : Nat) : Int) false (S ++ [x]) D := hX
    rw [hX]
    have := ziJ r x r' he
    exact zkx (n' + 1) m (S ++ [x]) D r' (by omega) (hs.tail.of (ziy r _ he)) (by simp; omega) hD v hv
  ·rw [if_neg h] at hv
   rw [if_neg h, Option.bind_some]
   have key : zdK (KD T (zc3 T (n' + 1)) S D) ((zde (mkR T (t :: r) false) (⟨#[102, 117, 110, 99]⟩ : ByteArray)).bind fun c796 => (zfR c796 (zbO (t :: r))).bind fun c804 => (room (D.length + 1)).bind fun _ => zc3 T (n' + 1) c804.2.L c804.2.At c804.2.Failed S (D ++ ([(⟨c804.1.Name, c804.1.Line, c804.1.Params, (⟨c804.1.Result.Kind, c804.1.Result.N, c804.1.Result.Name⟩ : zz), c804.1.Body⟩ : zi)] : List zi))) zcF (t :: r) := by
    intro v hv
    unfold zcF at hv
    revert v
    refine zi0 hs (by decide) (fun t2 r3 hs3 he3 => ?_) fun e => ?_
    ·have eta : ∀ {p : Ps zi}, bd p (fun x => pu x) = p := fun {p} => by
      funext r
      unfold bd pu
      cases p r with
      | none => rfl
      | some v => cases v <;> rfl
     rw [← eta (p := bd zbB _)]
     refine zh9 hs3 (zt z9 fun _ => zt (zy _) fun _ => zbG (zfK _ _ _) (zt zc6 fun _ => zgJ _ _ _ _)) (zrg _ hs3) (fun x r4 hs4 _ => ?_) fun x e => ?_
     ·intro v hv
      injection hv with hv
      subst hv
      rw [zbJ (by omega), Option.bind_some]
      rfl
     ·rw [zbJ (by omega), Option.bind_some]
      exact ⟨_, rfl⟩
    ·obtain ⟨y, hy⟩ := zpd (T := T) (zbO (t :: r)) e
     rw [hy, Option.bind_some, zbJ (by omega), Option.bind_some]
     exact ⟨_, rfl⟩
   split at hv
   ·cases hv
   ·rename_i e he
    injection hv with hv
    subst hv
    obtain ⟨D', hX⟩ := key _ he
    rw [hX]
    exact zl8 e n' S D'
   ·rename_i x r' he
    have hX := key _ he
    have hX : _ = zc3 T (n' + 1) T ((T.length - r'.length : Nat) : Int) false S (D ++ [x]) := hX
    rw [hX]
    have h1 := zh7 (t :: r) x r' he
    have h2 := znh (t :: r) x r' he
    simp only [List.length_cons] at h1 h2
    refine zkx (n' + 1) m S (D ++ [x]) r' (by omega) (hs.of (zh6 _ _ he)) (by simp; omega) (fun d hd => ?_) v hv
    rw [List.mem_append, List.mem_singleton] at hd
    cases hd with
    | inl hd => exact hD d hd
    | inr hd =>
     subst hd
     unfold szD at h2
     omega
end
theorem zh8 {T : List Tok} (hT : T.length ≤ 1000000) : ∃ v, zce T = some v ∧ zdk T = some (zbW T v) ∧ zqu T = some (zbW T v) := by
 obtain ⟨v, hv, hp⟩ := zpF hT
 refine ⟨v, hv, hp, ?_⟩
 have := zkx (T := T) big big [] [] T (by have := zbZ; omega) ⟨⟨[], rfl⟩, hT⟩ (by simpa using hT) (fun d hd => by cases hd) v hv
 rw [Nat.sub_self] at this
 exact this
end Go.Proofs.Ytnhboaaikehpoaa
