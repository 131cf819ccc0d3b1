import Derived.Test.YtnhboaaikehpoaaP_12o
import Derived.KernelRfl
namespace Go.Proofs.Ytnhboaaikehpoaa
open Go.Ab Go.RowKit
set_option linter.unusedVariables false
set_option linter.unusedSimpArgs false
section
variable {b : List UInt8}
theorem zpe {rec14 : Int → Option Int} (hb : b.length ≤ 1000000) : ∀ (n k : Nat), k ≤ b.length → b.length - k < n → ∃ k' : Nat, k ≤ k' ∧ k' ≤ b.length ∧ (∀ h : k < b.length, b[k].toNat ≠ 10 → k < k') ∧ zf3 rec14 b n (k : Int) = rec14 (k' : Int) := by
 intro n
 induction n with
 | zero => intro k _ h; omega
 | succ n ih =>
  intro k hk hn
  show ∃ k' : Nat, _ ∧ _ ∧ _ ∧ zhR (zf3 rec14 b n) rec14 b (k : Int) = _
  unfold zhR
  by_cases h : k < b.length
  ·rw [if_pos (zJ (by omega)), zbv h, Option.bind_some, Option.bind_some]
   by_cases h10 : b[k].toNat = 10
   ·exact ⟨k, Nat.le_refl _, hk, fun _ hx => absurd h10 hx, if_neg (by simp [h10])⟩
   ·obtain ⟨k', a1, a2, a3, a4⟩ := ih (k + 1) (by omega) (by omega)
    refine ⟨k', by omega, a2, fun _ _ => by omega, ?_⟩
    rw [if_pos (zmE (by omega)), zbq (by omega)]
    exact a4
  ·exact ⟨k, Nat.le_refl _, hk, fun hx => absurd hx h, by rw [if_neg (by simp; omega), Option.bind_some, if_neg (by simp)]⟩
theorem zoJ (hb : b.length ≤ 1000000) : ∀ (n k : Nat), k ≤ b.length → b.length - k < n → ∃ k' : Nat, k ≤ k' ∧ k' ≤ b.length ∧ zd9 b n (k : Int) = some (k' : Int) := by
 intro n
 induction n with
 | zero => intro k _ h; omega
 | succ n ih =>
  intro k hk hn
  show ∃ k' : Nat, _ ∧ _ ∧ zif (zd9 b n) b (k : Int) = _
  unfold zif
  by_cases h : k < b.length
  ·rw [if_pos (zJ (by omega)), zbv h, Option.bind_some, zbq (by omega)]
   by_cases hw : (((((b[k].toNat : Int) == 32) || ((b[k].toNat : Int) == 9)) || ((b[k].toNat : Int) == 13)) || ((b[k].toNat : Int) == 10)) = true
   ·obtain ⟨k', a1, a2, a3⟩ := ih (k + 1) (by omega) (by omega)
    rw [if_pos hw]
    exact ⟨k', by omega, a2, a3⟩
   ·rw [if_neg hw]
    have stay : ∃ k' : Nat, k ≤ k' ∧ k' ≤ b.length ∧ some (k : Int) = some (k' : Int) := ⟨k, Nat.le_refl _, hk, rfl⟩
    by_cases hc : (((b[k].toNat : Int) == 47) && (decide (((k + 1 : Nat) : Int) < (b.length : Int)))) = true
    ·rw [if_pos hc]
     rw [Bool.and_eq_true, decide_eq_true_eq] at hc
     rw [zbv (show k + 1 < b.length by omega), Option.bind_some, Option.bind_some]
     split
     ·obtain ⟨k1, a1, a2, a3, a4⟩ := zpe (rec14 := zd9 b n) hb big k hk (z7 (by omega))
      have h47 : b[k].toNat = 47 := by have := hc.1; simp at this; omega
      have := a3 h (by omega)
      obtain ⟨k', c1, c2, c3⟩ := ih k1 a2 (by omega)
      exact ⟨k', by omega, c2, a4.trans c3⟩
     ·exact stay
    ·rw [if_neg hc, Option.bind_some, if_neg (by simp)]
     exact stay
  ·exact ⟨k, Nat.le_refl _, hk, if_neg (by simp; omega)⟩
theorem zl0 (hb : b.length ≤ 1000000) {k : Nat} (hk : k ≤ b.length) : ∃ k' : Nat, k ≤ k' ∧ k' ≤ b.length ∧ zfs b (k : Int) = some (k' : Int) :=
 zoJ hb big k hk (z7 (by omega))
theorem zj2 (x : Int) : ∃ c, zem x = some c := by
 unfold zem
 split
 ·exact ⟨_, rfl⟩
 ·split <;> exact ⟨_, rfl⟩
theorem zsr {s : ByteArray} (h1 : 1 ≤ s.size) (h2 : s.size ≤ 1000000) : ∀ (n k : Nat) (x : Int), k ≤ s.size → s.size - k < n → ∃ v, zgr s n x (k : Int) = some v := by
 have gs : ∀ k : Nat, k < s.size → ∃ c, zfv s (k : Int) = some c := fun k hk => by
  unfold zfv
  rw [if_pos (by omega), Int.toNat_natCast]
  exact ⟨s[k], getElem?_pos s k hk⟩
 intro n
 induction n with
 | zero => intro k x _ h; omega
 | succ n ih =>
  intro k x hk hn
  show ∃ v, zhP (zgr s n) s x (k : Int) = some v
  unfold zhP
  by_cases h : k < s.size
  ·obtain ⟨c, hc⟩ := gs k h
   rw [if_pos (zJ (by omega)), hc, Option.bind_some, zbq (by omega)]
   split
   ·exact ⟨_, rfl⟩
   ·exact ih (k + 1) _ (by omega) (by omega)
  ·obtain ⟨c, hc⟩ := gs 0 (by omega)
   have hc : zfv s 0 = some c := hc
   rw [if_neg (by simp; omega)]
   split
   ·exact ⟨_, rfl⟩
   ·rw [hc]; exact ⟨_, rfl⟩
theorem zoL {s : ByteArray} (h1 : 1 ≤ s.size) (h2 : s.size ≤ 1000000) : ∃ v, zgV s = some v := zsr h1 h2 big 0 0 (by omega) (z7 (by omega))
theorem zrC {l : List ByteArray} (hl : l.length ≤ 1000) (x : ByteArray) : ∀ (n k : Nat), k ≤ l.length → l.length - k < n → ∃ v, zgz l x n (k : Int) = some v := by
 intro n
 induction n with
 | zero => intro k _ h; omega
 | succ n ih =>
  intro k hk hn
  show ∃ v, zhE (zgz l x n) l x (k : Int) = some v
  unfold zhE
  by_cases h : k < l.length
  ·rw [if_pos (zJ (by omega)), zbv h, Option.bind_some, zbq (by omega)]
   split
   ·exact ⟨_, rfl⟩
   ·exact ih (k + 1) (by omega) (by omega)
  ·exact ⟨_, if_neg (by simp; omega)⟩
def Tk (b : List UInt8) (p : Nat) (X : Option (zl × Bool)) : Prop := ∃ t c, X = some (t, c) ∧ (c = true → 1 ≤ t.Text.size ∧ p + t.Text.size ≤ b.length)
theorem zmS {p k : Nat} (h1 : p ≤ k) (h2 : k ≤ b.length) : (⟨((b.take k).drop p).toArray⟩ : ByteArray).size = k - p := by
 show ((b.take k).drop p).toArray.size = _
 rw [List.size_toArray, List.length_drop, List.length_take]
 omega
theorem zon (hb : b.length ≤ 1000000) {p : Nat} : ∀ (n k : Nat), p ≤ k → k ≤ b.length → b.length - k < n → (p < k ∨ ∃ h : k < b.length, zem (b[k].toNat : Int) = some true) → Tk b p (zgn b (p : Int) n (k : Int)) := by
 intro n
 induction n with
 | zero => intro k _ _ h; omega
 | succ n ih =>
  intro k hp hk hn hc
  show Tk b p (zg7 (zgn b (p : Int) n) b (p : Int) (k : Int))
  unfold zg7
  have fin : p < k → Tk b p ((zcV b (p : Int) (k : Int)).bind fun y127 => (zh5 ).bind fun c132 => (zh9 c132 (⟨y127.toArray⟩ : ByteArray)).bind fun c143 => (if c143 = true then some ((⟨(3 : UInt8), (⟨y127.toArray⟩ : ByteArray), 0, 0⟩ : zl), true) else some ((⟨(1 : UInt8), (⟨y127.toArray⟩ : ByteArray), 0, 0⟩ : zl), (decide (((⟨y127.toArray⟩ : ByteArray).size : Int) ≤ 24))))) := fun hlt => by
   obtain ⟨v, hv⟩ := zrC (l := [zte, zs7, ztc, ztn, ztE, zth, ztx, zs9, ztg, ztd, zs6, ztu, ztl, zti]) (by simp) (⟨((b.take k).drop p).toArray⟩ : ByteArray) big 0 (by omega) (z7 (by simp))
   have hz := zmS (b := b) hp hk
   have hv : zh9 _ (⟨((b.take k).drop p).toArray⟩ : ByteArray) = some v := hv
   rw [zii hp hk, Option.bind_some, show zh5 = some _ from rfl, Option.bind_some, hv, Option.bind_some]
   split
   ·exact ⟨_, _, rfl, fun _ => ⟨by rw [hz]; omega, by rw [hz]; omega⟩⟩
   ·exact ⟨_, _, rfl, fun _ => ⟨by rw [hz]; omega, by rw [hz]; omega⟩⟩
  by_cases h : k < b.length
  ·obtain ⟨c, hl⟩ := zj2 (b[k].toNat : Int)
   have ih' := ih (k + 1) (by omega) (by omega) (by omega) (.inl (by omega))
   rw [if_pos (zJ (by omega)), zbv h, Option.bind_some, hl, Option.bind_some, Option.bind_some, zbq (by omega)]
   cases c with
   | true => exact ih'
   | false =>
    have hlt : p < k := by
     rcases hc with hc | ⟨_, hc⟩
     ·exact hc
     ·rw [hl] at hc; cases hc
    show Tk b p (if ((decide ((b[k].toNat : Int) ≥ 48)) && (decide ((b[k].toNat : Int) ≤ 57))) = true then _ else _)
    split
    ·exact ih'
    ·exact fin hlt
  ·have hlt : p < k := by
    rcases hc with hc | ⟨hx, _⟩
    ·exact hc
    ·exact absurd hx h
   rw [if_neg (by simp; omega), Option.bind_some, if_neg (by simp)]
   exact fin hlt
theorem zpx (hb : b.length ≤ 1000000) {p : Nat} : ∀ (n k : Nat), p ≤ k → k ≤ b.length → b.length - k < n → (p < k ∨ ∃ h : k < b.length, zeU (b[k].toNat : Int) = some true) → Tk b p (zfM b (p : Int) n (k : Int)) := by
 intro n
 induction n with
 | zero => intro k _ _ h; omega
 | succ n ih =>
  intro k hp hk hn hc
  show Tk b p (zg5 (zfM b (p : Int) n) b (p : Int) (k : Int))
  unfold zg5
  have fin : p < k → Tk b p ((zcV b (p : Int) (k : Int)).bind fun y238 => (zgV (⟨y238.toArray⟩ : ByteArray)).bind fun c243 => ((if c243.2 = true then (if ((k : Int) == (b.length : Int)) = true then some true else (zv b (k : Int)).bind fun y251 => (zem (y251.toNat : Int)).bind fun c256 => some (!c256)) else some false)).bind fun c247 => some ((⟨(2 : UInt8), (⟨y238.toArray⟩ : ByteArray), c243.1, 0⟩ : zl), c247)) := fun hlt => by
   have hz := zmS (b := b) hp hk
   obtain ⟨v, hv⟩ := zoL (s := ⟨((b.take k).drop p).toArray⟩) (by rw [hz]; omega) (by rw [hz]; omega)
   rw [zii hp hk, Option.bind_some, hv, Option.bind_some]
   have out : ∀ c : Bool, Tk b p (some ((⟨(2 : UInt8), (⟨((b.take k).drop p).toArray⟩ : ByteArray), v.1, 0⟩ : zl), c)) := fun c => ⟨_, _, rfl, fun _ => ⟨by rw [hz]; omega, by rw [hz]; omega⟩⟩
   split
   ·split
    ·exact out _
    ·rename_i hne
     have h : k < b.length := by
      have : ¬ ((k : Int) = (b.length : Int)) := by simpa using hne
      omega
     obtain ⟨c, hl⟩ := zj2 (b[k].toNat : Int)
     rw [zbv h, Option.bind_some, hl]
     exact out _
   ·exact out _
  by_cases h : k < b.length
  ·have ih' := ih (k + 1) (by omega) (by omega) (by omega) (.inl (by omega))
   rw [if_pos (zJ (by omega)), zbv h, Option.bind_some, zbq (by omega)]
   cases hd : zeU (b[k].toNat : Int) with
   | none => cases hd
   | some c =>
    rw [Option.bind_some, Option.bind_some]
    cases c with
    | true => exact ih'
    | false =>
     rw [if_neg (by simp), ← zbv h]
     refine fin ?_
     rcases hc with hc | ⟨_, hc⟩
     ·exact hc
     ·rw [hd] at hc; cases hc
  ·have hlt : p < k := by
    rcases hc with hc | ⟨hx, _⟩
    ·exact hc
    ·exact absurd hx h
   rw [if_neg (by simp; omega), Option.bind_some, if_neg (by simp)]
   exact fin hlt
theorem zqp (hb : b.length ≤ 1000000) {p : Nat} (hp : p ≤ b.length) {l : List ByteArray} (hl : l.length ≤ 1000) (hx : ∀ s ∈ l, 1 ≤ s.size ∧ s.size ≤ 1000) : ∀ (n k : Nat), k ≤ l.length → l.length - k < n → Tk b p (zfL b (p : Int) n l (k : Int)) := by
 intro n
 induction n with
 | zero => intro k _ h; omega
 | succ n ih =>
  intro k hk hn
  show Tk b p (zhz (zfL b (p : Int) n) b (p : Int) l (k : Int))
  unfold zhz
  by_cases h : k < l.length
  ·have hs := hx _ (List.getElem_mem h)
   have ih' := ih (k + 1) (by omega) (by omega)
   rw [if_pos (zJ (by omega)), zbv h, zbq (by omega)]
   simp only [Option.bind_some]
   rw [zeo (by omega)]
   by_cases hf : p + l[k].size ≤ b.length
   ·rw [if_pos (zJ (by omega)), zii (by omega) hf]
    simp only [Option.bind_some]
    split
    ·exact ⟨_, _, rfl, fun _ => ⟨hs.1, hf⟩⟩
    ·exact ih'
   ·rw [if_neg (by simp; omega)]
    exact ih'
  ·rw [if_neg (by simp; omega)]
   exact ⟨_, _, rfl, fun h => by cases h⟩
theorem zpZ (hb : b.length ≤ 1000000) {p : Nat} (hp : p < b.length) : Tk b p (zf9 b (p : Int)) := by
 unfold zf9
 obtain ⟨c, hl⟩ := zj2 (b[p].toNat : Int)
 rw [zbv hp, Option.bind_some, hl, Option.bind_some]
 cases c with
 | true => exact zon hb big p (Nat.le_refl _) (by omega) (z7 (by omega)) (.inr ⟨hp, hl⟩)
 | false =>
  rw [if_neg (by simp)]
  cases hd : zeU (b[p].toNat : Int) with
  | none => cases hd
  | some c =>
   rw [Option.bind_some]
   cases c with
   | true => exact zpx hb big p (Nat.le_refl _) (by omega) (z7 (by omega)) (.inr ⟨hp, hd⟩)
   | false =>
    rw [if_neg (by simp)]
    exact zqp hb (by omega) (l := [zto, ztk, ztp, ztq, ztr, zts, zs5, zs4, ztm, ztw, ztb, ztj, ztt, zta, ztv, zs8, ztB, ztf, zty, ztC, ztD, ztz, ztA, ztH]) (by simp) (by decide) big 0 (by omega) (z7 (by simp))
theorem zqs (hb : b.length ≤ 1000000) {rec14 : List zl → Int → Int → Int → Option (List zl × Int × Int)} {p : Nat} (hp : p ≤ b.length) (l : List zl) : ∀ (n j : Nat) (x : Int), j ≤ p → p - j < n → ∃ x' : Int, zfH rec14 b (p : Int) n l x (j : Int) = (zf9 b (p : Int)).bind fun c234 => (if (!c234.2) = true then some ([], x', 6) else (room (l.length + 1)).bind fun _ => (zfs b (IntKind.i64.wrap ((p : Int) + (c234.1.Text.size : Int)))).bind fun c245 => rec14 (l ++ [(⟨c234.1.Kind, c234.1.Text, c234.1.Num, x'⟩ : zl)]) x' (p : Int) c245) := by
 intro n
 induction n with
 | zero => intro j x _ h; omega
 | succ n ih =>
  intro j x hj hn
  show ∃ x' : Int, zhY (zfH rec14 b (p : Int) n) rec14 b (p : Int) l x (j : Int) = _
  unfold zhY
  by_cases h : j < p
  ·rw [if_pos (zJ (by omega)), zbv (show j < b.length by omega), Option.bind_some, zbq (by omega)]
   split
   ·exact ih (j + 1) _ (by omega) (by omega)
   ·exact ih (j + 1) _ (by omega) (by omega)
  ·obtain rfl : j = p := by omega
   exact ⟨x, if_neg (by simp)⟩
theorem zoj (hb : b.length ≤ 1000000) : ∀ (n p j : Nat) (l : List zl) (x : Int), p ≤ b.length → j ≤ p → b.length - p < n → l.length ≤ p → ∃ v, zdX b n l x (j : Int) (p : Int) = some v ∧ v.1.length ≤ b.length := by
 intro n
 induction n with
 | zero => intro p j l x _ _ h; omega
 | succ n ih =>
  intro p j l x hp hj hn hl
  show ∃ v, zit (zdX b n) b l x (j : Int) (p : Int) = some v ∧ _
  unfold zit
  by_cases h : p < b.length
  ·rw [if_pos (zJ (by omega))]
   obtain ⟨x', hx⟩ := zqs hb (rec14 := zdX b n) hp l big j x hj (z7 (by omega))
   obtain ⟨t, c, ht, hc⟩ := zpZ hb h
   rw [hx, ht, Option.bind_some]
   cases c with
   | false => exact ⟨_, rfl, by simp⟩
   | true =>
    obtain ⟨c1, c2⟩ := hc rfl
    rw [if_neg (by simp), zcT (by omega), Option.bind_some]
    dsimp only
    rw [zeo (by omega)]
    obtain ⟨k', k1, k2, k3⟩ := zl0 hb c2
    rw [k3, Option.bind_some]
    exact ih k' p _ x' k2 (by omega) (by omega) (by simp; omega)
  ·rw [if_neg (by simp; omega)]
   exact ⟨_, rfl, by simp; omega⟩
theorem zn6 (hb : b.length ≤ 16384) : ∃ v, zeA b = some v ∧ v.1.length ≤ b.length := by
 unfold zeA
 rw [if_neg (by simp; omega)]
 obtain ⟨k', k1, k2, k3⟩ := zl0 (b := b) (by omega) (k := 0) (by omega)
 have k3 : zfs b 0 = some (k' : Int) := k3
 rw [k3, Option.bind_some]
 exact zoj (by omega) big k' 0 [] 1 k2 (by omega) (z7 (by omega)) (by simp)
end
end Go.Proofs.Ytnhboaaikehpoaa
