import Derived.Test.YtnhboaaikehpoaaP_12o
import Derived.KernelRfl
namespace Go.Proofs.Ytnhboaaikehpoaa
open Go.Ab Go.RowKit
set_option linter.unusedVariables false
set_option linter.unusedSimpArgs false
section
variable {b : List UInt8}
theorem zoV {rec14 : Int → Option Int} (hb : b.length ≤ 1000000) : ∀ (n k : Nat), k ≤ b.length → b.length - k < n → ∃ k' : Nat, k ≤ k' ∧ k' ≤ b.length ∧ (∀ h : k < b.length, b[k].toNat ≠ 10 → k < k') ∧ zfN rec14 b n (k : Int) = rec14 (k' : Int) := by
 intro n
 induction n with
 | zero => intro k _ h; omega
 | succ n ih =>
  intro k hk hn
  show ∃ k' : Nat, _ ∧ _ ∧ _ ∧ zhe (zfN rec14 b n) rec14 b (k : Int) = _
  unfold zhe
  by_cases h : k < b.length
  ·rw [if_pos (zbe (by omega)), zbL h, Option.bind_some, Option.bind_some]
   by_cases h10 : b[k].toNat = 10
   ·exact ⟨k, Nat.le_refl _, hk, fun _ hx => absurd h10 hx, if_neg (by simp [h10])⟩
   ·obtain ⟨k', a1, a2, a3, a4⟩ := ih (k + 1) (by omega) (by omega)
    refine ⟨k', by omega, a2, fun _ _ => by omega, ?_⟩
    rw [if_pos (zlL (by omega)), zbN (by omega)]
    exact a4
  ·exact ⟨k, Nat.le_refl _, hk, fun hx => absurd hx h, by rw [if_neg (by simp; omega), Option.bind_some, if_neg (by simp)]⟩
theorem zpC (hb : b.length ≤ 1000000) : ∀ (n k : Nat), k ≤ b.length → b.length - k < n → ∃ k' : Nat, k ≤ k' ∧ k' ≤ b.length ∧ zdV b n (k : Int) = some (k' : Int) := by
 intro n
 induction n with
 | zero => intro k _ h; omega
 | succ n ih =>
  intro k hk hn
  show ∃ k' : Nat, _ ∧ _ ∧ zhs (zdV b n) b (k : Int) = _
  unfold zhs
  by_cases h : k < b.length
  ·rw [if_pos (zbe (by omega)), zbL h, Option.bind_some, zbN (by omega)]
   by_cases hw : (((((b[k].toNat : Int) == 32) || ((b[k].toNat : Int) == 9)) || ((b[k].toNat : Int) == 13)) || ((b[k].toNat : Int) == 10)) = true
   ·obtain ⟨k', a1, a2, a3⟩ := ih (k + 1) (by omega) (by omega)
    rw [if_pos hw]
    exact ⟨k', by omega, a2, a3⟩
   ·rw [if_neg hw]
    have stay : ∃ k' : Nat, k ≤ k' ∧ k' ≤ b.length ∧ some (k : Int) = some (k' : Int) := ⟨k, Nat.le_refl _, hk, rfl⟩
    by_cases hc : (((b[k].toNat : Int) == 47) && (decide (((k + 1 : Nat) : Int) < (b.length : Int)))) = true
    ·rw [if_pos hc]
     rw [Bool.and_eq_true, decide_eq_true_eq] at hc
     rw [zbL (show k + 1 < b.length by omega), Option.bind_some, Option.bind_some]
     split
     ·obtain ⟨k1, a1, a2, a3, a4⟩ := zoV (rec14 := zdV b n) hb big k hk (zbC (by omega))
      have h47 : b[k].toNat = 47 := by have := hc.1; simp at this; omega
      have := a3 h (by omega)
      obtain ⟨k', c1, c2, c3⟩ := ih k1 a2 (by omega)
      exact ⟨k', by omega, c2, a4.trans c3⟩
     ·exact stay
    ·rw [if_neg hc, Option.bind_some, if_neg (by simp)]
     exact stay
  ·exact ⟨k, Nat.le_refl _, hk, if_neg (by simp; omega)⟩
theorem zmD (hb : b.length ≤ 1000000) {k : Nat} (hk : k ≤ b.length) : ∃ k' : Nat, k ≤ k' ∧ k' ≤ b.length ∧ zfb b (k : Int) = some (k' : Int) :=
 zpC hb big k hk (zbC (by omega))
theorem zkP (x : Int) : ∃ c, zei x = some c := by
 unfold zei
 split
 ·exact ⟨_, rfl⟩
 ·split <;> exact ⟨_, rfl⟩
theorem zrj {s : ByteArray} (h1 : 1 ≤ s.size) (h2 : s.size ≤ 1000000) : ∀ (n k : Nat) (x : Int), k ≤ s.size → s.size - k < n → ∃ v, zf6 s n x (k : Int) = some v := by
 have gs : ∀ k : Nat, k < s.size → ∃ c, zfd s (k : Int) = some c := fun k hk => by
  unfold zfd
  rw [if_pos (by omega), Int.toNat_natCast]
  exact ⟨s[k], getElem?_pos s k hk⟩
 intro n
 induction n with
 | zero => intro k x _ h; omega
 | succ n ih =>
  intro k x hk hn
  show ∃ v, zgX (zf6 s n) s x (k : Int) = some v
  unfold zgX
  by_cases h : k < s.size
  ·obtain ⟨c, hc⟩ := gs k h
   rw [if_pos (zbe (by omega)), hc, Option.bind_some, zbN (by omega)]
   split
   ·exact ⟨_, rfl⟩
   ·exact ih (k + 1) _ (by omega) (by omega)
  ·obtain ⟨c, hc⟩ := gs 0 (by omega)
   have hc : zfd s 0 = some c := hc
   rw [if_neg (by simp; omega)]
   split
   ·exact ⟨_, rfl⟩
   ·rw [hc]; exact ⟨_, rfl⟩
theorem znH {s : ByteArray} (h1 : 1 ≤ s.size) (h2 : s.size ≤ 1000000) : ∃ v, zh0 s = some v := zrj h1 h2 big 0 0 (by omega) (zbC (by omega))
theorem zqi {l : List ByteArray} (hl : l.length ≤ 1000) (x : ByteArray) : ∀ (n k : Nat), k ≤ l.length → l.length - k < n → ∃ v, zf9 l x n (k : Int) = some v := by
 intro n
 induction n with
 | zero => intro k _ h; omega
 | succ n ih =>
  intro k hk hn
  show ∃ v, zh1 (zf9 l x n) l x (k : Int) = some v
  unfold zh1
  by_cases h : k < l.length
  ·rw [if_pos (zbe (by omega)), zbL h, Option.bind_some, zbN (by omega)]
   split
   ·exact ⟨_, rfl⟩
   ·exact ih (k + 1) (by omega) (by omega)
  ·exact ⟨_, if_neg (by simp; omega)⟩
def Tk (b : List UInt8) (p : Nat) (X : Option (zp × Bool)) : Prop := ∃ t c, X = some (t, c) ∧ (c = true → 1 ≤ t.Text.size ∧ p + t.Text.size ≤ b.length)
theorem zlh {p k : Nat} (h1 : p ≤ k) (h2 : k ≤ b.length) : (⟨((b.take k).drop p).toArray⟩ : ByteArray).size = k - p := by
 show ((b.take k).drop p).toArray.size = _
 rw [List.size_toArray, List.length_drop, List.length_take]
 omega
theorem zpo (hb : b.length ≤ 1000000) {p : Nat} : ∀ (n k : Nat), p ≤ k → k ≤ b.length → b.length - k < n → (p < k ∨ ∃ h : k < b.length, zei (b[k].toNat : Int) = some true) → Tk b p (zfX b (p : Int) n (k : Int)) := by
 intro n
 induction n with
 | zero => intro k _ _ h; omega
 | succ n ih =>
  intro k hp hk hn hc
  show Tk b p (zha (zfX b (p : Int) n) b (p : Int) (k : Int))
  unfold zha
  have fin : p < k → Tk b p ((zc0 b (p : Int) (k : Int)).bind fun y127 => (zg1 ).bind fun c132 => (zgw c132 (⟨y127.toArray⟩ : ByteArray)).bind fun c143 => (if c143 = true then some ((⟨(3 : UInt8), (⟨y127.toArray⟩ : ByteArray), 0, 0⟩ : zp), true) else some ((⟨(1 : UInt8), (⟨y127.toArray⟩ : ByteArray), 0, 0⟩ : zp), (decide (((⟨y127.toArray⟩ : ByteArray).size : Int) ≤ 24))))) := fun hlt => by
   obtain ⟨v, hv⟩ := zqi (l := [(⟨#[116, 121, 112, 101]⟩ : ByteArray), (⟨#[115, 116, 114, 117, 99, 116]⟩ : ByteArray), (⟨#[102, 117, 110, 99]⟩ : ByteArray), (⟨#[118, 97, 114]⟩ : ByteArray), (⟨#[105, 102]⟩ : ByteArray), (⟨#[101, 108, 115, 101]⟩ : ByteArray), (⟨#[102, 111, 114]⟩ : ByteArray), (⟨#[114, 101, 116, 117, 114, 110]⟩ : ByteArray), (⟨#[112, 114, 105, 110, 116]⟩ : ByteArray), (⟨#[105, 110, 112, 117, 116]⟩ : ByteArray), (⟨#[105, 110, 116]⟩ : ByteArray), (⟨#[98, 111, 111, 108]⟩ : ByteArray), (⟨#[116, 114, 117, 101]⟩ : ByteArray), (⟨#[102, 97, 108, 115, 101]⟩ : ByteArray)]) (by simp) (⟨((b.take k).drop p).toArray⟩ : ByteArray) big 0 (by omega) (zbC (by simp))
   have hz := zlh (b := b) hp hk
   have hv : zgw _ (⟨((b.take k).drop p).toArray⟩ : ByteArray) = some v := hv
   rw [zgY hp hk, Option.bind_some, show zg1 = some _ from rfl, Option.bind_some, hv, Option.bind_some]
   split
   ·exact ⟨_, _, rfl, fun _ => ⟨by rw [hz]; omega, by rw [hz]; omega⟩⟩
   ·exact ⟨_, _, rfl, fun _ => ⟨by rw [hz]; omega, by rw [hz]; omega⟩⟩
  by_cases h : k < b.length
  ·obtain ⟨c, hl⟩ := zkP (b[k].toNat : Int)
   have ih' := ih (k + 1) (by omega) (by omega) (by omega) (.inl (by omega))
   rw [if_pos (zbe (by omega)), zbL h, Option.bind_some, hl, Option.bind_some, Option.bind_some, zbN (by omega)]
   cases c with
   | true => exact ih'
   | false =>
    have hlt : p < k := by
     rcases hc with hc | ⟨_, hc⟩
     ·exact hc
     ·rw [hl] at hc; cases hc
    show Tk b p (if ((decide ((b[k].toNat : Int) ≥ 48)) && (decide ((b[k].toNat : Int) ≤ 57))) = true then _ else _)
    split
    ·exact ih'
    ·exact fin hlt
  ·have hlt : p < k := by
    rcases hc with hc | ⟨hx, _⟩
    ·exact hc
    ·exact absurd hx h
   rw [if_neg (by simp; omega), Option.bind_some, if_neg (by simp)]
   exact fin hlt
theorem zqP (hb : b.length ≤ 1000000) {p : Nat} : ∀ (n k : Nat), p ≤ k → k ≤ b.length → b.length - k < n → (p < k ∨ ∃ h : k < b.length, zex (b[k].toNat : Int) = some true) → Tk b p (zgk b (p : Int) n (k : Int)) := by
 intro n
 induction n with
 | zero => intro k _ _ h; omega
 | succ n ih =>
  intro k hp hk hn hc
  show Tk b p (zhE (zgk b (p : Int) n) b (p : Int) (k : Int))
  unfold zhE
  have fin : p < k → Tk b p ((zc0 b (p : Int) (k : Int)).bind fun y238 => (zh0 (⟨y238.toArray⟩ : ByteArray)).bind fun c243 => ((if c243.2 = true then (if ((k : Int) == (b.length : Int)) = true then some true else (zA b (k : Int)).bind fun y251 => (zei (y251.toNat : Int)).bind fun c256 => some (!c256)) else some false)).bind fun c247 => some ((⟨(2 : UInt8), (⟨y238.toArray⟩ : ByteArray), c243.1, 0⟩ : zp), c247)) := fun hlt => by
   have hz := zlh (b := b) hp hk
   obtain ⟨v, hv⟩ := znH (s := ⟨((b.take k).drop p).toArray⟩) (by rw [hz]; omega) (by rw [hz]; omega)
   rw [zgY hp hk, Option.bind_some, hv, Option.bind_some]
   have out : ∀ c : Bool, Tk b p (some ((⟨(2 : UInt8), (⟨((b.take k).drop p).toArray⟩ : ByteArray), v.1, 0⟩ : zp), c)) := fun c => ⟨_, _, rfl, fun _ => ⟨by rw [hz]; omega, by rw [hz]; omega⟩⟩
   split
   ·split
    ·exact out _
    ·rename_i hne
     have h : k < b.length := by
      have : ¬ ((k : Int) = (b.length : Int)) := by simpa using hne
      omega
     obtain ⟨c, hl⟩ := zkP (b[k].toNat : Int)
     rw [zbL h, Option.bind_some, hl]
     exact out _
   ·exact out _
  by_cases h : k < b.length
  ·have ih' := ih (k + 1) (by omega) (by omega) (by omega) (.inl (by omega))
   rw [if_pos (zbe (by omega)), zbL h, Option.bind_some, zbN (by omega)]
   cases hd : zex (b[k].toNat : Int) with
   | none => cases hd
   | some c =>
    rw [Option.bind_some, Option.bind_some]
    cases c with
    | true => exact ih'
    | false =>
     rw [if_neg (by simp), ← zbL h]
     refine fin ?_
     rcases hc with hc | ⟨_, hc⟩
     ·exact hc
     ·rw [hd] at hc; cases hc
  ·have hlt : p < k := by
    rcases hc with hc | ⟨hx, _⟩
    ·exact hc
    ·exact absurd hx h
   rw [if_neg (by simp; omega), Option.bind_some, if_neg (by simp)]
   exact fin hlt
theorem zqN (hb : b.length ≤ 1000000) {p : Nat} (hp : p ≤ b.length) {l : List ByteArray} (hl : l.length ≤ 1000) (hx : ∀ s ∈ l, 1 ≤ s.size ∧ s.size ≤ 1000) : ∀ (n k : Nat), k ≤ l.length → l.length - k < n → Tk b p (zfI b (p : Int) n l (k : Int)) := by
 intro n
 induction n with
 | zero => intro k _ h; omega
 | succ n ih =>
  intro k hk hn
  show Tk b p (zh2 (zfI b (p : Int) n) b (p : Int) l (k : Int))
  unfold zh2
  by_cases h : k < l.length
  ·have hs := hx _ (List.getElem_mem h)
   have ih' := ih (k + 1) (by omega) (by omega)
   rw [if_pos (zbe (by omega)), zbL h, zbN (by omega)]
   simp only [Option.bind_some]
   rw [zlO (by omega)]
   by_cases hf : p + l[k].size ≤ b.length
   ·rw [if_pos (zbe (by omega)), zgY (by omega) hf]
    simp only [Option.bind_some]
    split
    ·exact ⟨_, _, rfl, fun _ => ⟨hs.1, hf⟩⟩
    ·exact ih'
   ·rw [if_neg (by simp; omega)]
    exact ih'
  ·rw [if_neg (by simp; omega)]
   exact ⟨_, _, rfl, fun h => by cases h⟩
theorem zrr (hb : b.length ≤ 1000000) {p : Nat} (hp : p < b.length) : Tk b p (zgd b (p : Int)) := by
 unfold zgd
 obtain ⟨c, hl⟩ := zkP (b[p].toNat : Int)
 rw [zbL hp, Option.bind_some, hl, Option.bind_some]
 cases c with
 | true => exact zpo hb big p (Nat.le_refl _) (by omega) (zbC (by omega)) (.inr ⟨hp, hl⟩)
 | false =>
  rw [if_neg (by simp)]
  cases hd : zex (b[p].toNat : Int) with
  | none => cases hd
  | some c =>
   rw [Option.bind_some]
   cases c with
   | true => exact zqP hb big p (Nat.le_refl _) (by omega) (zbC (by omega)) (.inr ⟨hp, hd⟩)
   | false =>
    rw [if_neg (by simp)]
    exact zqN hb (by omega) (l := [(⟨#[38, 38]⟩ : ByteArray), (⟨#[124, 124]⟩ : ByteArray), (⟨#[61, 61]⟩ : ByteArray), (⟨#[33, 61]⟩ : ByteArray), (⟨#[60, 61]⟩ : ByteArray), (⟨#[62, 61]⟩ : ByteArray), (⟨#[40]⟩ : ByteArray), (⟨#[41]⟩ : ByteArray), (⟨#[123]⟩ : ByteArray), (⟨#[125]⟩ : ByteArray), (⟨#[91]⟩ : ByteArray), (⟨#[93]⟩ : ByteArray), (⟨#[44]⟩ : ByteArray), (⟨#[59]⟩ : ByteArray), (⟨#[46]⟩ : ByteArray), (⟨#[61]⟩ : ByteArray), (⟨#[43]⟩ : ByteArray), (⟨#[45]⟩ : ByteArray), (⟨#[42]⟩ : ByteArray), (⟨#[47]⟩ : ByteArray), (⟨#[37]⟩ : ByteArray), (⟨#[60]⟩ : ByteArray), (⟨#[62]⟩ : ByteArray), (⟨#[33]⟩ : ByteArray)]) (by simp) (by decide) big 0 (by omega) (zbC (by simp))
theorem zpk (hb : b.length ≤ 1000000) {rec14 : List zp → Int → Int → Int → Option (List zp × Int × Int)} {p : Nat} (hp : p ≤ b.length) (l : List zp) : ∀ (n j : Nat) (x : Int), j ≤ p → p - j < n → ∃ x' : Int, zfS rec14 b (p : Int) n l x (j : Int) = (zgd b (p : Int)).bind fun c234 => (if (!c234.2) = true then some ([], x', 6) else (room (l.length + 1)).bind fun _ => (zfb b (IntKind.i64.wrap ((p : Int) + (c234.1.Text.size : Int)))).bind fun c245 => rec14 (l ++ [(⟨c234.1.Kind, c234.1.Text, c234.1.Num, x'⟩ : zp)]) x' (p : Int) c245) := by
 intro n
 induction n with
 | zero => intro j x _ h; omega
 | succ n ih =>
  intro j x hj hn
  show ∃ x' : Int, zgN (zfS rec14 b (p : Int) n) rec14 b (p : Int) l x (j : Int) = _
  unfold zgN
  by_cases h : j < p
  ·rw [if_pos (zbe (by omega)), zbL (show j < b.length by omega), Option.bind_some, zbN (by omega)]
   split
   ·exact ih (j + 1) _ (by omega) (by omega)
   ·exact ih (j + 1) _ (by omega) (by omega)
  ·obtain rfl : j = p := by omega
   exact ⟨x, if_neg (by simp)⟩
theorem zoH (hb : b.length ≤ 1000000) : ∀ (n p j : Nat) (l : List zp) (x : Int), p ≤ b.length → j ≤ p → b.length - p < n → l.length ≤ p → ∃ v, zd2 b n l x (j : Int) (p : Int) = some v ∧ v.1.length ≤ b.length := by
 intro n
 induction n with
 | zero => intro p j l x _ _ h; omega
 | succ n ih =>
  intro p j l x hp hj hn hl
  show ∃ v, zgv (zd2 b n) b l x (j : Int) (p : Int) = some v ∧ _
  unfold zgv
  by_cases h : p < b.length
  ·rw [if_pos (zbe (by omega))]
   obtain ⟨x', hx⟩ := zpk hb (rec14 := zd2 b n) hp l big j x hj (zbC (by omega))
   obtain ⟨t, c, ht, hc⟩ := zrr hb h
   rw [hx, ht, Option.bind_some]
   cases c with
   | false => exact ⟨_, rfl, by simp⟩
   | true =>
    obtain ⟨c1, c2⟩ := hc rfl
    rw [if_neg (by simp), zbY (by omega), Option.bind_some]
    dsimp only
    rw [zlO (by omega)]
    obtain ⟨k', k1, k2, k3⟩ := zmD hb c2
    rw [k3, Option.bind_some]
    exact ih k' p _ x' k2 (by omega) (by omega) (by simp; omega)
  ·rw [if_neg (by simp; omega)]
   exact ⟨_, rfl, by simp; omega⟩
theorem zno (hb : b.length ≤ 16384) : ∃ v, zf3 b = some v ∧ v.1.length ≤ b.length := by
 unfold zf3
 rw [if_neg (by simp; omega)]
 obtain ⟨k', k1, k2, k3⟩ := zmD (b := b) (by omega) (k := 0) (by omega)
 have k3 : zfb b 0 = some (k' : Int) := k3
 rw [k3, Option.bind_some]
 exact zoH (by omega) big k' 0 [] 1 k2 (by omega) (zbC (by omega)) (by simp)
end
theorem zpa (b : List UInt8) : ziC b = some true := by
 unfold ziC
 rw [znr]
 by_cases h : (b.length : Int) > 8192
 ·rw [if_pos (zbe h)]
  rfl
 ·obtain ⟨w, hw, hl⟩ := zno (b := b) (by omega)
  rw [if_neg (by simp; omega), hw, Option.bind_some]
  split
  ·rfl
  ·obtain ⟨v, hv, h1, h2⟩ := zoR (T := w.1) (by omega)
   rw [h1, Option.bind_some, h2, Option.bind_some, zp1 (by omega) hv]
   simp
end Go.Proofs.Ytnhboaaikehpoaa
