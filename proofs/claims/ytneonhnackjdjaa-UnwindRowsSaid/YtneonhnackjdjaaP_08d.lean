import Derived.Test.YtneonhnackjdjaaAd
import Derived.Test.YtneonhnackjdjaaF
import Derived.Test.YtneonhnackjdjaaPL
import Derived.Test.YtneonhnackjdjaaP_02
import Derived.Test.YtneonhnackjdjaaP_08
import Derived.Test.YtneonhnackjdjaaP_08b
import Derived.Test.YtneonhnackjdjaaP_08c
namespace Go.Proofs.Ytneonhnackjdjaa
open Go.Ab Go.RowKit
set_option linter.unusedVariables false
set_option linter.unusedSimpArgs false
theorem reg_ok {K : List Bool} {R W : List Int} {B x k : Int} {j : Nat} (hk : k = (j : Int)) (hK : K[j]? = some true) (hR : R[j]? = some x) : zz ⟨K, R, B, W⟩ k = some (x, true) := by
  subst hk
  unfold zz
  obtain ⟨h1, _⟩ := List.getElem?_eq_some_iff.1 hK
  obtain ⟨h2, _⟩ := List.getElem?_eq_some_iff.1 hR
  simp only
  rw [decF (by omega), if_neg (by simp), getI_cast, hK, Option.bind_some, Option.bind_some, Bool.not_true, if_neg (by simp), decF (by omega), if_neg (by simp), getI_cast, hR]
  rfl
theorem word_ok {K : List Bool} {R W : List Int} {B x k : Int} {j : Nat} (hk : k = (j : Int)) (hW : W[j]? = some x) : zt ⟨K, R, B, W⟩ k = some (x, true) := by
  subst hk
  unfold zt
  obtain ⟨h1, _⟩ := List.getElem?_eq_some_iff.1 hW
  simp only
  rw [decF (by omega), decF (by omega), if_neg (by simp), getI_cast, hW]
  rfl
theorem copied_int {l : List Int} (h : l.length ≤ 1000000) : zy l = some l := by
  unfold zy mkI
  rw [if_pos (by omega), Int.toNat_natCast, Option.bind_some, List.length_replicate, List.take_of_length_le (by omega), List.drop_of_length_le (by simp), List.append_nil]
theorem copied_bool {l : List Bool} (h : l.length ≤ 1000000) : zZ l = some l := by
  unfold zZ mkI
  rw [if_pos (by omega), Int.toNat_natCast, Option.bind_some, List.length_replicate, List.take_of_length_le (by omega), List.drop_of_length_le (by simp), List.append_nil]
def Tab (T : List Ue) : Prop := T.length ≤ 20 ∧ ∀ (j : Nat) (h : j < T.length), T[j].From = 10 * (j : Int) ∧ T[j].To = 10 * (j : Int) + 10 ∧ T[j].Regs.length ≤ 6
theorem Find_loop {T : List Ue} (hT : Tab T) {i : Nat} (hi : i < T.length) : ∀ (n j : Nat), j ≤ i → i - j < n → zba T (10 * (i : Int) + 5) n (j : Int) = some (T[i], true)
  | 0, j, _, h => by omega
  | n + 1, j, hj, h => by
    show zK _ _ _ _ = _
    unfold zK
    have hjl : j < T.length := by omega
    have ht := hT.2 j hjl
    have h20 := hT.1
    rw [decT (by omega), if_pos rfl, getI_lt hjl, Option.bind_some]
    by_cases hij : j = i
    · subst hij
      rw [decT (by omega), decT (by omega), Bool.and_self, if_pos rfl]
      unfold zbr
      rw [room_ok (by omega), Option.bind_some, Option.bind_some]
    · rw [decF (show ¬ (10 * (i : Int) + 5 < T[j].To) by omega), Bool.and_false, if_neg (by simp), i64_succ (by omega)]
      exact Find_loop hT hi n (j + 1) (by omega) (by omega)
theorem zbG {T : List Ue} (hT : Tab T) {i : Nat} (hi : i < T.length) : zbc T (10 * (i : Int) + 5) = some (T[i], true) := Find_loop hT hi big 0 (by omega) (big_gt (by have := hT.1; omega))
theorem zbQ {T : List Ue} (hT : Tab T) {i : Nat} (hi : i < T.length) {K : List Bool} {R W : List Int} {B x : Int} (hK : K[15]? = some true) (hR : R[15]? = some x) (h1 : K.length ≤ 1000) (h2 : R.length ≤ 1000) (h3 : W.length ≤ 1000) : zm T (10 * (i : Int) + 5) ⟨K, R, B, W⟩ = some (⟨K, R, IntKind.i64.wrap (x + T[i].Up), W⟩, 0) := by
  unfold zm
  rw [zbG hT hi, Option.bind_some]
  simp only
  rw [reg_ok (k := 15) (j := 15) rfl hK hR, Option.bind_some]
  simp only
  rw [Bool.not_true, if_neg (by simp), copied_bool (by omega), Option.bind_some, copied_int (by omega), Option.bind_some, copied_int (by omega), Option.bind_some]
theorem Up15 {K0 : List Bool} {R0 W : List Int} {B : Int} (hK0 : ∀ j, 6 ≤ j → j ≤ 11 → K0[j]? = some true) (hR0 : 11 < R0.length) (c6 : zc × Int) (c24 : Ue × Bool) (c44 : Int × Bool) : ∀ (n k : Nat) (K : List Bool) (R : List Int), 6 ≤ k → k ≤ 12 → 12 - k < n → K.length = 16 → R.length = 16 →
    ∃ (K' : List Bool) (R' : List Int), zJ ⟨K0, R0, B, W⟩ c6 c24 c44 n K R (k : Int) = zx ⟨K0, R0, B, W⟩ c6 c24 c44 big (K'.set 15 true) (R'.set 15 c6.1.Base) 0 ∧ K'.length = 16 ∧ R'.length = 16 ∧ (∀ j : Nat, k ≤ j → j ≤ 11 → K'[j]? = some true ∧ R'[j]? = R0[j]?) ∧ (∀ j : Nat, j < k ∨ 11 < j → K'[j]? = K[j]? ∧ R'[j]? = R[j]?)
  | 0, k, _, _, _, _, h, _, _ => by omega
  | n + 1, k, K, R, h6, h12, h, hK, hR => by
    show ∃ (K' : List Bool) (R' : List Int), zT _ _ _ _ _ _ _ _ = _ ∧ _
    unfold zT
    by_cases hk : k ≤ 11
    · have hr : R0[k]? = some R0[k] := List.getElem?_eq_getElem (by omega)
      obtain ⟨K', R', e, l1, l2, h1, h2⟩ := Up15 hK0 hR0 c6 c24 c44 n (k + 1) (K.set k true) (R.set k R0[k]) (by omega) (by omega) (by omega) (by simpa using hK) (by simpa using hR)
      refine ⟨K', R', ?_, l1, l2, ?_, ?_⟩
      · rw [decT (by omega), if_pos rfl]
        simp only
        rw [reg_ok (j := k) rfl (hK0 k h6 hk) hr, Option.bind_some, getI_lt (show k < R.length by omega), Option.bind_some, getI_lt (show k < K.length by omega), Option.bind_some, i64_succ (by omega), Int.toNat_natCast]
        exact e
      · intro j hj1 hj2
        by_cases hjk : j = k
        · subst hjk
          have := h2 j (by omega)
          rw [this.1, this.2, List.getElem?_set_self (by omega), List.getElem?_set_self (by omega)]
          exact ⟨rfl, hr.symm⟩
        · exact h1 j (by omega) hj2
      · intro j hj
        have := h2 j (by omega)
        rw [this.1, this.2, List.getElem?_set_ne (by omega), List.getElem?_set_ne (by omega)]
        exact ⟨rfl, rfl⟩
    · refine ⟨K, R, ?_, hK, hR, fun j a b => by omega, fun j _ => ⟨rfl, rfl⟩⟩
      rw [decF (by omega), if_neg (by simp), show (15 : Int) = ((15 : Nat) : Int) from rfl, getI_lt (show 15 < R.length by omega), Option.bind_some, getI_lt (show 15 < K.length by omega), Option.bind_some]
      rfl
theorem Up17 {K0 : List Bool} {R0 W : List Int} {B bb : Int} (c6 : zc × Int) (c24 : Ue × Bool) (c44 : Int × Bool) (s : List Int) (hlen : c24.1.Regs.length ≤ 6) (hbb : c6.1.Base = bb)
    (hs : ∀ x ∈ c24.1.Regs, ∃ (r p : Nat) (y : Int), 6 ≤ r ∧ r ≤ 11 ∧ x.Reg = r ∧ IntKind.i64.wrap (bb + x.At) = (p : Int) ∧ W[p]? = some y ∧ s[r]? = some y) : ∀ (n i : Nat) (K : List Bool) (R : List Int), i ≤ c24.1.Regs.length → c24.1.Regs.length - i < n → K.length = 16 → R.length = 16 →
    ∃ (K' : List Bool) (R' : List Int), zx ⟨K0, R0, B, W⟩ c6 c24 c44 n K R (i : Int) = some (c44.1, ⟨K', R', 0, c6.1.Words⟩, 0) ∧ K'.length = 16 ∧ R'.length = 16 ∧ (∀ j : Nat, j < 6 ∨ 11 < j → K'[j]? = K[j]? ∧ R'[j]? = R[j]?) ∧ (∀ j : Nat, 6 ≤ j → j ≤ 11 → K[j]? = some true → K'[j]? = some true) ∧ (∀ j : Nat, 6 ≤ j → j ≤ 11 → ((∃ x ∈ c24.1.Regs.drop i, x.Reg = (j : Int)) ∨ R[j]? = s[j]?) → R'[j]? = s[j]?)
  | 0, i, _, _, _, h, _, _ => by omega
  | n + 1, i, K, R, hi, h, hK, hR => by
    show ∃ (K' : List Bool) (R' : List Int), zbj _ _ _ _ _ _ _ _ = _ ∧ _
    unfold zbj
    by_cases hlt : i < c24.1.Regs.length
    · obtain ⟨r, p, y, h6, h11, hr, hp, hW, hy⟩ := hs _ (List.getElem_mem hlt)
      obtain ⟨K', R', e, l1, l2, h1, h2, h3⟩ := Up17 (K0 := K0) (R0 := R0) (B := B) c6 c24 c44 s hlen hbb hs n (i + 1) (K.set r true) (R.set r y) (by omega) (by omega) (by simpa using hK) (by simpa using hR)
      refine ⟨K', R', ?_, l1, l2, ?_, ?_, ?_⟩
      · rw [decT (by omega), if_pos rfl, getI_lt hlt, Option.bind_some]
        simp only
        rw [hbb, word_ok hp hW, Option.bind_some, hr, getI_lt (show r < R.length by omega), Bool.not_true, if_neg (by simp), Option.bind_some, getI_lt (show r < K.length by omega), Option.bind_some, i64_succ (by omega), Int.toNat_natCast]
        exact e
      · intro j hj
        have := h1 j hj
        rw [this.1, this.2, List.getElem?_set_ne (by omega), List.getElem?_set_ne (by omega)]
        exact ⟨rfl, rfl⟩
      · intro j a b hj
        refine h2 j a b ?_
        by_cases hjr : r = j
        · subst hjr; exact List.getElem?_set_self (by omega)
        · rw [List.getElem?_set_ne hjr]; exact hj
      · intro j a b hj
        refine h3 j a b ?_
        by_cases hjr : r = j
        · subst hjr
          right
          rw [List.getElem?_set_self (by omega), hy]
        · rw [List.getElem?_set_ne hjr]
          rcases hj with ⟨x, hx, hxj⟩ | hj
          · rw [List.drop_eq_getElem_cons hlt] at hx
            rcases List.mem_cons.1 hx with rfl | hx
            · omega
            · exact .inl ⟨x, hx, hxj⟩
          · exact .inr hj
    · refine ⟨K, R, ?_, hK, hR, fun _ _ => ⟨rfl, rfl⟩, fun _ _ _ h => h, ?_⟩
      · rw [decF (by omega), if_neg (by simp)]
      · intro j _ _ hj
        rcases hj with ⟨x, hx, _⟩ | hj
        · rw [List.drop_of_length_le (by omega)] at hx
          cases hx
        · exact hj
def Fr (ret : Int) (W : List Int) (u : Ue) (s nx : List Int) : Prop :=
  rtR 5 u.Regs = true ∧ s.length = 16 ∧ ∃ b c : Nat, s[15]? = some (b : Int) ∧ nx[15]? = some (c : Int) ∧ u.Up = ((b - c : Nat) : Int) ∧ c + 10 ≤ b ∧ b ≤ c + 19 ∧ b ≤ 600 ∧ W[b - 1]? = some ret ∧
    (∀ x ∈ u.Regs, ∃ r p : Nat, 6 ≤ r ∧ r ≤ 11 ∧ x.Reg = r ∧ (b : Int) + x.At = p ∧ c ≤ p ∧ W[p]? = s[r]?) ∧ (∀ k : Nat, 6 ≤ k → k ≤ 11 → (∃ x ∈ u.Regs, x.Reg = (k : Int)) ∨ nx[k]? = s[k]?)
theorem Fr.agree {ret : Int} {W W' : List Int} {u : Ue} {s nx : List Int} (h : Fr ret W u s nx) {d : Nat} (hd : ∀ c : Nat, nx[15]? = some (c : Int) → d ≤ c) (hW : ∀ p, d ≤ p → W'[p]? = W[p]?) : Fr ret W' u s nx := by
  obtain ⟨h1, h2, b, c, h3, h4, h5, h6, h7, h8, h9, h10, h11⟩ := h
  have hc := hd c h4
  refine ⟨h1, h2, b, c, h3, h4, h5, h6, h7, h8, ?_, ?_, h11⟩
  · rw [hW _ (by omega)]; exact h9
  · intro x hx
    obtain ⟨r, p, a1, a2, a3, a4, a5, a6⟩ := h10 x hx
    exact ⟨r, p, a1, a2, a3, a4, a5, by rw [hW _ (by omega)]; exact a6⟩
theorem P_Up {T : List Ue} (hT : Tab T) {i : Nat} (hi : i < T.length) {K : List Bool} {R W s nx : List Int} {B ret : Int} (hF : Fr ret W T[i] s nx) (hK : K.length = 16) (hR : R.length = 16) (hW : W.length = 600)
    (hKt : ∀ j, 6 ≤ j → j ≤ 11 ∨ j = 15 → K[j]? = some true) (hRn : ∀ j, 6 ≤ j → j ≤ 11 ∨ j = 15 → R[j]? = nx[j]?) (hret : 0 ≤ ret ∧ ret < 16777216) :
    ∃ (b : Nat) (K' : List Bool) (R' : List Int), s[15]? = some (b : Int) ∧ zm T (10 * (i : Int) + 5) ⟨K, R, B, W⟩ = some (⟨K, R, b, W⟩, 0) ∧ zk T (10 * (i : Int) + 5) ⟨K, R, B, W⟩ = some (ret, ⟨K', R', 0, W⟩, 0) ∧ K'.length = 16 ∧ R'.length = 16 ∧
      (∀ j : Nat, 6 ≤ j → j ≤ 11 ∨ j = 15 → K'[j]? = some true) ∧ (∀ j : Nat, 6 ≤ j → j ≤ 11 ∨ j = 15 → R'[j]? = s[j]?) ∧ (∀ j : Nat, j < 6 ∨ 11 < j → j < 15 → K'[j]? = some false) := by
  obtain ⟨h1, h2, b, c, h3, h4, h5, h6, h7, h8, h9, h10, h11⟩ := hF
  have h15 : R[15]? = some (c : Int) := by rw [hRn 15 (by omega) (by omega)]; exact h4
  have hfr := zbQ hT hi (B := B) (hKt 15 (by omega) (by omega)) h15 (by omega) (by omega) (show W.length ≤ 1000 by omega)
  have hb : IntKind.i64.wrap ((c : Int) + T[i].Up) = (b : Int) := by rw [wi64 (by omega)]; omega
  rw [hb] at hfr
  have ht := hT.2 i hi
  have h20 := hT.1
  let c6 : zc × Int := (⟨K, R, (b : Int), W⟩, 0)
  let c24 : Ue × Bool := (T[i], true)
  let c44 : Int × Bool := (ret, true)
  obtain ⟨K1, R1, e1, l1, l2, a1, a2⟩ := Up15 (K0 := K) (R0 := R) (W := W) (B := B) (fun j x y => hKt j x (.inl y)) (by omega) c6 c24 c44 big 6 (List.replicate 16 false) (List.replicate 16 0) (by omega) (by omega) (big_gt (by omega)) (by simp) (by simp)
  have hs : ∀ x ∈ c24.1.Regs, ∃ (r p : Nat) (y : Int), 6 ≤ r ∧ r ≤ 11 ∧ x.Reg = r ∧ IntKind.i64.wrap ((b : Int) + x.At) = (p : Int) ∧ W[p]? = some y ∧ s[r]? = some y := by
    intro x hx
    obtain ⟨r, p, b1, b2, b3, b4, b5, b6⟩ := h10 x hx
    have hreg := rtR_reg h1 (by omega) x hx
    have hsr : s[r]? = some s[r] := List.getElem?_eq_getElem (by omega)
    exact ⟨r, p, s[r], b1, b2, b3, by rw [wi64 (by omega)]; exact b4, by rw [b6]; exact hsr, hsr⟩
  obtain ⟨K2, R2, e2, m1, m2, g1, g2, g3⟩ := Up17 (K0 := K) (R0 := R) (W := W) (B := B) (bb := (b : Int)) c6 c24 c44 s ht.2.2 rfl hs big 0 (K1.set 15 true) (R1.set 15 (b : Int)) (by omega) (big_gt (by have := ht.2.2; show T[i].Regs.length - 0 ≤ _; omega)) (by simpa using l1) (by simpa using l2)
  refine ⟨b, K2, R2, h3, hfr, ?_, m1, m2, ?_, ?_, ?_⟩
  · have hR1 : zl [T[i]] = some true := by
      rw [zbx ⟨by simp, by intro x hx; rw [List.mem_singleton.1 hx]; omega⟩]
      have : okU 0 T[i] := by unfold okU; omega
      simp [Ut, rtU, this, h1]
    unfold zk
    simp only
    rw [hfr, Option.bind_some, bneF rfl, if_neg (by simp), zbG hT hi, Option.bind_some]
    simp only
    rw [hR1, Option.bind_some, Bool.not_true, if_neg (by simp), word_ok (j := b - 1) (by rw [wi64 (by omega)]; omega) h9, Option.bind_some]
    simp only
    rw [Bool.not_true, decF (by omega), decF (by omega), if_neg (by simp), show mkI false 16 16 = some (List.replicate 16 false) from rfl, Option.bind_some, show mkI (0 : Int) 16 16 = some (List.replicate 16 0) from rfl, Option.bind_some]
    unfold zbw
    exact e1.trans e2
  · intro j hj hj2
    rcases hj2 with hj2 | rfl
    · refine g2 j hj hj2 ?_
      rw [List.getElem?_set_ne (by omega)]
      exact (a1 j hj hj2).1
    · rw [(g1 15 (by omega)).1]
      exact List.getElem?_set_self (by omega)
  · intro j hj hj2
    rcases hj2 with hj2 | rfl
    · refine g3 j hj hj2 ?_
      rcases h11 j hj hj2 with hx | hx
      · left; rw [List.drop_zero]; exact hx
      · right
        rw [List.getElem?_set_ne (by omega), (a1 j hj hj2).2, hRn j hj (.inl hj2), hx]
    · rw [(g1 15 (by omega)).2, h3]
      exact List.getElem?_set_self (by omega)
  · intro j hj hj2
    rw [(g1 j (by omega)).1, List.getElem?_set_ne (by omega), (a2 j (by omega)).1, List.getElem?_replicate, if_pos (by omega)]
def nxt (S : List (List Int)) (R : List Int) (i : Nat) : List Int := (S[i]?).getD R
def rt (i : Nat) : Int := if i = 0 then 9999 else 10 * ((i : Int) - 1) + 5
structure Stk (W : List Int) (T : List Ue) (S : List (List Int)) (R : List Int) : Prop where
  tab : Tab T
  len : S.length = T.length
  w : W.length = 600
  r : R.length = 16
  fr : ∀ (i : Nat) (h : i < T.length), Fr (rt i) W T[i] (nxt S R i) (nxt S R (i + 1))
theorem l2949 (rec : List (List Int) → List Bool → List Int → Int → List Int → Int → Option Bool) (i : Nat) (hi : i < 100) {S : List (List Int)} {K : List Bool} {R W : List Int} {B ret e : Int} (hK : K.length = 16) (hf : ∀ j, j < 6 ∨ 11 < j → j < 15 → K[j]? = some false) : ∀ (n k : Nat), k ≤ 6 → 6 - k < n → zQ rec (i : Int) (ret, ⟨K, R, B, W⟩, e) n S (k : Int) = rec S K R B W ((i : Int) - 1)
  | 0, k, _, h => by omega
  | n + 1, k, hk, h => by
    show zbf _ _ _ _ _ _ = _
    unfold zbf
    by_cases hlt : k < 6
    · have e2 : IntKind.i64.wrap (12 + (Int.tmod (k : Int) 3)) = ((12 + k % 3 : Nat) : Int) := by
        rw [show Int.tmod (k : Int) 3 = ((k % 3 : Nat) : Int) from rfl, wi64 (by omega)]
        omega
      rw [decT (by omega), if_pos rfl]
      simp only
      rw [getI_cast, hf k (by omega) (by omega), Option.bind_some, if_neg (by simp), e2, getI_cast, hf (12 + k % 3) (by omega) (by omega), Option.bind_some, Option.bind_some, if_neg (by simp), i64_succ (by omega)]
      exact l2949 rec i hi hK hf n (k + 1) (by omega) (by omega)
    · rw [decF (by omega), if_neg (by simp), wi64 (by omega)]
theorem l2947 (rec : List (List Int) → List Bool → List Int → Int → List Int → Int → Option Bool) (i : Nat) (hi : i < 100) {S : List (List Int)} {s : List Int} (hS : S[i]? = some s) (hs : s.length = 16) {K : List Bool} {R W : List Int} {B ret e : Int} (hK : K.length = 16) (hf : ∀ j, j < 6 ∨ 11 < j → j < 15 → K[j]? = some false)
    (ht : ∀ j, 6 ≤ j → j ≤ 11 ∨ j = 15 → K[j]? = some true) (hR : ∀ j, 6 ≤ j → j ≤ 11 ∨ j = 15 → R[j]? = s[j]?) : ∀ (n k : Nat), 6 ≤ k → k ≤ 12 → 12 - k < n → zN rec (i : Int) (ret, ⟨K, R, B, W⟩, e) n S (k : Int) = rec S K R B W ((i : Int) - 1)
  | 0, k, _, _, h => by omega
  | n + 1, k, h6, hk, h => by
    show z6 _ _ _ _ _ _ = _
    unfold z6
    by_cases hlt : k ≤ 11
    · have hsk : s[k]? = some s[k] := List.getElem?_eq_getElem (by omega)
      rw [decT (by omega), if_pos rfl]
      simp only
      rw [getI_cast, ht k h6 (.inl hlt), Option.bind_some, Bool.not_true, if_neg (by simp), getI_cast, hR k h6 (.inl hlt), hsk, Option.bind_some, getI_cast, hS, Option.bind_some, getI_cast, hsk, Option.bind_some, Option.bind_some, bneF rfl, if_neg (by simp), i64_succ (by omega)]
      exact l2947 rec i hi hS hs hK hf ht hR n (k + 1) (by omega) (by omega) (by omega)
    · rw [decF (by omega), if_neg (by simp)]
      exact l2949 rec i hi hK hf big 0 (by omega) (big_gt (by omega))
theorem l2941 {W : List Int} {T : List Ue} {S : List (List Int)} {R : List Int} (hS : Stk W T S R) : ∀ (n m : Nat) (K : List Bool) (V : List Int) (B : Int), m ≤ T.length → m < n → K.length = 16 → V.length = 16 → (∀ j : Nat, 6 ≤ j → j ≤ 11 ∨ j = 15 → K[j]? = some true) → (∀ j : Nat, 6 ≤ j → j ≤ 11 ∨ j = 15 → V[j]? = (nxt S R m)[j]?) → zg T n S K V B W ((m : Int) - 1) = some true
  | 0, m, _, _, _, _, h, _, _, _, _ => by omega
  | n + 1, m, K, V, B, hm, h, hK, hV, ht, hv => by
    show zM _ _ _ _ _ _ _ _ = _
    unfold zM
    have h20 := hS.tab.1
    cases m with
    | zero => rw [decF (by omega), if_neg (by simp), zbN]; rfl
    | succ i =>
      have hi : i < T.length := by omega
      have hfr := hS.fr i hi
      have hrt : 0 ≤ rt i ∧ rt i < 16777216 := by unfold rt; split <;> omega
      obtain ⟨b, K', R', hb, e1, e2, l1, l2, a1, a2, a3⟩ := P_Up hS.tab hi (B := B) hfr hK hV hS.w ht hv hrt
      have hi2 : i < S.length := by have := hS.len; omega
      have hSi : S[i]? = some S[i] := List.getElem?_eq_getElem hi2
      have hn : nxt S R i = S[i] := by unfold nxt; rw [hSi]; rfl
      rw [hn] at hb a2
      have hsl : S[i].length = 16 := by have := hfr.2.1; rwa [hn] at this
      have ei : (((i + 1 : Nat) : Int) - 1) = (i : Int) := by omega
      have epc : IntKind.i64.wrap (IntKind.i64.wrap (10 * (i : Int)) + 5) = 10 * (i : Int) + 5 := by rw [wi64 (show -9223372036854775808 ≤ 10 * (i : Int) ∧ 10 * (i : Int) ≤ 9223372036854775807 by omega), wi64 (by omega)]
      have h15 : getI S[i] 15 = some (b : Int) := (getI_cast S[i] 15).trans hb
      have hR15 : getI R' 15 = some (b : Int) := (getI_cast R' 15).trans ((a2 15 (by omega) (.inr rfl)).trans hb)
      have hK15 : getI K' 15 = some true := (getI_cast K' 15).trans (a1 15 (by omega) (.inr rfl))
      rw [ei, decT (by omega), if_pos rfl, epc, e1, Option.bind_some, e2, Option.bind_some]
      simp only
      rw [bneF rfl, Bool.or_self, if_neg (by simp), getI_cast, hSi, Option.bind_some, h15, Option.bind_some, Option.bind_some, bneF rfl, bneF (by rw [l2]; rfl), bneF (by rw [l1]; rfl), Bool.or_self, Bool.or_self, if_neg (by simp), hR15, Option.bind_some, Option.bind_some, h15, Option.bind_some, Option.bind_some, bneF rfl, if_neg (by simp), hK15, Option.bind_some, Option.bind_some, Bool.not_true, if_neg (by simp)]
      have erec := l2947 (zg T n) i (by omega) hSi hsl (R := R') (W := W) (B := 0) (ret := rt i) (e := 0) l1 a3 a1 a2 big 6 (by omega) (by omega) (big_gt (by omega))
      have ih := l2941 hS n i K' R' 0 (by omega) (by omega) l1 l2 a1 (by rw [hn]; exact a2)
      by_cases h0 : i = 0
      · subst h0
        rw [decF (by omega), Bool.false_and, if_neg (by simp), if_pos (show (((0 : Nat) : Int) == 0) = true from rfl), show rt 0 = 9999 from rfl, bneF rfl, Option.bind_some, if_neg (by simp)]
        rw [show rt 0 = 9999 from rfl] at erec
        exact erec.trans ih
      · have ert : rt i = IntKind.i64.wrap (IntKind.i64.wrap (10 * IntKind.i64.wrap ((i : Int) - 1)) + 5) := by
          unfold rt
          rw [if_neg h0, wi64 (show -9223372036854775808 ≤ (i : Int) - 1 ∧ (i : Int) - 1 ≤ 9223372036854775807 by omega), wi64 (show -9223372036854775808 ≤ 10 * ((i : Int) - 1) ∧ 10 * ((i : Int) - 1) ≤ 9223372036854775807 by omega), wi64 (by omega)]
        rw [bneF ert, Bool.and_false, if_neg (by simp), beqF (by omega), if_neg (by simp), Option.bind_some, if_neg (by simp)]
        exact erec.trans ih
theorem l2891 {W : List Int} {T : List Ue} {S : List (List Int)} {R : List Int} {p0 : List UInt8} (hS : Stk W T S R) (hp : p0.length = T.length) : ∀ (n k : Nat), k ≤ 16 → 16 - k < n → zbk p0 n T S (List.replicate k true) R W (k : Int) = some true
  | 0, k, _, h => by omega
  | n + 1, k, hk, h => by
    show zbg _ _ _ _ _ _ _ _ = _
    unfold zbg
    have h20 := hS.tab.1
    by_cases hlt : k < 16
    · rw [decT (by omega), if_pos rfl, room_ok (by simp; omega), Option.bind_some, i64_succ (by omega), ← List.replicate_succ']
      exact l2891 hS hp n (k + 1) (by omega) (by omega)
    · obtain rfl : k = 16 := by omega
      rw [decF (by omega), if_neg (by simp), wi64 (by omega), hp]
      have e : nxt S R T.length = R := by unfold nxt; rw [List.getElem?_eq_none (by have := hS.len; omega)]; rfl
      refine l2941 hS big T.length _ _ _ (by omega) (big_gt (by omega)) (by simp) hS.r ?_ ?_
      · intro j a b; rw [List.getElem?_replicate, if_pos (by omega)]
      · intro j _ _; rw [e]
theorem rtR_snoc : ∀ {l : List Sv} {r : Int} {x : Sv}, rtR r l = true → r < x.Reg → (∀ y ∈ l, y.Reg < x.Reg) → x.Reg ≤ 11 → x.At ≤ -2 → -65536 ≤ x.At → rtR r (l ++ [x]) = true
  | [], r, x, _, h1, _, h3, h4, h5 => by
    have : okR r x := ⟨h1, h3, h4, h5⟩
    simp [rtR, this]
  | y :: l, r, x, h, h1, h2, h3, h4, h5 => by
    simp only [rtR, Bool.and_eq_true, decide_eq_true_eq, List.cons_append] at h ⊢
    exact ⟨h.1, rtR_snoc h.2 (h2 y (by simp)) (fun z hz => h2 z (List.mem_cons_of_mem _ hz)) h3 h4 h5⟩
structure Lay (B k : Nat) (W1 s : List Int) (W R : List Int) (rg : List Sv) : Prop where
  w : W.length = 600
  r : R.length = 16
  top : R[15]? = some (B : Int)
  ag : ∀ p, B ≤ p + 1 → W[p]? = W1[p]?
  ln : rg.length ≤ k
  rt : rtR 5 rg = true
  lt : ∀ x ∈ rg, x.Reg < 6 + (k : Int)
  sv : ∀ x ∈ rg, ∃ r p : Nat, 6 ≤ r ∧ r ≤ 11 ∧ x.Reg = r ∧ (B : Int) + x.At = p ∧ B ≤ p + 1 + rg.length ∧ W[p]? = s[r]?
  kp : ∀ k' : Nat, 6 ≤ k' → k' ≤ 11 → (∃ x ∈ rg, x.Reg = (k' : Int)) ∨ R[k']? = s[k']?
theorem l2781 (rec : List Int → List Int → List Ue → List (List Int) → Int → Option Bool) {p1 : List UInt8} {i : Nat} (hi : i < 20) (hp : i < p1.length) (y : UInt8) {B : Nat} (hB : 200 ≤ B ∧ B ≤ 600) {W1 s : List Int} (hs : s.length = 16) (T : List Ue) (hT : T.length ≤ 100) (S : List (List Int)) : ∀ (n k : Nat) (W R : List Int) (rg : List Sv), k ≤ 6 → 6 - k < n → Lay B k W1 s W R rg →
    ∃ W' R' rg', zbi rec p1 (i : Int) y (B : Int) n W R T S rg (k : Int) = rec W' (R'.set 15 ((B - (10 + y.toNat % 10) : Nat) : Int)) (T ++ [⟨10 * (i : Int), 10 * (i : Int) + 10, ((10 + y.toNat % 10 : Nat) : Int), rg'⟩]) S ((i + 1 : Nat) : Int) ∧ Lay B 6 W1 s W' R' rg'
  | 0, k, _, _, _, _, h, _ => by omega
  | n + 1, k, W, R, rg, hk, h, L => by
    show ∃ W' R' rg', z5 _ _ _ _ _ _ _ _ _ _ _ _ = _ ∧ _
    unfold z5
    have hln := L.ln
    by_cases hlt : k < 6
    · have hsh : shrO .u8 (p1[i].toNat : Int) (k : Int) = some (shrI .u8 (p1[i].toNat : Int) (k : Int)) := by unfold shrO; rw [if_neg (by omega)]
      rw [decT (by omega), if_pos rfl, getI_lt hp, Option.bind_some, hsh, Option.bind_some]
      by_cases hc : (andI .u8 (shrI .u8 (p1[i].toNat : Int) (k : Int)) 1 == 1) = true
      · have e1 : IntKind.i64.wrap (6 + (k : Int)) = ((6 + k : Nat) : Int) := by rw [wi64 (by omega)]; omega
        have e2 : IntKind.i64.wrap (-2 - (rg.length : Int)) = -2 - (rg.length : Int) := wi64 (by omega)
        obtain ⟨q, hq⟩ : ∃ q : Nat, (B : Int) + (-2 - (rg.length : Int)) = (q : Int) := ⟨B - 2 - rg.length, by omega⟩
        have e3 : IntKind.i64.wrap ((B : Int) + (-2 - (rg.length : Int))) = (q : Int) := by rw [wi64 (by omega)]; exact hq
        have hr6 : 6 + k < R.length := by have := L.r; omega
        have hq6 : q < W.length := by have := L.w; omega
        have e4 : IntKind.i64.wrap (IntKind.i64.wrap (1000 * (i : Int)) + (k : Int)) = 1000 * (i : Int) + k := by rw [wi64 (show -9223372036854775808 ≤ 1000 * (i : Int) ∧ 1000 * (i : Int) ≤ 9223372036854775807 by omega), wi64 (by omega)]
        have hsame : R[6 + k]? = s[6 + k]? := by
          rcases L.kp (6 + k) (by omega) (by omega) with ⟨x, hx, hxr⟩ | h
          · have := L.lt x hx; omega
          · exact h
        have hget : R[6 + k]? = some R[6 + k] := List.getElem?_eq_getElem hr6
        have L' : Lay B (k + 1) W1 s (W.set q R[6 + k]) (R.set (6 + k) (1000 * (i : Int) + k)) (rg ++ [⟨((6 + k : Nat) : Int), -2 - (rg.length : Int)⟩]) := by
          refine ⟨by simpa using L.w, by simpa using L.r, ?_, ?_, ?_, ?_, ?_, ?_, ?_⟩
          · rw [List.getElem?_set_ne (by omega)]; exact L.top
          · intro p hp'; rw [List.getElem?_set_ne (by omega)]; exact L.ag p hp'
          · simp; omega
          · refine rtR_snoc L.rt (by show (5 : Int) < ((6 + k : Nat) : Int); omega) (fun z hz => ?_) (by show ((6 + k : Nat) : Int) ≤ 11; omega) (by show -2 - (rg.length : Int) ≤ -2; omega) (by show -65536 ≤ -2 - (rg.length : Int); omega)
            have := L.lt z hz
            show z.Reg < ((6 + k : Nat) : Int)
            omega
          · intro x hx
            rcases List.mem_append.1 hx with hx | hx
            · have := L.lt x hx; omega
            · rw [List.mem_singleton.1 hx]; show ((6 + k : Nat) : Int) < _; omega
          · intro x hx
            rcases List.mem_append.1 hx with hx | hx
            · obtain ⟨r, p, a1, a2, a3, a4, a5, a6⟩ := L.sv x hx
              refine ⟨r, p, a1, a2, a3, a4, by simp; omega, ?_⟩
              rw [List.getElem?_set_ne (by omega)]; exact a6
            · rw [List.mem_singleton.1 hx]
              refine ⟨6 + k, q, by omega, by omega, rfl, hq, by simp; omega, ?_⟩
              rw [List.getElem?_set_self hq6, ← hsame, hget]
          · intro k' a b
            by_cases hkk : k' = 6 + k
            · subst hkk
              exact .inl ⟨_, List.mem_append_right _ (List.mem_singleton.2 rfl), rfl⟩
            · rcases L.kp k' a b with ⟨x, hx, hxr⟩ | h
              · exact .inl ⟨x, List.mem_append_left _ hx, hxr⟩
              · right; rw [List.getElem?_set_ne (by omega)]; exact h
        obtain ⟨W', R', rg', e, LL⟩ := l2781 rec hi hp y hB hs T hT S n (k + 1) _ _ _ (by omega) (by omega) L'
        refine ⟨W', R', rg', ?_, LL⟩
        rw [if_pos hc, e1, getI_lt hr6, Option.bind_some, e2, e3, getI_lt hq6, Option.bind_some, room_ok (by omega), Option.bind_some, Option.bind_some, Int.toNat_natCast, Int.toNat_natCast, e4, i64_succ (by omega)]
        exact e
      · have L' : Lay B (k + 1) W1 s W R rg := ⟨L.w, L.r, L.top, L.ag, by omega, L.rt, fun x hx => by have := L.lt x hx; omega, L.sv, L.kp⟩
        obtain ⟨W', R', rg', e, LL⟩ := l2781 rec hi hp y hB hs T hT S n (k + 1) _ _ _ (by omega) (by omega) L'
        refine ⟨W', R', rg', ?_, LL⟩
        rw [if_neg hc, i64_succ (by omega)]
        exact e
    · obtain rfl : k = 6 := by omega
      refine ⟨W, R, rg, ?_, L⟩
      have hm : Int.tmod (y.toNat : Int) 10 = ((y.toNat % 10 : Nat) : Int) := rfl
      have e1 : IntKind.i64.wrap (10 + IntKind.i64.wrap (Int.tmod (y.toNat : Int) 10)) = ((10 + y.toNat % 10 : Nat) : Int) := by rw [hm, wi64 (show -9223372036854775808 ≤ ((y.toNat % 10 : Nat) : Int) ∧ ((y.toNat % 10 : Nat) : Int) ≤ 9223372036854775807 by omega), wi64 (by omega)]; omega
      have e2 : IntKind.i64.wrap (10 * (i : Int)) = 10 * (i : Int) := wi64 (by omega)
      have e3 : IntKind.i64.wrap (10 * (i : Int) + 10) = 10 * (i : Int) + 10 := wi64 (by omega)
      have e4 : IntKind.i64.wrap ((B : Int) - ((10 + y.toNat % 10 : Nat) : Int)) = ((B - (10 + y.toNat % 10) : Nat) : Int) := by rw [wi64 (by omega)]; omega
      have hg : getI R 15 = some (B : Int) := (getI_cast R 15).trans L.top
      rw [decF (by omega), if_neg (by simp), hg, Option.bind_some, room_ok (by omega), Option.bind_some, e1, e2, e3, e4, i64_succ (by omega)]
      rfl
theorem l2778 {p0 p1 : List UInt8} (h0 : p0.length ≤ 20) (h1 : p0.length ≤ p1.length) : ∀ (n i : Nat) (W R : List Int) (T : List Ue) (S : List (List Int)) (B : Nat), i ≤ p0.length → p0.length - i < n → Stk W T S R → T.length = i → R[15]? = some (B : Int) → 600 ≤ B + 19 * i → B ≤ 600 → (∀ j, j < T.length → ∀ c : Nat, (nxt S R (j + 1))[15]? = some (c : Int) → B ≤ c) →
    zi p0 p1 n W R T S (i : Int) = some true
  | 0, i, _, _, _, _, _, _, h, _, _, _, _, _, _ => by omega
  | n + 1, i, W, R, T, S, B, hi, h, hS, hT, hR, hB1, hB2, hlow => by
    show z3 _ _ _ _ _ _ _ _ = _
    unfold z3
    have hSl := hS.len
    have hRl := hS.r
    have hWl := hS.w
    by_cases hlt : i < p0.length
    · have hg : getI R 15 = some (B : Int) := (getI_cast R 15).trans hR
      have eB : IntKind.i64.wrap ((B : Int) - 1) = ((B - 1 : Nat) : Int) := by rw [wi64 (by omega)]; omega
      have hBW : B - 1 < W.length := by omega
      rw [decT (by omega), if_pos rfl, room_ok (by simp; omega), Option.bind_some, room_ok (by omega), Option.bind_some, getI_lt hlt, Option.bind_some, hg, Option.bind_some, eB, getI_lt hBW, Option.bind_some, Int.toNat_natCast, List.nil_append]
      have fin : ∀ W1 : List Int, W1.length = 600 → W1[B - 1]? = some (rt i) → (∀ p, B ≤ p → W1[p]? = W[p]?) → zA (zi p0 p1 n) p1 (i : Int) p0[i] (B : Int) W1 R T (S ++ [R]) = some true := by
        intro W1 w1 w2 w3
        unfold zA
        have L0 : Lay B 0 W1 R W1 R [] := ⟨w1, hRl, hR, fun _ _ => rfl, by simp, rfl, by simp, by simp, fun _ _ _ => .inr rfl⟩
        obtain ⟨W', R', rg, e, L⟩ := l2781 (zi p0 p1 n) (by omega) (show i < p1.length by omega) p0[i] (show 200 ≤ B ∧ B ≤ 600 by omega) hRl T (by omega) (S ++ [R]) big 0 W1 R [] (by omega) (big_gt (by omega)) L0
        refine Eq.trans e ?_
        generalize hu : (10 + p0[i].toNat % 10) = u
        have hu2 : 10 ≤ u ∧ u ≤ 19 := by omega
        have hrl := rtR_len rg 5 L.rt (by omega)
        have hR2 : (R'.set 15 ((B - u : Nat) : Int))[15]? = some ((B - u : Nat) : Int) := List.getElem?_set_self (by have := L.r; omega)
        have en : ∀ j, j < i → nxt (S ++ [R]) (R'.set 15 ((B - u : Nat) : Int)) j = nxt S R j := by
          intro j hj
          unfold nxt
          rw [List.getElem?_append_left (by omega), List.getElem?_eq_getElem (show j < S.length by omega)]
          rfl
        have en1 : nxt (S ++ [R]) (R'.set 15 ((B - u : Nat) : Int)) i = R := by
          unfold nxt
          rw [List.getElem?_append_right (by omega), show i - S.length = 0 by omega]
          rfl
        have en2 : nxt S R i = R := by
          unfold nxt
          rw [List.getElem?_eq_none (by omega)]
          rfl
        have en3 : nxt (S ++ [R]) (R'.set 15 ((B - u : Nat) : Int)) (i + 1) = R'.set 15 ((B - u : Nat) : Int) := by
          unfold nxt
          rw [List.getElem?_eq_none (by simp; omega)]
          rfl
        have en4 : ∀ j, j < i → nxt (S ++ [R]) (R'.set 15 ((B - u : Nat) : Int)) (j + 1) = nxt S R (j + 1) := by
          intro j hj
          by_cases hji : j + 1 = i
          · rw [hji, en1, en2]
          · exact en (j + 1) (by omega)
        refine l2778 h0 h1 n (i + 1) _ _ _ _ (B - u) (by omega) (by omega) ⟨⟨by simp; omega, ?_⟩, by simp; omega, L.w, by simpa using L.r, ?_⟩ (by simp; omega) hR2 (by omega) (by omega) ?_
        · intro j hj
          by_cases hji : j < T.length
          · rw [List.getElem_append_left hji]
            exact hS.tab.2 j hji
          · have : j = T.length := by simp at hj; omega
            subst this
            rw [List.getElem_concat_length rfl]
            refine ⟨by show 10 * (i : Int) = _; omega, by show 10 * (i : Int) + 10 = _; omega, ?_⟩
            show rg.length ≤ 6
            omega
        · intro j hj
          by_cases hji : j < T.length
          · rw [List.getElem_append_left hji, en j (by omega), en4 j (by omega)]
            refine (hS.fr j hji).agree (hlow j hji) fun p hp => ?_
            rw [L.ag p (by omega), w3 p hp]
          · have hjT : j = T.length := by simp at hj; omega
            subst hjT
            rw [List.getElem_concat_length rfl, hT, en1, en3]
            refine ⟨L.rt, hRl, B, B - u, hR, hR2, by show ((u : Nat) : Int) = _; omega, by omega, by omega, by omega, ?_, ?_, ?_⟩
            · rw [L.ag _ (by omega)]; exact w2
            · intro x hx
              obtain ⟨r, p, a1, a2, a3, a4, a5, a6⟩ := L.sv x hx
              exact ⟨r, p, a1, a2, a3, a4, by have := L.ln; omega, a6⟩
            · intro k a b
              rcases L.kp k a b with h | h
              · exact .inl h
              · right; rw [List.getElem?_set_ne (by omega)]; exact h
        · intro j hj c hc
          by_cases hji : j < T.length
          · rw [en4 j (by omega)] at hc
            have := hlow j hji c hc
            omega
          · have hjT : j = T.length := by simp at hj; omega
            rw [hjT, hT, en3, hR2] at hc
            injection hc with hc
            omega
      have hset : ∀ x : Int, (W.set (B - 1) x).length = 600 := fun x => by simpa using hWl
      have hbe : B - 1 < (W.set (B - 1) 9999).length := by rw [hset]; omega
      by_cases hpos : i = 0
      · subst hpos
        rw [decF (by omega), if_neg (by simp)]
        refine fin _ (hset _) ?_ fun p hp => List.getElem?_set_ne (by omega)
        rw [List.getElem?_set_self hBW]
        rfl
      · have ert : IntKind.i64.wrap (IntKind.i64.wrap (10 * IntKind.i64.wrap ((i : Int) - 1)) + 5) = rt i := by
          unfold rt
          rw [if_neg hpos, wi64 (show -9223372036854775808 ≤ (i : Int) - 1 ∧ (i : Int) - 1 ≤ 9223372036854775807 by omega), wi64 (show -9223372036854775808 ≤ 10 * ((i : Int) - 1) ∧ 10 * ((i : Int) - 1) ≤ 9223372036854775807 by omega), wi64 (by omega)]
        rw [decT (by omega), if_pos rfl, getI_lt hbe, Option.bind_some, ert]
        refine fin _ (by simpa using hWl) ?_ fun p hp => ?_
        · rw [List.getElem?_set_self hbe]
        · rw [List.getElem?_set_ne (by omega), List.getElem?_set_ne (by omega)]
    · rw [decF (by omega), if_neg (by simp)]
      exact l2891 hS (by omega) big 0 (by omega) (big_gt (by omega))
theorem l2458 {p0 p1 : List UInt8} {p2 : List Int} (h0 : p0.length ≤ 20) (h1 : p0.length ≤ p1.length) (h2 : 6 ≤ p2.length) : ∀ (n k : Nat) (R : List Int), k ≤ 6 → 6 - k < n → R.length = 16 → zbh p0 p1 p2 n (List.replicate 600 0) R (k : Int) = some true
  | 0, k, _, _, h, _ => by omega
  | n + 1, k, R, hk, h, hR => by
    show zC _ _ _ _ _ _ _ = _
    unfold zC
    by_cases hlt : k < 6
    · have e1 : IntKind.i64.wrap (6 + (k : Int)) = ((6 + k : Nat) : Int) := by rw [wi64 (by omega)]; omega
      rw [decT (by omega), if_pos rfl, getI_lt (show k < p2.length by omega), Option.bind_some, e1, getI_lt (show 6 + k < R.length by omega), Option.bind_some, Int.toNat_natCast, i64_succ (by omega)]
      exact l2458 h0 h1 h2 n (k + 1) _ (by omega) (by omega) (by simpa using hR)
    · rw [decF (by omega), if_neg (by simp), show (15 : Int) = ((15 : Nat) : Int) from rfl, getI_lt (show 15 < R.length by omega), Option.bind_some, Int.toNat_natCast]
      exact l2778 h0 h1 big 0 _ _ [] [] 600 (by omega) (big_gt (by omega)) ⟨⟨by simp, fun j hj => (nomatch hj)⟩, rfl, List.length_replicate, by simpa using hR, fun j hj => (nomatch hj)⟩ rfl (List.getElem?_set_self (by omega)) (by omega) (by omega) (fun j hj => (nomatch hj))
theorem zbZ (p0 p1 : List UInt8) (p2 : List Int) : zbt p0 p1 p2 = some true := by
  unfold zbt
  by_cases hb : ((p0.length : Int) > 20 ∨ (p1.length : Int) < (p0.length : Int)) ∨ (p2.length : Int) < 6
  · rw [if_pos (by simpa using hb), zbN]; rfl
  · rw [if_neg (by simpa using hb), show mkI (0 : Int) 600 600 = some (List.replicate 600 0) from rfl, Option.bind_some, show mkI (0 : Int) 16 16 = some (List.replicate 16 0) from rfl, Option.bind_some]
    exact l2458 (by omega) (by omega) (by omega) big 0 _ (by omega) (big_gt (by omega)) (by simp)
end Go.Proofs.Ytneonhnackjdjaa
