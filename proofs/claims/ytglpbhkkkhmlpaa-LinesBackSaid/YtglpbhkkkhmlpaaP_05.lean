import Derived.Test.YtglpbhkkkhmlpaaAd
import Derived.Test.YtglpbhkkkhmlpaaF
import Derived.Test.YtglpbhkkkhmlpaaPL
import Derived.Test.YtglpbhkkkhmlpaaP_02
namespace Go.Proofs.Ytglpbhkkkhmlpaa
open Go.Ab Go.RowKit
set_option linter.unusedVariables false
set_option linter.unusedSimpArgs false
-- lines.Right, theodoliteref05.Right
abbrev Rw := S_api_Row
def rt : Int → List Rw → Bool
  | _, [] => true
  | last, x :: l => decide (last < x.Pc ∧ x.Pc < 16777216 ∧ 0 ≤ x.Point ∧ x.Point < 1000) && rt x.Pc l
theorem Right_loop (l : List Rw) (hl : l.length ≤ 1000000000) : ∀ (n i : Nat) (last : Int), i ≤ l.length → l.length - i < n → F_lines_Right_l3 l n last (i : Int) = some (rt last (l.drop i) && decide ((l.length : Int) ≤ 20000))
  | 0, i, _, _, h => by omega
  | n + 1, i, last, hi, h => by
    show F_lines_Right_l3B _ l last (i : Int) = _
    unfold F_lines_Right_l3B
    by_cases hlt : i < l.length
    · rw [decT (by omega), if_pos rfl, getI_lt hlt, Option.bind_some, List.drop_eq_getElem_cons hlt]
      by_cases hc : last < l[i].Pc ∧ l[i].Pc < 16777216 ∧ 0 ≤ l[i].Point ∧ l[i].Point < 1000
      · rw [decF (show ¬ l[i].Pc ≤ last by omega), decF (show ¬ l[i].Pc ≥ 16777216 by omega), decF (show ¬ l[i].Point < 0 by omega), decF (show ¬ l[i].Point ≥ 1000 by omega), Bool.or_self, Bool.or_self, Bool.or_self, if_neg (by simp), i64_succ (by omega), Right_loop l hl n (i + 1) _ (by omega) (by omega), rt, decT hc, Bool.true_and]
      · rw [rt, decF hc, Bool.false_and, Bool.false_and, if_pos]
        simp only [Bool.or_eq_true, decide_eq_true_eq]
        omega
    · rw [decF (by omega), if_neg (by simp), List.drop_of_length_le (by omega), rt, Bool.true_and]
def Rt (l : List Rw) : Bool := rt (-1) l && decide ((l.length : Int) ≤ 20000)
theorem P_Right {l : List Rw} (hl : l.length ≤ 1000000000) : F_lines_Right l = some (Rt l) := by
  unfold F_lines_Right
  exact Right_loop l hl big 0 (-1) (by omega) (big_gt (by omega))
theorem rRight_loop (l : List Rw) (hl : l.length ≤ 1000000000) : ∀ (n i : Nat) (last : Int), i ≤ l.length → l.length - i < n → F_ref05_Right_l3 l n last (i : Int) = some (rt last (l.drop i) && decide ((l.length : Int) ≤ 20000))
  | 0, i, _, _, h => by omega
  | n + 1, i, last, hi, h => by
    show F_ref05_Right_l3B _ l last (i : Int) = _
    unfold F_ref05_Right_l3B
    by_cases hlt : i < l.length
    · simp only [getI_lt hlt, Option.bind_some]
      rw [decT (by omega), if_pos rfl, List.drop_eq_getElem_cons hlt]
      by_cases hc : last < l[i].Pc ∧ l[i].Pc < 16777216 ∧ 0 ≤ l[i].Point ∧ l[i].Point < 1000
      · rw [decF (show ¬ l[i].Pc ≤ last by omega), if_neg (by simp), Option.bind_some, decF (show ¬ l[i].Pc ≥ 16777216 by omega), if_neg (by simp), Option.bind_some, decF (show ¬ l[i].Point < 0 by omega), if_neg (by simp), Option.bind_some, decF (show ¬ l[i].Point ≥ 1000 by omega), if_neg (by simp), i64_succ (by omega), rRight_loop l hl n (i + 1) _ (by omega) (by omega), rt, decT hc, Bool.true_and]
      · rw [rt, decF hc, Bool.false_and, Bool.false_and]
        by_cases h1 : l[i].Pc ≤ last
        · rw [decT h1]; rfl
        · rw [decF h1, if_neg (by simp), Option.bind_some]
          by_cases h2 : l[i].Pc ≥ 16777216
          · rw [decT h2]; rfl
          · rw [decF h2, if_neg (by simp), Option.bind_some]
            by_cases h3 : l[i].Point < 0
            · rw [decT h3]; rfl
            · rw [decF h3, if_neg (by simp), Option.bind_some, decT (show l[i].Point ≥ 1000 by omega)]
              rfl
    · rw [decF (by omega), if_neg (by simp), List.drop_of_length_le (by omega), rt, Bool.true_and]
theorem P_rRight {l : List Rw} (hl : l.length ≤ 1000000000) : F_ref05_Right l = some (Rt l) := by
  unfold F_ref05_Right
  exact rRight_loop l hl big 0 (-1) (by omega) (big_gt (by omega))
theorem rt_le {a b : Int} (h : b ≤ a) : ∀ {l : List Rw}, rt a l = true → rt b l = true
  | [], _ => rfl
  | x :: l, hr => by
    simp only [rt, Bool.and_eq_true, decide_eq_true_eq] at hr ⊢
    exact ⟨by omega, hr.2⟩
-- lines.Write, theodoliteref05.Write, lines.step
def stp (d e : Int) : List UInt8 := if d ≤ 20 ∧ -4 ≤ e ∧ e < 8 then [UInt8.ofNat (4 + 12 * d + e + 4).toNat] else ((if d = 0 then [] else 1 :: encU d.toNat) ++ (if e = 0 then [] else 2 :: encS e)) ++ [3]
def wr : Int → Int → List Rw → List UInt8
  | _, _, [] => [0]
  | p, q, x :: l => stp (x.Pc - p) (x.Point - q) ++ wr x.Pc x.Point l
theorem stp_len {d e : Int} (hd : 0 ≤ d ∧ d < 16777216) (he : -1000 < e ∧ e < 1000) : (stp d e).length ≤ 9 := by
  unfold stp
  have h1 : (encU d.toNat).length ≤ 4 := encU_len 3 _ (by omega)
  have h2 : (encS e).length ≤ 2 := encS_len 1 _ (by omega) (by omega)
  split
  · simp
  · split <;> split <;> simp <;> omega
theorem wr_len : ∀ {l : List Rw} {p q : Int}, rt (p - 1) l = true → 0 ≤ p → 0 ≤ q ∧ q < 1000 → (wr p q l).length ≤ 9 * l.length + 1
  | [], _, _, _, _, _ => by simp [wr]
  | x :: l, p, q, hr, hp, hq => by
    simp only [rt, Bool.and_eq_true, decide_eq_true_eq] at hr
    have h1 := stp_len (d := x.Pc - p) (e := x.Point - q) (by omega) (by omega)
    have h2 := wr_len (l := l) (p := x.Pc) (q := x.Point) (rt_le (by omega) hr.2) (by omega) (by omega)
    simp only [wr, List.length_append, List.length_cons]
    omega
theorem P_step {b : List UInt8} {p q : Int} {x : Rw} (hb : b.length ≤ 1000000000) (hd : 0 ≤ x.Pc - p ∧ x.Pc - p < 16777216) (he : -1000 < x.Point - q ∧ x.Point - q < 1000) : F_lines_step b ⟨p, q⟩ x = some (b ++ stp (x.Pc - p) (x.Point - q)) := by
  unfold F_lines_step F_lines_step_k3
  have h1 : (encU (x.Pc - p).toNat).length ≤ 4 := encU_len 3 _ (by omega)
  simp only
  rw [wi64 (x := x.Pc - p) (by omega), wi64 (x := x.Point - q) (by omega)]
  generalize x.Pc - p = d at *
  generalize x.Point - q = e at *
  unfold stp
  by_cases hc : d ≤ 20 ∧ -4 ≤ e ∧ e < 8
  · rw [decT hc.1, decT hc.2.1, decT hc.2.2, Bool.and_self, Bool.and_self, if_pos rfl, if_pos hc, wi64 (x := 12 * d) (by omega), wi64 (x := 4 + 12 * d) (by omega), wi64 (x := 4 + 12 * d + e) (by omega), wi64 (by omega), u8o_wrap, Option.bind_some, room_ok (by omega), Option.bind_some]
    congr 4
    omega
  · rw [if_neg hc, if_neg (by simp only [Bool.and_eq_true, decide_eq_true_eq]; omega)]
    have hU : IntKind.u64.wrap d = ((d.toNat : Nat) : Int) := by rw [wu64_mod]; omega
    by_cases h0 : d = 0
    · rw [bneF h0, if_neg (by simp), if_pos h0]
      by_cases g0 : e = 0
      · rw [bneF g0, if_neg (by simp), if_pos g0, room_ok (by omega), Option.bind_some]
        simp
      · rw [bneT g0, if_pos rfl, if_neg g0, room_ok (by omega), Option.bind_some, F_PutS (by simp; omega) (by omega), Option.bind_some, room_ok (by have := encS_le10 (x := e) (by omega) (by omega); simp; omega), Option.bind_some]
        simp
    · rw [bneT h0, if_pos rfl, if_neg h0, room_ok (by omega), Option.bind_some, hU, F_PutU (by simp; omega) (by omega), Option.bind_some]
      by_cases g0 : e = 0
      · rw [bneF g0, if_neg (by simp), if_pos g0, room_ok (by simp; omega), Option.bind_some]
        simp
      · rw [bneT g0, if_pos rfl, if_neg g0, room_ok (by simp; omega), Option.bind_some, F_PutS (by simp; omega) (by omega), Option.bind_some, room_ok (by have := encS_le10 (x := e) (by omega) (by omega); simp; omega), Option.bind_some]
        simp
theorem Write_loop (l : List Rw) (hl : l.length ≤ 1000000) : ∀ (n i : Nat) (b : List UInt8) (p q : Int), i ≤ l.length → l.length - i < n → b.length ≤ 9 * i → rt (p - 1) (l.drop i) = true → 0 ≤ p → 0 ≤ q ∧ q < 1000 → F_lines_Write_l3 l n b p q (i : Int) = some (b ++ wr p q (l.drop i), 0)
  | 0, i, _, _, _, _, h, _, _, _, _ => by omega
  | n + 1, i, b, p, q, hi, h, hb, hr, hp, hq => by
    show F_lines_Write_l3B _ l b p q (i : Int) = _
    unfold F_lines_Write_l3B
    by_cases hlt : i < l.length
    · rw [List.drop_eq_getElem_cons hlt] at hr ⊢
      simp only [rt, Bool.and_eq_true, decide_eq_true_eq] at hr
      have h1 := stp_len (d := l[i].Pc - p) (e := l[i].Point - q) (by omega) (by omega)
      rw [decT (by omega), if_pos rfl, getI_lt hlt, Option.bind_some, P_step (x := ⟨l[i].Pc, l[i].Point⟩) (by omega) (by simp only; omega) (by simp only; omega), Option.bind_some, i64_succ (by omega), Write_loop l hl n (i + 1) _ _ _ (by omega) (by omega) (by simp; omega) (rt_le (by omega) hr.2) (by omega) (by omega), wr, List.append_assoc]
    · rw [decF (by omega), if_neg (by simp), room_ok (by omega), Option.bind_some, List.drop_of_length_le (by omega), wr]
theorem P_Write {l : List Rw} (hl : l.length ≤ 1000000) : F_lines_Write l = some (if Rt l = true then (wr 0 0 l, 0) else ([], 1)) := by
  unfold F_lines_Write
  rw [P_Right (by omega), Option.bind_some]
  by_cases hr : Rt l = true
  · rw [hr, Bool.not_true, if_neg (by simp), if_pos rfl]
    have h2 : rt (-1) l = true := by unfold Rt at hr; rw [Bool.and_eq_true] at hr; exact hr.1
    have := Write_loop l hl big 0 [] 0 0 (by omega) (big_gt (by omega)) (by simp) (by simpa using h2) (by omega) (by omega)
    rw [show ((0 : Nat) : Int) = 0 from rfl] at this
    rw [this]
    rfl
  · rw [if_neg hr]
    have : Rt l = false := by simpa using hr
    rw [this]
    rfl
theorem rWrite_loop (l : List Rw) (hl : l.length ≤ 1000000) : ∀ (n i : Nat) (b : List UInt8) (p q : Int), i ≤ l.length → l.length - i < n → b.length ≤ 9 * i → rt (p - 1) (l.drop i) = true → 0 ≤ p → 0 ≤ q ∧ q < 1000 → F_ref05_Write_l18 l n b p q (i : Int) = some (b ++ wr p q (l.drop i), 0)
  | 0, i, _, _, _, _, h, _, _, _, _ => by omega
  | n + 1, i, b, p, q, hi, h, hb, hr, hp, hq => by
    show F_ref05_Write_l18B _ l b p q (i : Int) = _
    unfold F_ref05_Write_l18B F_ref05_Write_k24 F_ref05_Write_k22
    by_cases hlt : i < l.length
    · rw [List.drop_eq_getElem_cons hlt] at hr ⊢
      simp only [rt, Bool.and_eq_true, decide_eq_true_eq] at hr
      have h1 := stp_len (d := l[i].Pc - p) (e := l[i].Point - q) (by omega) (by omega)
      have ih := rWrite_loop l hl n (i + 1) (b ++ stp (l[i].Pc - p) (l[i].Point - q)) l[i].Pc l[i].Point (by omega) (by omega) (by simp; omega) (rt_le (by omega) hr.2) (by omega) (by omega)
      have hs := P_step (b := b) (p := p) (q := q) (x := l[i]) (by omega) (by omega) (by omega)
      have hend : wr p q (l[i] :: l.drop (i + 1)) = stp (l[i].Pc - p) (l[i].Point - q) ++ wr l[i].Pc l[i].Point (l.drop (i + 1)) := rfl
      rw [hend, ← List.append_assoc, ← ih]
      clear ih hend
      unfold F_lines_step F_lines_step_k3 at hs
      simp only [getI_lt hlt, Option.bind_some]
      simp only at hs
      rw [decT (by omega), if_pos rfl, i64_succ (by omega)]
      rw [wi64 (x := l[i].Pc - p) (by omega), wi64 (x := l[i].Point - q) (by omega)] at hs ⊢
      have e7 : decide (l[i].Point - q ≤ 7) = decide (l[i].Point - q < 8) := by rw [decide_eq_decide]; omega
      rw [e7]
      generalize stp (l[i].Pc - p) (l[i].Point - q) = st at *
      split at hs
      · rename_i hc
        rw [if_pos hc]
        obtain ⟨z, hz, hs⟩ := Option.bind_eq_some_iff.1 hs
        obtain ⟨u, hu, hs⟩ := Option.bind_eq_some_iff.1 hs
        rw [hz, Option.bind_some, hu, Option.bind_some]
        injection hs with hs
        rw [hs]
      · rename_i hc
        rw [if_neg hc]
        split at hs
        · rename_i h0
          rw [if_pos h0]
          obtain ⟨u, hu, hs⟩ := Option.bind_eq_some_iff.1 hs
          obtain ⟨w, hw, hs⟩ := Option.bind_eq_some_iff.1 hs
          rw [hu, Option.bind_some, show F_ref02_PutU _ _ = _ from hw, Option.bind_some]
          split at hs
          · rename_i g0
            rw [if_pos g0]
            obtain ⟨u, hu, hs⟩ := Option.bind_eq_some_iff.1 hs
            obtain ⟨y, hy, hs⟩ := Option.bind_eq_some_iff.1 hs
            obtain ⟨v, hv, hs⟩ := Option.bind_eq_some_iff.1 hs
            rw [hu, Option.bind_some, show F_ref02_PutS _ _ = _ from hy, Option.bind_some, hv, Option.bind_some]
            injection hs with hs
            rw [hs]
          · rename_i g0
            rw [if_neg g0]
            obtain ⟨u, hu, hs⟩ := Option.bind_eq_some_iff.1 hs
            rw [hu, Option.bind_some]
            injection hs with hs
            rw [hs]
        · rename_i h0
          rw [if_neg h0]
          split at hs
          · rename_i g0
            rw [if_pos g0]
            obtain ⟨u, hu, hs⟩ := Option.bind_eq_some_iff.1 hs
            obtain ⟨y, hy, hs⟩ := Option.bind_eq_some_iff.1 hs
            obtain ⟨v, hv, hs⟩ := Option.bind_eq_some_iff.1 hs
            rw [hu, Option.bind_some, show F_ref02_PutS _ _ = _ from hy, Option.bind_some, hv, Option.bind_some]
            injection hs with hs
            rw [hs]
          · rename_i g0
            rw [if_neg g0]
            obtain ⟨u, hu, hs⟩ := Option.bind_eq_some_iff.1 hs
            rw [hu, Option.bind_some]
            injection hs with hs
            rw [hs]
    · rw [decF (by omega), if_neg (by simp), room_ok (by omega), Option.bind_some, List.drop_of_length_le (by omega), wr]
theorem P_rWrite {l : List Rw} (hl : l.length ≤ 1000000) : F_ref05_Write l = some (if Rt l = true then (wr 0 0 l, 0) else ([], 1)) := by
  unfold F_ref05_Write
  rw [P_rRight (by omega), Option.bind_some]
  by_cases hr : Rt l = true
  · rw [hr, Bool.not_true, if_neg (by simp), if_pos rfl]
    have h2 : rt (-1) l = true := by unfold Rt at hr; rw [Bool.and_eq_true] at hr; exact hr.1
    have := rWrite_loop l hl big 0 [] 0 0 (by omega) (big_gt (by omega)) (by simp) (by simpa using h2) (by omega) (by omega)
    rw [show ((0 : Nat) : Int) = 0 from rfl] at this
    rw [this]
    rfl
  · rw [if_neg hr]
    have : Rt l = false := by simpa using hr
    rw [this]
    rfl
-- lines.Read, theodoliteref05.Read, lines.move
/-- How far a step goes, and where the next one stands; none: it is no step. -/
def mv (b : List UInt8) (i : Nat) (c : UInt8) : Option (Int × Int × Nat) :=
  if c = 1 then (if (rdU b ((i : Int) + 1)).2.2 = 0 ∧ (rdU b ((i : Int) + 1)).1 ≤ 16777216 then some ((rdU b ((i : Int) + 1)).1, 0, (rdU b ((i : Int) + 1)).2.1.toNat) else none)
  else if c = 2 then (if (rdS b ((i : Int) + 1)).2.2 = 0 ∧ -16777216 ≤ (rdS b ((i : Int) + 1)).1 ∧ (rdS b ((i : Int) + 1)).1 ≤ 16777216 then some (0, (rdS b ((i : Int) + 1)).1, (rdS b ((i : Int) + 1)).2.1.toNat) else none)
  else if c = 0 ∨ c = 3 then some (0, 0, i + 1) else some (((c.toNat : Int) - 4) / 12, ((c.toNat : Int) - 4) % 12 - 4, i + 1)
theorem mv_next {b : List UInt8} {i : Nat} {c : UInt8} {m : Int × Int × Nat} (h : mv b i c = some m) (hi : i < b.length) : i < m.2.2 ∧ m.2.2 ≤ b.length ∧ 0 ≤ m.1 ∧ m.1 ≤ 16777216 ∧ -16777216 ≤ m.2.1 ∧ m.2.1 ≤ 16777216 := by
  have hc := c.toNat_lt
  unfold mv at h
  split at h
  · split at h
    · rename_i h2
      injection h with h
      subst h
      rcases rdU_cases b ((i : Int) + 1) with ⟨e, h3, h4⟩ | ⟨j, n, x, h3, h4, h5, h6, h7, h8, h9⟩
      · rw [h3] at h2; simp only at h2; omega
      · rw [h9] at h2 ⊢
        simp only at h2 ⊢
        omega
    · cases h
  · split at h
    · split at h
      · rename_i h2
        injection h with h
        subst h
        rcases rdS_cases b ((i : Int) + 1) with ⟨e, h3, h4⟩ | ⟨j, n, x, h3, h4, h5, h6, h7, h8, h9⟩
        · rw [h3] at h2; simp only at h2; omega
        · rw [h9] at h2 ⊢
          simp only at h2 ⊢
          omega
      · cases h
    · split at h
      · injection h with h
        subst h
        simp only
        omega
      · rename_i k1 k2 k3
        have h4 : 4 ≤ c.toNat := by
          have n0 : c.toNat ≠ 0 := fun h => k3 (Or.inl (UInt8.toNat_inj.1 h))
          have n1 : c.toNat ≠ 1 := fun h => k1 (UInt8.toNat_inj.1 h)
          have n2 : c.toNat ≠ 2 := fun h => k2 (UInt8.toNat_inj.1 h)
          have n3 : c.toNat ≠ 3 := fun h => k3 (Or.inr (UInt8.toNat_inj.1 h))
          omega
        injection h with h
        subst h
        simp only
        omega
def bad (p q : Int) (m : Int × Int × Nat) : Prop := p + m.1 > 16777216 ∨ q + m.2.1 < 0 ∨ q + m.2.1 > 16777216
instance (p q : Int) (m : Int × Int × Nat) : Decidable (bad p q m) := by unfold bad; exact inferInstance
def rdl (b : List UInt8) : Nat → List Rw → Int → Int → Nat → List Rw × Int
  | 0, _, _, _, _ => ([], 5)
  | n + 1, acc, p, q, i => if h : i < b.length then (match mv b i b[i] with
    | none => ([], 5)
    | some m => if bad p q m then ([], 5) else if b[i] = 0 then (if m.2.2 = b.length ∧ Rt acc = true then (acc, 0) else ([], 5)) else rdl b n (if 3 ≤ b[i].toNat then acc ++ [⟨p + m.1, q + m.2.1⟩] else acc) (p + m.1) (q + m.2.1) m.2.2) else ([], 5)
theorem uc (c : UInt8) (k : Nat) (hk : k < 256) : c = UInt8.ofNat k ↔ c.toNat = k := by
  rw [← UInt8.toNat_inj, ofNat8 hk]
theorem mod24 {k : Int} (h : 4 ≤ k ∧ k < 256) : Int.tdiv (k - 4) 12 = (k - 4) / 12 ∧ Int.tmod (k - 4) 12 = (k - 4) % 12 := ⟨Int.tdiv_eq_ediv_of_nonneg (by omega), Int.tmod_eq_emod_of_nonneg (by omega)⟩
theorem P_move {b : List UInt8} (hb : b.length ≤ 1000000000) {i : Nat} (hi : i < b.length) : ∃ D E nx ok, F_lines_move b (i : Int) = some (⟨D, E⟩, nx, ok) ∧
    ((ok = true ∧ 0 ≤ nx ∧ mv b i b[i] = some (D, E, nx.toNat)) ∨ (mv b i b[i] = none ∧ (ok = false ∨ (D = 16777217 ∧ E = 0) ∨ (D = 0 ∧ (E = 16777217 ∨ E = -16777217))))) := by
  unfold F_lines_move F_lines_move_k3
  have hU := F_U (l := b) (x := (i : Int) + 1) (by omega) (by omega)
  have hS := F_S (l := b) (x := (i : Int) + 1) (by omega) (by omega)
  rw [getI_lt hi, Option.bind_some, wi64 (x := (i : Int) + 1) (by omega)]
  generalize b[i] = c
  have hlt := c.toNat_lt
  rw [i64_nat (n := c.toNat) (by omega)]
  have c0 := uc c 0 (by omega)
  have c1 := uc c 1 (by omega)
  have c2 := uc c 2 (by omega)
  have c3 := uc c 3 (by omega)
  by_cases k1 : c = 1
  · subst k1
    rw [beqT (show (((1 : UInt8).toNat : Nat) : Int) = 1 from rfl), if_pos rfl, hU, Option.bind_some]
    rcases rdU_cases b ((i : Int) + 1) with ⟨e, h3, h4⟩ | ⟨j, n, x, h3, h4, h5, h6, h7, h8, h9⟩
    · refine ⟨_, _, _, _, rfl, Or.inr ⟨?_, Or.inl ?_⟩⟩
      · unfold mv
        rw [if_pos rfl, if_neg]
        rw [h3]
        simp only
        omega
      · rw [h3]
        rcases h4 with rfl | rfl <;> rfl
    · refine ⟨_, _, _, _, rfl, ?_⟩
      rw [mv, if_pos rfl, h9]
      simp only
      unfold minI
      by_cases hx : x ≤ 16777216
      · left
        rw [if_neg (show ¬ (16777217 : Int) < x by omega), wi64 (by omega), if_pos ⟨trivial, hx⟩]
        exact ⟨by trivial, by omega, rfl⟩
      · right
        rw [if_neg (fun h => hx h.2)]
        refine ⟨by trivial, Or.inr (Or.inl ⟨?_, by trivial⟩)⟩
        split
        · exact wi64 (by omega)
        · rw [wi64 (by omega)]; omega
  rw [beqF (fun h => k1 (c1.2 (by omega))), if_neg (by simp)]
  by_cases k2 : c = 2
  · subst k2
    rw [beqT (show (((2 : UInt8).toNat : Nat) : Int) = 2 from rfl), if_pos rfl, hS, Option.bind_some]
    rcases rdS_cases b ((i : Int) + 1) with ⟨e, h3, h4⟩ | ⟨j, n, x, h3, h4, h5, h6, h7, h8, h9⟩
    · refine ⟨_, _, _, _, rfl, Or.inr ⟨?_, Or.inl ?_⟩⟩
      · unfold mv
        rw [if_neg (by decide), if_pos rfl, if_neg]
        rw [h3]
        simp only
        omega
      · rw [h3]
        rcases h4 with rfl | rfl <;> rfl
    · refine ⟨_, _, _, _, rfl, ?_⟩
      rw [mv, if_neg (by decide), if_pos rfl, h9]
      simp only
      have hm : maxI (-16777217) (minI x 16777217) = (if x > 16777217 then 16777217 else if x < -16777217 then -16777217 else x) := by
        unfold maxI minI
        split <;> split <;> (try split) <;> omega
      rw [hm]
      by_cases hx : -16777216 ≤ x ∧ x ≤ 16777216
      · left
        rw [if_neg (show ¬ x > 16777217 by omega), if_neg (show ¬ x < -16777217 by omega), if_pos ⟨trivial, hx⟩]
        exact ⟨by trivial, by omega, rfl⟩
      · right
        rw [if_neg (fun h => hx h.2)]
        refine ⟨by trivial, Or.inr (Or.inr ⟨by trivial, ?_⟩)⟩
        split
        · exact Or.inl rfl
        · split
          · exact Or.inr rfl
          · omega
  rw [beqF (fun h => k2 (c2.2 (by omega))), if_neg (by simp)]
  by_cases k0 : c = 0
  · subst k0
    rw [beqT (show (((0 : UInt8).toNat : Nat) : Int) = 0 from rfl), if_pos rfl, if_pos rfl]
    exact ⟨_, _, _, _, rfl, Or.inl ⟨rfl, by omega, rfl⟩⟩
  rw [beqF (show ((c.toNat : Nat) : Int) ≠ 0 from fun h => k0 (c0.2 (by omega))), if_neg (by simp)]
  by_cases k3 : c = 3
  · subst k3
    rw [beqT (show (((3 : UInt8).toNat : Nat) : Int) = 3 from rfl), if_pos rfl]
    exact ⟨_, _, _, _, rfl, Or.inl ⟨rfl, by omega, rfl⟩⟩
  have h4 : 4 ≤ c.toNat := by
    have n0 : c.toNat ≠ 0 := fun h => k0 (c0.2 h)
    have n1 : c.toNat ≠ 1 := fun h => k1 (c1.2 h)
    have n2 : c.toNat ≠ 2 := fun h => k2 (c2.2 h)
    have n3 : c.toNat ≠ 3 := fun h => k3 (c3.2 h)
    omega
  obtain ⟨d1, d2⟩ := mod24 (k := (c.toNat : Int)) (by omega)
  rw [beqF (show ((c.toNat : Nat) : Int) ≠ 3 by omega), if_neg (by simp), wi64 (x := (c.toNat : Int) - 4) (by omega), d1, d2, wi64 (x := ((c.toNat : Int) - 4) / 12) (by omega), wi64 (x := ((c.toNat : Int) - 4) % 12 - 4) (by omega)]
  refine ⟨_, _, _, _, rfl, Or.inl ⟨rfl, by omega, ?_⟩⟩
  unfold mv
  rw [if_neg k1, if_neg k2, if_neg (by rintro (h | h) <;> contradiction)]
  rfl
theorem c_zero (c : UInt8) : ((c.toNat : Int) == 0) = decide (c = 0) := by
  rw [Bool.eq_iff_iff]
  simp only [beq_iff_eq, decide_eq_true_eq]
  have := uc c 0 (by omega)
  exact ⟨fun h => this.2 (by omega), fun h => by have := this.1 h; omega⟩
/-- One step of the reader. -/
theorem lines_step {b : List UInt8} (hb : b.length ≤ 1000000000) {rec : List Rw → Int → Int → Int → Option (List Rw × Int)} {acc : List Rw} {p q : Int} {i : Nat} (hi : i < b.length) (hp : 0 ≤ p ∧ p ≤ 16777216) (hq : 0 ≤ q ∧ q ≤ 16777216) (ha : acc.length ≤ 1000000000) :
    F_lines_Read_l3B rec b acc p q (i : Int) = match mv b i b[i] with
      | none => some ([], 5)
      | some m => if bad p q m then some ([], 5) else if b[i] = 0 then (if m.2.2 = b.length ∧ Rt acc = true then some (acc, 0) else some ([], 5)) else rec (if 3 ≤ b[i].toNat then acc ++ [⟨p + m.1, q + m.2.1⟩] else acc) (p + m.1) (q + m.2.1) (m.2.2 : Int) := by
  unfold F_lines_Read_l3B
  obtain ⟨D, E, nx, ok, hm, h⟩ := P_move hb hi
  rw [decT (show (i : Int) < b.length by omega), if_pos rfl, getI_lt hi, Option.bind_some, hm, Option.bind_some]
  simp only
  rcases h with ⟨rfl, hnx, hv⟩ | ⟨hv, h⟩
  · rw [hv]
    simp only
    obtain ⟨_, _, b1, b2, b3, b4⟩ := mv_next hv hi
    simp only at b1 b2 b3 b4
    rw [wi64 (x := p + D) (by omega), wi64 (x := q + E) (by omega), Bool.not_true, Bool.false_or]
    by_cases hbad : bad p q (D, E, nx.toNat)
    · rw [if_pos hbad, if_pos]
      unfold bad at hbad
      simp only [Bool.or_eq_true, decide_eq_true_eq] at hbad ⊢
      omega
    · rw [if_neg hbad, if_neg, c_zero]
      · by_cases k0 : b[i] = 0
        · rw [if_pos k0, decT k0, if_pos rfl, P_Right ha]
          by_cases h1 : nx.toNat = b.length
          · rw [bneF (by omega), if_neg (by simp), Option.bind_some, Option.bind_some]
            cases Rt acc <;> simp [h1]
          · rw [bneT (by omega), if_pos rfl, if_neg (fun h => h1 h.1)]
            rfl
        · rw [if_neg k0, decF k0, if_neg (by simp), Int.toNat_of_nonneg hnx]
          by_cases h3 : 3 ≤ b[i].toNat
          · rw [decT (by omega), if_pos rfl, room_ok (by omega), Option.bind_some, if_pos h3]
          · rw [decF (by omega), if_neg (by simp), if_neg h3]
      · unfold bad at hbad
        simp only [Bool.or_eq_true, decide_eq_true_eq] at hbad ⊢
        omega
  · rw [hv, if_pos]
    rcases h with rfl | ⟨rfl, rfl⟩ | ⟨rfl, rfl | rfl⟩
    · simp
    · rw [wi64 (x := p + 16777217) (by omega)]; simp only [Bool.or_eq_true, decide_eq_true_eq]; omega
    · rw [wi64 (x := q + 16777217) (by omega)]; simp only [Bool.or_eq_true, decide_eq_true_eq]; omega
    · rw [wi64 (x := q + -16777217) (by omega)]; simp only [Bool.or_eq_true, decide_eq_true_eq]; omega
theorem ref_move {b : List UInt8} (hb : b.length ≤ 1000000000) {rec : List Rw → Int → Int → Int → Option (List Rw × Int)} {acc : List Rw} {p q : Int} {i : Nat} (hi : i < b.length) (k0 : b[i] ≠ 0) : ∃ nx e N S, F_ref05_Read_l9B rec b acc p q (i : Int) = F_ref05_Read_k12 rec p q b[i] acc nx e N S ∧
    ((e = 0 ∧ 0 ≤ nx ∧ mv b i b[i] = some (N, S, nx.toNat)) ∨ (mv b i b[i] = none ∧ (e ≠ 0 ∨ N > 16777216 ∨ S > 16777216 ∨ S < -16777216))) := by
  unfold F_ref05_Read_l9B
  have hU := F_U (l := b) (x := (i : Int) + 1) (by omega) (by omega)
  have hS := F_S (l := b) (x := (i : Int) + 1) (by omega) (by omega)
  have hU' : F_ref02_U b ((i : Int) + 1) = _ := hU
  have hS' : F_ref02_S b ((i : Int) + 1) = _ := hS
  rw [decT (show (i : Int) < b.length by omega), if_pos rfl, getI_lt hi, Option.bind_some, wi64 (x := (i : Int) + 1) (by omega)]
  generalize b[i] = c at *
  have hlt := c.toNat_lt
  rw [i64_nat (n := c.toNat) (by omega)]
  have c0 := uc c 0 (by omega)
  have c1 := uc c 1 (by omega)
  have c2 := uc c 2 (by omega)
  have c3 := uc c 3 (by omega)
  rw [beqF (show ((c.toNat : Nat) : Int) ≠ 0 from fun h => k0 (c0.2 (by omega))), if_neg (by simp)]
  by_cases k1 : c = 1
  · subst k1
    rw [beqT (show (((1 : UInt8).toNat : Nat) : Int) = 1 from rfl), if_pos rfl, hU', Option.bind_some]
    refine ⟨_, _, _, _, rfl, ?_⟩
    rw [mv, if_pos rfl]
    rcases rdU_cases b ((i : Int) + 1) with ⟨e, h3, h4⟩ | ⟨j, n, x, h3, h4, h5, h6, h7, h8, h9⟩
    · right
      rw [h3]
      simp only
      exact ⟨if_neg (by omega), Or.inl (by omega)⟩
    · rw [h9]
      simp only
      by_cases hx : x ≤ 16777216
      · left
        rw [if_pos ⟨trivial, hx⟩]
        exact ⟨trivial, by omega, rfl⟩
      · right
        exact ⟨if_neg (fun h => hx h.2), by omega⟩
  rw [beqF (fun h => k1 (c1.2 (by omega))), if_neg (by simp)]
  by_cases k2 : c = 2
  · subst k2
    rw [beqT (show (((2 : UInt8).toNat : Nat) : Int) = 2 from rfl), if_pos rfl, hS', Option.bind_some]
    refine ⟨_, _, _, _, rfl, ?_⟩
    rw [mv, if_neg (by decide), if_pos rfl]
    rcases rdS_cases b ((i : Int) + 1) with ⟨e, h3, h4⟩ | ⟨j, n, x, h3, h4, h5, h6, h7, h8, h9⟩
    · right
      rw [h3]
      simp only
      exact ⟨if_neg (by omega), Or.inl (by omega)⟩
    · rw [h9]
      simp only
      by_cases hx : -16777216 ≤ x ∧ x ≤ 16777216
      · left
        rw [if_pos ⟨trivial, hx⟩]
        exact ⟨trivial, by omega, rfl⟩
      · right
        exact ⟨if_neg (fun h => hx h.2), by omega⟩
  rw [beqF (fun h => k2 (c2.2 (by omega))), if_neg (by simp)]
  by_cases k3 : c = 3
  · subst k3
    rw [beqT (show (((3 : UInt8).toNat : Nat) : Int) = 3 from rfl), if_pos rfl]
    exact ⟨_, _, _, _, rfl, Or.inl ⟨rfl, by omega, rfl⟩⟩
  have h4 : 4 ≤ c.toNat := by
    have n0 : c.toNat ≠ 0 := fun h => k0 (c0.2 h)
    have n1 : c.toNat ≠ 1 := fun h => k1 (c1.2 h)
    have n2 : c.toNat ≠ 2 := fun h => k2 (c2.2 h)
    have n3 : c.toNat ≠ 3 := fun h => k3 (c3.2 h)
    omega
  obtain ⟨d1, d2⟩ := mod24 (k := (c.toNat : Int)) (by omega)
  have hw : IntKind.u64.wrap (((c.toNat : Int) - 4) / 12) = ((c.toNat : Int) - 4) / 12 := by rw [wu64_mod]; omega
  rw [beqF (show ((c.toNat : Nat) : Int) ≠ 3 by omega), if_neg (by simp), wi64 (x := (c.toNat : Int) - 4) (by omega), d1, d2, wi64 (x := ((c.toNat : Int) - 4) / 12) (by omega), wi64 (x := ((c.toNat : Int) - 4) % 12 - 4) (by omega), hw]
  refine ⟨_, _, _, _, rfl, Or.inl ⟨rfl, by omega, ?_⟩⟩
  unfold mv
  rw [if_neg k1, if_neg k2, if_neg (by rintro (h | h) <;> contradiction)]
  rfl
theorem ref_step {b : List UInt8} (hb : b.length ≤ 1000000000) {rec : List Rw → Int → Int → Int → Option (List Rw × Int)} {acc : List Rw} {p q : Int} {i : Nat} (hi : i < b.length) (hp : 0 ≤ p ∧ p ≤ 16777216) (hq : 0 ≤ q ∧ q ≤ 16777216) (ha : acc.length ≤ 1000000000) :
    F_ref05_Read_l9B rec b acc p q (i : Int) = match mv b i b[i] with
      | none => some ([], 5)
      | some m => if bad p q m then some ([], 5) else if b[i] = 0 then (if m.2.2 = b.length ∧ Rt acc = true then some (acc, 0) else some ([], 5)) else rec (if 3 ≤ b[i].toNat then acc ++ [⟨p + m.1, q + m.2.1⟩] else acc) (p + m.1) (q + m.2.1) (m.2.2 : Int) := by
  by_cases k0 : b[i] = 0
  · unfold F_ref05_Read_l9B
    have hv : mv b i b[i] = some (0, 0, i + 1) := by rw [k0]; rfl
    rw [decT (show (i : Int) < b.length by omega), if_pos rfl, getI_lt hi, Option.bind_some, hv, k0, P_rRight ha, wi64 (x := (i : Int) + 1) (by omega)]
    simp only
    rw [if_neg (show ¬ bad p q (0, 0, i + 1) by unfold bad; simp only; omega), if_pos trivial, if_pos (by rfl)]
    by_cases h1 : i + 1 = b.length
    · rw [bneF (by omega), if_neg (by simp), Option.bind_some, Option.bind_some]
      cases Rt acc <;> simp [h1]
    · rw [bneT (by omega), if_pos rfl, if_neg (fun h => h1 h.1)]
      rfl
  · obtain ⟨nx, e, N, S, hm, h⟩ := ref_move (rec := rec) (acc := acc) (p := p) (q := q) hb hi k0
    have hlt := b[i].toNat_lt
    rw [hm]
    unfold F_ref05_Read_k12
    rcases h with ⟨rfl, hnx, hv⟩ | ⟨hv, h⟩
    · rw [hv]
      simp only
      obtain ⟨_, _, b1, b2, b3, b4⟩ := mv_next hv hi
      simp only at b1 b2 b3 b4
      rw [wi64 (x := N) (by omega), wi64 (x := p + N) (by omega), wi64 (x := q + S) (by omega), if_neg (show ¬ (((((0 : Int) != 0) || decide (N > 16777216)) || decide (S > 16777216)) || decide (S < -16777216)) = true by rw [bneF rfl]; simp only [Bool.false_or, Bool.or_eq_true, decide_eq_true_eq]; omega), if_neg k0, i64_nat (n := b[i].toNat) (by omega)]
      by_cases hbad : bad p q (N, S, nx.toNat)
      · rw [if_pos hbad, if_pos]
        unfold bad at hbad
        simp only [Bool.or_eq_true, decide_eq_true_eq] at hbad ⊢
        omega
      · rw [if_neg hbad, if_neg, Int.toNat_of_nonneg hnx]
        · by_cases h3 : 3 ≤ b[i].toNat
          · rw [decT (by omega), if_pos rfl, room_ok (by omega), Option.bind_some, if_pos h3]
          · rw [decF (by omega), if_neg (by simp), if_neg h3]
        · unfold bad at hbad
          simp only [Bool.or_eq_true, decide_eq_true_eq] at hbad ⊢
          omega
    · rw [hv, if_pos]
      simp only [Bool.or_eq_true, decide_eq_true_eq, bne_iff_ne, ne_eq]
      omega
theorem Read_loop {b : List UInt8} (hb : b.length ≤ 1000000) : ∀ (n i : Nat) (acc : List Rw) (p q : Int), i ≤ b.length → b.length - i < n → acc.length ≤ i → 0 ≤ p ∧ p ≤ 16777216 → 0 ≤ q ∧ q ≤ 16777216 →
    F_lines_Read_l3 b n acc p q (i : Int) = some (rdl b n acc p q i) ∧ F_ref05_Read_l9 b n acc p q (i : Int) = some (rdl b n acc p q i)
  | 0, i, _, _, _, _, h, _, _, _ => by omega
  | n + 1, i, acc, p, q, hi, h, ha, hp, hq => by
    show F_lines_Read_l3B _ b acc p q (i : Int) = _ ∧ F_ref05_Read_l9B _ b acc p q (i : Int) = _
    by_cases hlt : i < b.length
    · rw [lines_step (by omega) hlt hp hq (by omega), ref_step (by omega) hlt hp hq (by omega), rdl, dif_pos hlt]
      cases hv : mv b i b[i] with
      | none => exact ⟨rfl, rfl⟩
      | some m =>
        simp only
        obtain ⟨n1, n2, b1, b2, b3, b4⟩ := mv_next hv hlt
        by_cases hbad : bad p q m
        · simp only [if_pos hbad, and_self]
        · simp only [if_neg hbad]
          by_cases k0 : b[i] = 0
          · simp only [if_pos k0, and_self]
            split <;> rfl
          · simp only [if_neg k0]
            unfold bad at hbad
            refine Read_loop hb n m.2.2 _ _ _ n2 (by omega) ?_ (by omega) (by omega)
            split
            · simp; omega
            · omega
    · rw [rdl, dif_neg hlt]
      unfold F_lines_Read_l3B F_ref05_Read_l9B
      rw [decF (by omega), if_neg (by simp), if_neg (by simp)]
      exact ⟨rfl, rfl⟩
def Rdl (b : List UInt8) : List Rw × Int := rdl b big [] 0 0 0
theorem P_Read {b : List UInt8} (hb : b.length ≤ 1000000) : F_lines_Read b = some (Rdl b) := (Read_loop hb big 0 [] 0 0 (by omega) (big_gt (by omega)) (by simp) (by omega) (by omega)).1
theorem P_rRead {b : List UInt8} (hb : b.length ≤ 1000000) : F_ref05_Read b = some (Rdl b) := (Read_loop hb big 0 [] 0 0 (by omega) (big_gt (by omega)) (by simp) (by omega) (by omega)).2
-- theodolitelaw05.SameRows, theodolitelaw05.works, lines.At, lines.Pcs, theodoliteref05.At, theodoliteref05.Pcs
theorem row_eq (x y : Rw) : ((x.Pc == y.Pc) && ((x.Point == y.Point) && true)) = decide (x = y) := by
  cases x; cases y
  rw [Bool.eq_iff_iff]
  simp
theorem Same_loop (l m : List Rw) (hl : l.length ≤ 1000000) (hlm : l.length = m.length) : ∀ (n i : Nat), i ≤ l.length → l.length - i < n → F_law05_SameRows_l3 l m n (i : Int) = some (decide (l.drop i = m.drop i))
  | 0, i, _, h => by omega
  | n + 1, i, hi, h => by
    show F_law05_SameRows_l3B _ l m (i : Int) = _
    unfold F_law05_SameRows_l3B
    by_cases hlt : i < l.length
    · have hlt2 : i < m.length := by omega
      rw [decT (by omega), if_pos rfl, getI_lt hlt, Option.bind_some, getI_lt hlt2, Option.bind_some, row_eq, List.drop_eq_getElem_cons hlt, List.drop_eq_getElem_cons hlt2]
      by_cases he : l[i] = m[i]
      · rw [decT he, if_neg (by simp), i64_succ (by omega), Same_loop l m hl hlm n (i + 1) (by omega) (by omega), he]
        congr 1
        rw [decide_eq_decide]
        exact ⟨fun h => by rw [h], fun h => by injection h⟩
      · rw [decF he, if_pos (by rfl), decF]
        intro h2
        injection h2 with h3 h4
        exact he h3
    · rw [decF (by omega), if_neg (by simp), List.drop_of_length_le (by omega), List.drop_of_length_le (by omega), decT rfl]
theorem P_Same {l m : List Rw} (hl : l.length ≤ 1000000) (hm : m.length ≤ 1000000) : F_law05_SameRows l m = some (decide (l = m)) := by
  unfold F_law05_SameRows
  by_cases h : l.length = m.length
  · rw [bneF (by omega), if_neg (by simp)]
    exact Same_loop l m hl h big 0 (by omega) (big_gt (by omega))
  · rw [bneT (by omega), if_pos rfl, decF (fun e => h (by rw [e]))]
theorem pickA_loop (l : List Rw) (pc : Int) (hl : l.length ≤ 1000000) : ∀ (n i : Nat) (acc : List Rw), i ≤ l.length → l.length - i < n → acc.length ≤ i → F_lines_pick_s30_3_l3 l pc n acc (i : Int) = some (acc ++ (l.drop i).filter fun x => x.Pc == pc)
  | 0, i, _, _, h, _ => by omega
  | n + 1, i, acc, hi, h, ha => by
    show F_lines_pick_s30_3_l3B _ l pc acc (i : Int) = _
    unfold F_lines_pick_s30_3_l3B F_lines_At_1_sf_3
    by_cases hlt : i < l.length
    · rw [decT (by omega), if_pos rfl, getI_lt hlt, Option.bind_some, Option.bind_some, List.drop_eq_getElem_cons hlt, List.filter_cons, i64_succ (by omega)]
      cases hc : l[i].Pc == pc
      · simp only [hc, Bool.false_eq_true, if_false]
        exact pickA_loop l pc hl n (i + 1) acc (by omega) (by omega) (by omega)
      · simp only [hc, if_true]
        rw [room_ok (by omega), Option.bind_some, pickA_loop l pc hl n (i + 1) _ (by omega) (by omega) (by simp; omega)]
        simp
    · rw [decF (by omega), if_neg (by simp), List.drop_of_length_le (by omega)]
      simp
theorem pickP_loop (l : List Rw) (pc : Int) (hl : l.length ≤ 1000000) : ∀ (n i : Nat) (acc : List Rw), i ≤ l.length → l.length - i < n → acc.length ≤ i → F_lines_pick_s31_3_l3 l pc n acc (i : Int) = some (acc ++ (l.drop i).filter fun x => x.Point == pc)
  | 0, i, _, _, h, _ => by omega
  | n + 1, i, acc, hi, h, ha => by
    show F_lines_pick_s31_3_l3B _ l pc acc (i : Int) = _
    unfold F_lines_pick_s31_3_l3B F_lines_Pcs_1_sf_3
    by_cases hlt : i < l.length
    · rw [decT (by omega), if_pos rfl, getI_lt hlt, Option.bind_some, Option.bind_some, List.drop_eq_getElem_cons hlt, List.filter_cons, i64_succ (by omega)]
      cases hc : l[i].Point == pc
      · simp only [hc, Bool.false_eq_true, if_false]
        exact pickP_loop l pc hl n (i + 1) acc (by omega) (by omega) (by omega)
      · simp only [hc, if_true]
        rw [room_ok (by omega), Option.bind_some, pickP_loop l pc hl n (i + 1) _ (by omega) (by omega) (by simp; omega)]
        simp
    · rw [decF (by omega), if_neg (by simp), List.drop_of_length_le (by omega)]
      simp
def atR (l : List Rw) (pc : Int) : Int × Bool := match l.find? (fun x => x.Pc == pc) with
  | none => (0, false)
  | some x => (x.Point, true)
theorem P_At {l : List Rw} {pc : Int} (hl : l.length ≤ 1000000) : F_lines_At l pc = some (atR l pc) := by
  unfold F_lines_At F_lines_pick_s30_3
  have := pickA_loop l pc hl big 0 [] (by omega) (big_gt (by omega)) (by simp)
  rw [show ((0 : Nat) : Int) = 0 from rfl] at this
  rw [this, Option.bind_some, List.nil_append, List.drop_zero]
  unfold atR
  rw [← List.head?_filter]
  cases l.filter fun x => x.Pc == pc with
  | nil => rfl
  | cons x r =>
    rw [beqF (by rw [List.length_cons]; omega), if_neg (by simp)]
    rfl
theorem rAt_loop (l : List Rw) (pc : Int) (hl : l.length ≤ 1000000) : ∀ (n i : Nat), i ≤ l.length → l.length - i < n → F_ref05_At_l3 l pc n (i : Int) = some (atR (l.drop i) pc)
  | 0, i, _, h => by omega
  | n + 1, i, hi, h => by
    show F_ref05_At_l3B _ l pc (i : Int) = _
    unfold F_ref05_At_l3B
    by_cases hlt : i < l.length
    · rw [decT (by omega), if_pos rfl, getI_lt hlt, Option.bind_some, Option.bind_some, List.drop_eq_getElem_cons hlt, i64_succ (by omega)]
      unfold atR
      rw [List.find?_cons]
      cases hc : l[i].Pc == pc
      · simp only [Bool.false_eq_true, if_false]
        exact rAt_loop l pc hl n (i + 1) (by omega) (by omega)
      · simp only [if_true]
    · rw [decF (by omega), if_neg (by simp), List.drop_of_length_le (by omega)]
      rfl
theorem P_rAt {l : List Rw} {pc : Int} (hl : l.length ≤ 1000000) : F_ref05_At l pc = some (atR l pc) := rAt_loop l pc hl big 0 (by omega) (big_gt (by omega))
def pcsR (l : List Rw) (pt : Int) : List Int := (l.filter fun x => x.Point == pt).map (·.Pc)
theorem Pcs_loop (c : List Rw) (hl : c.length ≤ 1000000) : ∀ (n i : Nat) (acc : List Int), i ≤ c.length → c.length - i < n → acc.length ≤ i → F_lines_Pcs_l3 c n acc c (i : Int) = some (acc ++ (c.drop i).map (·.Pc))
  | 0, i, _, _, h, _ => by omega
  | n + 1, i, acc, hi, h, ha => by
    show F_lines_Pcs_l3B _ c acc c (i : Int) = _
    unfold F_lines_Pcs_l3B
    by_cases hlt : i < c.length
    · rw [decT (by omega), if_pos rfl, getI_lt hlt, Option.bind_some, room_ok (by omega), Option.bind_some, i64_succ (by omega), Pcs_loop c hl n (i + 1) _ (by omega) (by omega) (by simp; omega), List.drop_eq_getElem_cons hlt, List.map_cons, List.append_assoc]
      rfl
    · rw [decF (by omega), if_neg (by simp), List.drop_of_length_le (by omega)]
      simp
theorem P_Pcs {l : List Rw} {pt : Int} (hl : l.length ≤ 1000000) : F_lines_Pcs l pt = some (pcsR l pt) := by
  unfold F_lines_Pcs F_lines_pick_s31_3
  have := pickP_loop l pt hl big 0 [] (by omega) (big_gt (by omega)) (by simp)
  rw [show ((0 : Nat) : Int) = 0 from rfl] at this
  rw [this, Option.bind_some, List.nil_append, List.drop_zero]
  have hle : (l.filter fun x => x.Point == pt).length ≤ l.length := List.length_filter_le _ _
  have := Pcs_loop (l.filter fun x => x.Point == pt) (by omega) big 0 [] (by omega) (big_gt (by omega)) (by simp)
  rw [show ((0 : Nat) : Int) = 0 from rfl] at this
  rw [this]
  rfl
theorem rPcs_loop (l : List Rw) (pt : Int) (hl : l.length ≤ 1000000) : ∀ (n i : Nat) (acc : List Int), i ≤ l.length → l.length - i < n → acc.length ≤ i → F_ref05_Pcs_l3 l pt n acc (i : Int) = some (acc ++ pcsR (l.drop i) pt)
  | 0, i, _, _, h, _ => by omega
  | n + 1, i, acc, hi, h, ha => by
    show F_ref05_Pcs_l3B _ l pt acc (i : Int) = _
    unfold F_ref05_Pcs_l3B
    by_cases hlt : i < l.length
    · rw [decT (by omega), if_pos rfl, getI_lt hlt, Option.bind_some, Option.bind_some, List.drop_eq_getElem_cons hlt, i64_succ (by omega)]
      unfold pcsR
      rw [List.filter_cons]
      cases hc : l[i].Point == pt
      · simp only [Bool.false_eq_true, if_false]
        exact rPcs_loop l pt hl n (i + 1) acc (by omega) (by omega) (by omega)
      · simp only [if_true]
        rw [room_ok (by omega), Option.bind_some, rPcs_loop l pt hl n (i + 1) _ (by omega) (by omega) (by simp; omega)]
        unfold pcsR
        simp
    · rw [decF (by omega), if_neg (by simp), List.drop_of_length_le (by omega)]
      simp [pcsR]
theorem P_rPcs {l : List Rw} {pt : Int} (hl : l.length ≤ 1000000) : F_ref05_Pcs l pt = some (pcsR l pt) := rPcs_loop l pt hl big 0 [] (by omega) (big_gt (by omega)) (by simp)
/-! What is written is read -/
def RD (b : List UInt8) (acc : List Rw) (p q : Int) (i : Nat) (R : List Rw × Int) : Prop := ∀ n, b.length - i < n → rdl b n acc p q i = R
theorem RD.end_ {b : List UInt8} {acc : List Rw} {p q : Int} {i : Nat} (h : b.length ≤ i) : RD b acc p q i ([], 5) := fun n hn => by
  cases n with
  | zero => omega
  | succ n => rw [rdl, dif_neg (by omega)]
theorem RD.step {b : List UInt8} {acc : List Rw} {p q : Int} {i : Nat} {c : UInt8} {m : Int × Int × Nat} {R : List Rw × Int} (hc : b[i]? = some c) (hv : mv b i c = some m) (h0 : c ≠ 0) (hbad : ¬ bad p q m)
    (h : RD b (if 3 ≤ c.toNat then acc ++ [⟨p + m.1, q + m.2.1⟩] else acc) (p + m.1) (q + m.2.1) m.2.2 R) : RD b acc p q i R := fun n hn => by
  obtain ⟨hi, hc⟩ := List.getElem?_eq_some_iff.1 hc
  have hn2 := mv_next hv hi
  cases n with
  | zero => omega
  | succ n =>
    rw [rdl, dif_pos hi, hc, hv]
    simp only
    rw [if_neg hbad, if_neg h0]
    exact h n (by omega)
theorem RD.none_ {b : List UInt8} {acc : List Rw} {p q : Int} {i : Nat} {c : UInt8} (hc : b[i]? = some c) (hv : mv b i c = none) : RD b acc p q i ([], 5) := fun n hn => by
  obtain ⟨hi, hc⟩ := List.getElem?_eq_some_iff.1 hc
  cases n with
  | zero => omega
  | succ n => rw [rdl, dif_pos hi, hc, hv]
theorem RD.fin {b : List UInt8} {acc : List Rw} {p q : Int} {i : Nat} (hp : p ≤ 16777216) (hq : 0 ≤ q ∧ q ≤ 16777216) (hc : b[i]? = some 0) (hl : i + 1 = b.length) (hr : Rt acc = true) : RD b acc p q i (acc, 0) := fun n hn => by
  obtain ⟨hi, hc⟩ := List.getElem?_eq_some_iff.1 hc
  cases n with
  | zero => omega
  | succ n =>
    rw [rdl, dif_pos hi, hc]
    have hv : mv b i 0 = some (0, 0, i + 1) := rfl
    rw [hv]
    simp only
    rw [if_neg (by unfold bad; simp only; omega), if_pos trivial, if_pos ⟨hl, hr⟩]
theorem at_len (p : List UInt8) (c : UInt8) (r : List UInt8) : (p ++ c :: r)[p.length]? = some c := by simp
theorem RD.u {p r : List UInt8} {acc : List Rw} {pc pt : Int} {x : Nat} {R : List Rw × Int} (hx : 0 ≤ pc ∧ pc + x ≤ 16777216) (hq : 0 ≤ pt ∧ pt ≤ 16777216)
    (h : RD (p ++ 1 :: encU x ++ r) acc (pc + x) pt (p ++ 1 :: encU x).length R) : RD (p ++ 1 :: encU x ++ r) acc pc pt p.length R := by
  have e : p ++ 1 :: encU x ++ r = (p ++ [1]) ++ encU x ++ r := by simp
  have hd := rdU_put (x := x) (by omega) (p ++ [1]) r
  rw [← e] at hd
  have hl : (((p ++ [1]).length : Nat) : Int) = (p.length : Int) + 1 := by simp
  rw [hl] at hd
  refine RD.step (m := ((x : Int), 0, (p ++ 1 :: encU x).length)) (by rw [List.append_assoc]; exact at_len _ _ _) ?_ (by decide) (by unfold bad; simp only; omega) ?_
  · unfold mv
    rw [if_pos rfl, hd]
    simp only
    rw [if_pos ⟨trivial, by omega⟩]
    congr 3
    simp
    omega
  · simp only
    rw [if_neg (by decide), show pt + 0 = pt from by omega]
    exact h
theorem RD.s {p r : List UInt8} {acc : List Rw} {pc pt : Int} {y : Int} {R : List Rw × Int} (hx : 0 ≤ pc ∧ pc ≤ 16777216) (hq : 0 ≤ pt ∧ pt ≤ 16777216 ∧ 0 ≤ pt + y ∧ pt + y ≤ 16777216)
    (h : RD (p ++ 2 :: encS y ++ r) acc pc (pt + y) (p ++ 2 :: encS y).length R) : RD (p ++ 2 :: encS y ++ r) acc pc pt p.length R := by
  have e : p ++ 2 :: encS y ++ r = (p ++ [2]) ++ encS y ++ r := by simp
  have hd := rdS_put (y := y) (by omega) (p ++ [2]) r
  rw [← e] at hd
  have hl : (((p ++ [2]).length : Nat) : Int) = (p.length : Int) + 1 := by simp
  rw [hl] at hd
  refine RD.step (m := (0, y, (p ++ 2 :: encS y).length)) (by rw [List.append_assoc]; exact at_len _ _ _) ?_ (by decide) (by unfold bad; simp only; omega) ?_
  · unfold mv
    rw [if_neg (by decide), if_pos rfl, hd]
    simp only
    rw [if_pos ⟨trivial, by omega, by omega⟩]
    congr 3
    simp
    omega
  · simp only
    rw [if_neg (by decide), show pc + 0 = pc from by omega]
    exact h
theorem RD.h {p r : List UInt8} {acc : List Rw} {pc pt : Int} {R : List Rw × Int} (hx : 0 ≤ pc ∧ pc ≤ 16777216) (hq : 0 ≤ pt ∧ pt ≤ 16777216)
    (h : RD (p ++ 3 :: r) (acc ++ [⟨pc, pt⟩]) pc pt (p.length + 1) R) : RD (p ++ 3 :: r) acc pc pt p.length R := by
  refine RD.step (m := (0, 0, p.length + 1)) (at_len _ _ _) rfl (by decide) (by unfold bad; simp only; omega) ?_
  simp only
  rw [if_pos (by decide), show pc + 0 = pc from by omega, show pt + 0 = pt from by omega]
  exact h
theorem RD.k {p r : List UInt8} {acc : List Rw} {pc pt d e : Int} {R : List Rw × Int} (hc : 0 ≤ d ∧ d ≤ 20 ∧ -4 ≤ e ∧ e < 8) (hx : 0 ≤ pc ∧ pc + d ≤ 16777216) (hq : 0 ≤ pt ∧ 0 ≤ pt + e ∧ pt + e ≤ 16777216)
    (h : RD (p ++ UInt8.ofNat (4 + 12 * d + e + 4).toNat :: r) (acc ++ [⟨pc + d, pt + e⟩]) (pc + d) (pt + e) (p.length + 1) R) : RD (p ++ UInt8.ofNat (4 + 12 * d + e + 4).toNat :: r) acc pc pt p.length R := by
  have hk : (UInt8.ofNat (4 + 12 * d + e + 4).toNat).toNat = (4 + 12 * d + e + 4).toNat := ofNat8 (by omega)
  have n0 : ∀ k : Nat, k < 4 → UInt8.ofNat (4 + 12 * d + e + 4).toNat ≠ UInt8.ofNat k := fun k hk4 h => by
    have := congrArg UInt8.toNat h
    rw [hk, ofNat8 (by omega)] at this
    omega
  refine RD.step (m := (d, e, p.length + 1)) (at_len _ _ _) ?_ (n0 0 (by omega)) (by unfold bad; simp only; omega) ?_
  · unfold mv
    rw [if_neg (show ¬ _ = (1 : UInt8) from n0 1 (by omega)), if_neg (show ¬ _ = (2 : UInt8) from n0 2 (by omega)), if_neg (fun h => h.elim (n0 0 (by omega)) (n0 3 (by omega))), hk]
    congr 2
    · omega
    · congr 1
      omega
  · simp only
    rw [if_pos (by omega)]
    exact h
theorem RD.stp_ {p r : List UInt8} {acc : List Rw} {pc pt d e : Int} {R : List Rw × Int} (hp : 0 ≤ pc) (hd : 0 ≤ d ∧ pc + d < 16777216) (hq : 0 ≤ pt ∧ pt < 1000) (he : 0 ≤ pt + e ∧ pt + e < 1000)
    (h : RD (p ++ stp d e ++ r) (acc ++ [⟨pc + d, pt + e⟩]) (pc + d) (pt + e) (p ++ stp d e).length R) : RD (p ++ stp d e ++ r) acc pc pt p.length R := by
  unfold stp at h ⊢
  split at h
  · rename_i hc
    rw [if_pos hc]
    simp only [List.append_assoc, List.cons_append, List.nil_append, List.length_append, List.length_cons, List.length_nil, Nat.zero_add] at h ⊢
    exact RD.k (by omega) (by omega) (by omega) h
  · rename_i hc
    rw [if_neg hc]
    have fin : ∀ (p' r' : List UInt8) , p ++ (((if d = 0 then [] else 1 :: encU d.toNat) ++ (if e = 0 then [] else 2 :: encS e)) ++ [3]) ++ r = p' ++ 3 :: r' → (p ++ (((if d = 0 then [] else 1 :: encU d.toNat) ++ (if e = 0 then [] else 2 :: encS e)) ++ [3])).length = p'.length + 1 → RD (p ++ (((if d = 0 then [] else 1 :: encU d.toNat) ++ (if e = 0 then [] else 2 :: encS e)) ++ [3]) ++ r) acc (pc + d) (pt + e) p'.length R := fun p' r' h1 h2 => by
      rw [h2] at h
      rw [h1] at h ⊢
      exact RD.h (by omega) (by omega) h
    by_cases d0 : d = 0
    · by_cases e0 : e = 0
      · have := fin p r (by simp [d0, e0]) (by simp [d0, e0])
        rw [show pc + d = pc from by omega, show pt + e = pt from by omega] at this
        exact this
      · have := fin (p ++ 2 :: encS e) r (by simp [d0, e0]) (by simp [d0, e0]; omega)
        have e1 : p ++ (((if d = 0 then [] else 1 :: encU d.toNat) ++ (if e = 0 then [] else 2 :: encS e)) ++ [3]) ++ r = p ++ 2 :: encS e ++ 3 :: r := by simp [d0, e0]
        rw [e1] at this ⊢
        rw [show pc + d = pc from by omega] at this
        exact RD.s (by omega) (by omega) this
    · have hdn : ((d.toNat : Nat) : Int) = d := by omega
      by_cases e0 : e = 0
      · have := fin (p ++ 1 :: encU d.toNat) r (by simp [d0, e0]) (by simp [d0, e0]; omega)
        have e1 : p ++ (((if d = 0 then [] else 1 :: encU d.toNat) ++ (if e = 0 then [] else 2 :: encS e)) ++ [3]) ++ r = p ++ 1 :: encU d.toNat ++ 3 :: r := by simp [d0, e0]
        rw [e1] at this ⊢
        rw [show pt + e = pt from by omega] at this
        exact RD.u (by omega) (by omega) (by rw [hdn]; exact this)
      · have := fin (p ++ 1 :: encU d.toNat ++ 2 :: encS e) r (by simp [d0, e0]) (by simp [d0, e0]; omega)
        have e1 : p ++ (((if d = 0 then [] else 1 :: encU d.toNat) ++ (if e = 0 then [] else 2 :: encS e)) ++ [3]) ++ r = p ++ 1 :: encU d.toNat ++ 2 :: encS e ++ 3 :: r := by simp [d0, e0]
        rw [e1] at this ⊢
        have t2 := RD.s (p := p ++ 1 :: encU d.toNat) (r := 3 :: r) (pc := pc + d) (pt := pt) (y := e) (by omega) (by omega) this
        rw [List.append_assoc (p ++ 1 :: encU d.toNat)] at t2 ⊢
        exact RD.u (by omega) (by omega) (by rw [hdn]; exact t2)
theorem rd_wr : ∀ (l : List Rw) (p : List UInt8) (acc : List Rw) (pc pt : Int), rt (pc - 1) l = true → 0 ≤ pc ∧ pc < 16777216 → 0 ≤ pt ∧ pt < 1000 → Rt (acc ++ l) = true → RD (p ++ wr pc pt l) acc pc pt p.length (acc ++ l, 0)
  | [], p, acc, pc, pt, _, hp, hq, hr => by
    rw [List.append_nil] at hr ⊢
    exact RD.fin (by omega) (by omega) (at_len _ _ _) (by simp [wr]) hr
  | x :: l, p, acc, pc, pt, h, hp, hq, hr => by
    simp only [rt, Bool.and_eq_true, decide_eq_true_eq] at h
    have ih := rd_wr l (p ++ stp (x.Pc - pc) (x.Point - pt)) (acc ++ [x]) x.Pc x.Point (rt_le (by omega) h.2) (by omega) (by omega) (by rw [List.append_assoc]; exact hr)
    rw [wr, ← List.append_assoc]
    refine RD.stp_ (by omega) (by omega) (by omega) (by omega) ?_
    rw [show pc + (x.Pc - pc) = x.Pc from by omega, show pt + (x.Point - pt) = x.Point from by omega]
    rw [show acc ++ x :: l = acc ++ [x] ++ l from by simp]
    exact ih
theorem Rdl_wr {l : List Rw} (h : Rt l = true) (hl : (wr 0 0 l).length ≤ 1000000) : Rdl (wr 0 0 l) = (l, 0) := by
  have h2 : rt (-1) l = true := by unfold Rt at h; rw [Bool.and_eq_true] at h; exact h.1
  have := rd_wr l [] [] 0 0 (by simpa using h2) (by omega) (by omega) (by simpa using h)
  exact this big (big_gt (by simp; omega))
/-! A part of what is written is not read -/
theorem take_app {α : Type} (a b : List α) {k : Nat} (h : a.length ≤ k) : (a ++ b).take k = a ++ b.take (k - a.length) := by rw [List.take_append, List.take_of_length_le h]
theorem take_app' {α : Type} (a b : List α) {k : Nat} (h : k < a.length) : (a ++ b).take k = a.take k := by rw [List.take_append, Nat.sub_eq_zero_of_le (by omega), List.take_zero, List.append_nil]
theorem cut_u {p : List UInt8} {acc : List Rw} {pc pt : Int} {x k : Nat} (hx : x < 18446744073709551616) (h : k < (1 :: encU x).length) : RD (p ++ (1 :: encU x).take k) acc pc pt p.length ([], 5) := by
  cases k with
  | zero => exact RD.end_ (by simp)
  | succ k =>
    simp only [List.length_cons] at h
    have e : p ++ (1 :: encU x).take (k + 1) = ((p ++ [1]) ++ encU x).take (p.length + 1 + k) := by
      rw [take_app _ _ (by simp), List.take_succ_cons, List.append_assoc, List.length_append, List.length_cons, List.length_nil, Nat.zero_add, Nat.add_sub_cancel_left]
      rfl
    have hd := rdU_cut (x := x) (k := p.length + 1 + k) (p ++ [1]) (by simp) (by simp; omega)
    rw [← e] at hd
    have hl : (((p ++ [1]).length : Nat) : Int) = (p.length : Int) + 1 := by simp
    rw [hl] at hd
    refine RD.none_ (c := 1) (by rw [List.take_succ_cons]; exact at_len _ _ _) ?_
    unfold mv
    rw [if_pos rfl, if_neg]
    intro h2
    rw [hd] at h2
    exact absurd h2.1 (by decide)
theorem cut_s {p : List UInt8} {acc : List Rw} {pc pt : Int} {x : Int} {k : Nat} (hx : -9223372036854775808 ≤ x ∧ x ≤ 9223372036854775807) (h : k < (2 :: encS x).length) : RD (p ++ (2 :: encS x).take k) acc pc pt p.length ([], 5) := by
  cases k with
  | zero => exact RD.end_ (by simp)
  | succ k =>
    simp only [List.length_cons] at h
    have e : p ++ (2 :: encS x).take (k + 1) = ((p ++ [2]) ++ encS x).take (p.length + 1 + k) := by
      rw [take_app _ _ (by simp), List.take_succ_cons, List.append_assoc, List.length_append, List.length_cons, List.length_nil, Nat.zero_add, Nat.add_sub_cancel_left]
      rfl
    have hd := rdS_cut (y := x) (k := p.length + 1 + k) (p ++ [2]) (by simp) (by simp; omega)
    rw [← e] at hd
    have hl : (((p ++ [2]).length : Nat) : Int) = (p.length : Int) + 1 := by simp
    rw [hl] at hd
    refine RD.none_ (c := 2) (by rw [List.take_succ_cons]; exact at_len _ _ _) ?_
    unfold mv
    rw [if_neg (by decide), if_pos rfl, if_neg]
    intro h2
    rw [hd] at h2
    exact absurd h2.1 (by decide)
theorem cut_stp {p : List UInt8} {acc : List Rw} {pc pt d e : Int} {k : Nat} (hp : 0 ≤ pc) (hd : 0 ≤ d ∧ pc + d < 16777216) (hq : 0 ≤ pt ∧ pt < 1000) (he : 0 ≤ pt + e ∧ pt + e < 1000) (hk : k < (stp d e).length) : RD (p ++ (stp d e).take k) acc pc pt p.length ([], 5) := by
  unfold stp at hk ⊢
  split at hk
  · rename_i hc
    rw [if_pos hc]
    simp only [List.length_cons, List.length_nil] at hk
    obtain rfl : k = 0 := by omega
    exact RD.end_ (by simp)
  · rename_i hc
    rw [if_neg hc]
    have sec : ∀ (p : List UInt8) (pc : Int) (k : Nat), 0 ≤ pc ∧ pc ≤ 16777216 → k < ((if e = 0 then [] else 2 :: encS e) ++ [3]).length → RD (p ++ ((if e = 0 then [] else 2 :: encS e) ++ [3]).take k) acc pc pt p.length ([], 5) := fun p pc k hpc hk => by
      by_cases e0 : e = 0
      · rw [if_pos e0] at hk ⊢
        simp only [List.nil_append, List.length_cons, List.length_nil] at hk
        obtain rfl : k = 0 := by omega
        exact RD.end_ (by simp)
      · rw [if_neg e0] at hk ⊢
        by_cases h1 : k < (2 :: encS e).length
        · rw [take_app' _ _ h1]
          exact cut_s (by omega) h1
        · rw [take_app _ _ (by omega), ← List.append_assoc]
          refine RD.s hpc (by omega) (RD.end_ ?_)
          simp only [List.length_append, List.length_cons, List.length_nil, List.length_take] at hk h1 ⊢
          omega
    by_cases d0 : d = 0
    · rw [if_pos d0, List.nil_append] at hk ⊢
      exact sec p pc k (by omega) hk
    · rw [if_neg d0, List.append_assoc] at hk ⊢
      by_cases h1 : k < (1 :: encU d.toNat).length
      · rw [take_app' _ _ h1]
        exact cut_u (by omega) h1
      · rw [take_app _ _ (by omega), ← List.append_assoc]
        refine RD.u (by omega) (by omega) ?_
        exact sec (p ++ 1 :: encU d.toNat) _ _ (by omega) (by rw [List.length_append] at hk; omega)
theorem cut_wr : ∀ (l : List Rw) (p : List UInt8) (acc : List Rw) (pc pt : Int) (k : Nat), rt (pc - 1) l = true → 0 ≤ pc ∧ pc < 16777216 → 0 ≤ pt ∧ pt < 1000 → k < (wr pc pt l).length → RD (p ++ (wr pc pt l).take k) acc pc pt p.length ([], 5)
  | [], p, acc, pc, pt, k, _, hp, hq, hk => by
    simp only [wr, List.length_cons, List.length_nil] at hk
    obtain rfl : k = 0 := by omega
    exact RD.end_ (by simp)
  | x :: l, p, acc, pc, pt, k, h, hp, hq, hk => by
    simp only [rt, Bool.and_eq_true, decide_eq_true_eq] at h
    rw [wr] at hk ⊢
    by_cases h1 : k < (stp (x.Pc - pc) (x.Point - pt)).length
    · rw [take_app' _ _ h1]
      exact cut_stp (by omega) (by omega) (by omega) (by omega) h1
    · rw [take_app _ _ (by omega), ← List.append_assoc]
      have ih := cut_wr l (p ++ stp (x.Pc - pc) (x.Point - pt)) (acc ++ [x]) x.Pc x.Point (k - (stp (x.Pc - pc) (x.Point - pt)).length) (rt_le (by omega) h.2) (by omega) (by omega) (by rw [List.length_append] at hk; omega)
      refine RD.stp_ (by omega) (by omega) (by omega) (by omega) ?_
      rw [show pc + (x.Pc - pc) = x.Pc from by omega, show pt + (x.Point - pt) = x.Point from by omega]
      exact ih
theorem Rdl_cut {l : List Rw} {k : Nat} (h : Rt l = true) (hk : k < (wr 0 0 l).length) (hl : (wr 0 0 l).length ≤ 1000000) : Rdl ((wr 0 0 l).take k) = ([], 5) := by
  have h2 : rt (-1) l = true := by unfold Rt at h; rw [Bool.and_eq_true] at h; exact h.1
  have := cut_wr l [] [] 0 0 k (by simpa using h2) (by omega) (by omega) hk
  exact this big (big_gt (by simp; omega))
/-- What is read is right. -/
theorem rdl_right (b : List UInt8) : ∀ (n i : Nat) (acc : List Rw) (p q : Int), (rdl b n acc p q i).2 = 0 ∧ Rt (rdl b n acc p q i).1 = true ∨ rdl b n acc p q i = ([], 5)
  | 0, _, _, _, _ => Or.inr rfl
  | n + 1, i, acc, p, q => by
    rw [rdl]
    split
    · split
      · exact Or.inr rfl
      · split
        · exact Or.inr rfl
        · split
          · split
            · rename_i h; exact Or.inl ⟨rfl, h.2⟩
            · exact Or.inr rfl
          · exact rdl_right b n _ _ _ _
    · exact Or.inr rfl
-- theodolitelaw05.works
def tab3 : List Rw := [⟨0, 0⟩, ⟨3, 1⟩, ⟨303, 0⟩]
theorem tab3_right : Rt tab3 = true := by decide
theorem tab3_wr : wr 0 0 tab3 = [8, 45, 1, 172, 2, 2, 127, 3, 0] := by
  have e1 : encU 300 = [172, 2] := by rw [encU_big (by omega), encU_small (by omega)]; rfl
  have e2 : encS (-1) = [127] := by rw [encS_small (by omega)]; rfl
  simp only [tab3, wr]
  rw [show stp (0 - 0) (0 - 0) = [8] from by unfold stp; rfl, show stp (3 - 0) (1 - 0) = [45] from by unfold stp; rfl, show stp (303 - 3) (0 - 1) = [1, 172, 2, 2, 127, 3] from by unfold stp; rw [if_neg (by decide), if_neg (by decide), if_neg (by decide), show (303 - 3 : Int).toNat = 300 from rfl, show (0 - 1 : Int) = -1 from rfl, e1, e2]; rfl]
  rfl
theorem P_works05 : F_law05_works = some true := by
  unfold F_law05_works
  show (F_lines_Write tab3).bind _ = _
  have hr : Rdl [8, 45, 1, 172, 2, 2, 127, 3, 0] = (tab3, 0) := by rw [← tab3_wr]; exact Rdl_wr tab3_right (by rw [tab3_wr]; decide)
  have ha : F_lines_At tab3 3 = some (1, true) := by rw [P_At (by decide)]; rfl
  have hp : F_lines_Pcs tab3 0 = some [0, 303] := by rw [P_Pcs (by decide)]; rfl
  rw [P_Write (by decide), if_pos tab3_right, tab3_wr, Option.bind_some, P_Read (by decide), hr, Option.bind_some]
  show (F_lines_At tab3 3).bind _ = _
  rw [ha, Option.bind_some]
  show (F_lines_Pcs tab3 0).bind _ = _
  rw [hp, Option.bind_some]
  rfl
-- theodolitelaw05.twin
theorem P_twin {l : List Rw} (hl : l.length ≤ 1000000) : F_law05_twin l = some l := by
  unfold F_law05_twin
  rw [room_ok (by simp; omega), Option.bind_some, List.nil_append]
-- theodolitelaw05.LinesWrites
theorem P_EqBytes {l m : List UInt8} (hl : l.length ≤ 1099511627776) (hm : m.length ≤ 1099511627776) : F_ref00_EqBytes l m = some (decide (l = m)) := if_pos ⟨hl, hm⟩
theorem wr_le {l : List Rw} (h : Rt l = true) : (wr 0 0 l).length ≤ 9 * l.length + 1 := by
  have h2 : rt (-1) l = true := by unfold Rt at h; rw [Bool.and_eq_true] at h; exact h.1
  exact wr_len (by simpa using h2) (by omega) (by omega)
theorem Rt_len {l : List Rw} (h : Rt l = true) : l.length ≤ 20000 := by
  unfold Rt at h
  simp only [Bool.and_eq_true, decide_eq_true_eq] at h
  omega
theorem P_LinesWrites (p0 : List Rw) : F_law05_LinesWrites p0 = some true := by
  unfold F_law05_LinesWrites
  by_cases hb : (p0.length : Int) > 30000
  · rw [decT hb, if_pos rfl, P_works05]; rfl
  have hl : p0.length ≤ 1000000 := by omega
  have hw : ((if Rt p0 = true then (wr 0 0 p0, (0 : Int)) else ([], 1)).1).length ≤ 1099511627776 := by
    split
    · rename_i h
      have := wr_le h
      simp only
      omega
    · simp
  rw [decF hb, if_neg (by simp), P_twin hl, Option.bind_some, P_Write hl, Option.bind_some, P_rWrite hl, Option.bind_some, beqT rfl, if_pos rfl, P_EqBytes hw hw, Option.bind_some, Option.bind_some, decT rfl, if_pos rfl, P_Right (by omega), P_rRight (by omega), P_Same hl hl]
  simp only [Option.bind_some, beq_self_eq_true, if_true, decide_true, P_works05]
-- theodolitelaw05.LinesReads
theorem rdl_len (b : List UInt8) : ∀ (n i : Nat) (acc : List Rw) (p q : Int), acc.length ≤ i → i ≤ b.length → (rdl b n acc p q i).1.length ≤ b.length
  | 0, _, _, _, _, _, _ => by simp [rdl]
  | n + 1, i, acc, p, q, h, hi => by
    rw [rdl]
    split
    · rename_i hlt
      split
      · simp
      · rename_i m hm
        have := mv_next hm hlt
        split
        · simp
        · split
          · split
            · simp only; omega
            · simp
          · refine rdl_len b n _ _ _ _ ?_ this.2.1
            split
            · simp; omega
            · omega
    · simp
theorem P_LinesReads (p0 : List UInt8) : F_law05_LinesReads p0 = some true := by
  unfold F_law05_LinesReads
  by_cases hb : (p0.length : Int) > 65536
  · rw [decT hb, if_pos rfl, P_works05]; rfl
  have hR : F_ref00_Roomy p0 = some (p0, p0 ++ [8, 7, 6, 5, 4, 3, 2, 1]) := if_pos (by omega)
  have hl : p0.length ≤ 1000000 := by omega
  have hlen : (Rdl p0).1.length ≤ 1000000 := Nat.le_trans (rdl_len p0 big 0 [] 0 0 (by simp) (by omega)) hl
  rw [decF hb, if_neg (by simp), hR, Option.bind_some, P_Read hl, Option.bind_some, P_rRead hl, Option.bind_some, beqT rfl, if_pos rfl, P_Same hlen hlen]
  simp only [Option.bind_some, decide_true, if_true, Kept_true (show p0.length ≤ 1099511000000 by omega), P_works05]
-- theodolitelaw05.LinesBack
theorem Back_k9 {b : List UInt8} (hb : b.length ≤ 65536) : F_law05_LinesBack_k9 b = some true := by
  unfold F_law05_LinesBack_k9
  have hlen : (Rdl b).1.length ≤ 65536 := Nat.le_trans (rdl_len b big 0 [] 0 0 (by simp) (by omega)) hb
  rw [P_Read (by omega), Option.bind_some]
  rcases rdl_right b big 0 [] 0 0 with ⟨h1, h2⟩ | h
  · have h1 : (Rdl b).2 = 0 := h1
    have h2 : Rt (Rdl b).1 = true := h2
    generalize Rdl b = r at *
    obtain ⟨l, e⟩ := r
    simp only at h1 h2 hlen ⊢
    subst h1
    have hw := wr_le h2
    have h20 := Rt_len h2
    rw [bneF rfl, if_neg (by simp), P_twin (by omega), Option.bind_some, P_Write (by omega), if_pos h2, Option.bind_some]
    simp only
    rw [P_Read (by omega), Rdl_wr h2 (by omega), Option.bind_some, P_Right (by omega), h2, Option.bind_some]
    simp only
    rw [P_Same (l := l) (m := l) (by omega) (by omega), wi64 (x := 9 * (l.length : Int)) (by omega), wi64 (x := 9 * (l.length : Int) + 1) (by omega), decT (show ((wr 0 0 l).length : Int) ≤ 9 * (l.length : Int) + 1 by omega), P_works05]
    simp
  · have h : Rdl b = ([], 5) := h
    rw [h, P_works05]
    rfl
theorem Back_l9 {l : List Rw} {b : List UInt8} (hb : b.length ≤ 65536) (hr : Rt l = true) (hw : (wr 0 0 l).length ≤ 1000000) : ∀ (n i : Nat), i ≤ (wr 0 0 l).length → (wr 0 0 l).length - i < n → F_law05_LinesBack_l9 b (wr 0 0 l, 0) n (i : Int) = some true
  | 0, i, _, h => by omega
  | n + 1, i, hi, h => by
    show F_law05_LinesBack_l9B _ b (wr 0 0 l, 0) (i : Int) = _
    unfold F_law05_LinesBack_l9B
    simp only
    by_cases hc : i < (wr 0 0 l).length ∧ i < 200
    · rw [decT (show (i : Int) < (wr 0 0 l).length by omega), decT (show (i : Int) < 200 by omega), Bool.and_self, if_pos rfl]
      have := cutI_ok (l := wr 0 0 l) (a := 0) (b := i) (by omega) (by omega)
      rw [show ((0 : Nat) : Int) = 0 from rfl] at this
      rw [this, Option.bind_some, List.drop_zero, P_Read (by simp; omega), Rdl_cut hr hc.1 hw, Option.bind_some, beqF (by simp), if_neg (by simp), i64_succ (by omega)]
      exact Back_l9 hb hr hw n (i + 1) (by omega) (by omega)
    · rw [if_neg (by simp only [Bool.and_eq_true, decide_eq_true_eq]; omega)]
      exact Back_k9 hb
theorem P_LinesBack (p0 : List Rw) (p1 : List UInt8) : F_law05_LinesBack p0 p1 = some true := by
  unfold F_law05_LinesBack
  by_cases hb : (p0.length : Int) > 30000 ∨ (p1.length : Int) > 65536
  · rw [if_pos (by simpa using hb), P_works05]; rfl
  have hl : p0.length ≤ 1000000 := by omega
  rw [if_neg (by simpa using hb), P_twin hl, Option.bind_some, P_Write hl, Option.bind_some, P_Right (by omega), Option.bind_some]
  by_cases hr : Rt p0 = true
  · have hw := wr_le hr
    have h20 := Rt_len hr
    rw [if_pos hr, hr]
    simp only
    rw [beqT rfl, if_neg (by decide), if_pos rfl, P_Read (by omega), Rdl_wr hr (by omega), Option.bind_some, P_Same hl hl, bneF rfl, if_neg (by simp), Option.bind_some, decT rfl, Option.bind_some, wi64 (x := 9 * (p0.length : Int)) (by omega), wi64 (x := 9 * (p0.length : Int) + 1) (by omega), decF (show ¬ ((wr 0 0 p0).length : Int) > 9 * (p0.length : Int) + 1 by omega), if_neg (by simp)]
    exact Back_l9 (by omega) hr (by omega) big 0 (by omega) (big_gt (by omega))
  · have hr' : Rt p0 = false := by simpa using hr
    rw [if_neg hr, hr']
    simp only
    rw [beqF (by decide), if_neg (by decide), if_neg (by simp), if_neg (by decide)]
    exact Back_k9 (by omega)
-- theodolitelaw05.LinesFinds
theorem rt_pair : ∀ {l : List Rw} {a : Int}, rt a l = true → (l.map (·.Pc)).Pairwise (· < ·) ∧ ∀ x ∈ l, a < x.Pc
  | [], _, _ => ⟨by simp, fun _ h => (nomatch h)⟩
  | x :: l, a, h => by
    simp only [rt, Bool.and_eq_true, decide_eq_true_eq] at h
    obtain ⟨h1, h2⟩ := rt_pair h.2
    refine ⟨?_, fun y hy => ?_⟩
    · rw [List.map_cons, List.pairwise_cons]
      refine ⟨fun z hz => ?_, h1⟩
      obtain ⟨y, hy, rfl⟩ := List.mem_map.1 hz
      exact h2 y hy
    · rcases List.mem_cons.1 hy with rfl | hy
      · omega
      · have := h2 y hy; omega
theorem Rt_pair {l : List Rw} (h : Rt l = true) : (l.map (·.Pc)).Pairwise (· < ·) := by
  unfold Rt at h
  rw [Bool.and_eq_true] at h
  exact (rt_pair h.1).1
theorem atR_own {l : List Rw} (h : (l.map (·.Pc)).Pairwise (· < ·)) {x : Rw} (hx : x ∈ l) : atR l x.Pc = (x.Point, true) := by
  induction l with
  | nil => cases hx
  | cons y l ih =>
    rw [List.map_cons, List.pairwise_cons] at h
    unfold atR
    rw [List.find?_cons]
    rcases List.mem_cons.1 hx with rfl | hx
    · rw [beqT rfl]
    · have := h.1 x.Pc (List.mem_map.2 ⟨x, hx, rfl⟩)
      rw [beqF (by omega)]
      exact ih h.2 hx
theorem pcsR_pair {l : List Rw} (h : (l.map (·.Pc)).Pairwise (· < ·)) (pt : Int) : (pcsR l pt).Pairwise (· < ·) := by
  unfold pcsR
  exact List.Pairwise.sublist (List.Sublist.map _ List.filter_sublist) h
theorem Finds_l19 {l : List Rw} (hl : l.length ≤ 2000) (hr : Rt l = true) : ∀ (n i : Nat), i ≤ l.length → l.length - i < n → F_law05_LinesFinds_l19 l n (i : Int) = some true
  | 0, i, _, h => by omega
  | n + 1, i, hi, h => by
    show F_law05_LinesFinds_l19B _ l (i : Int) = _
    unfold F_law05_LinesFinds_l19B
    by_cases hlt : i < l.length
    · rw [decT (by omega), if_pos rfl, getI_lt hlt, Option.bind_some, P_At (by omega), Option.bind_some, atR_own (Rt_pair hr) (List.getElem_mem hlt), Option.bind_some, bneF rfl, if_neg (by simp), Option.bind_some, if_neg (by simp), i64_succ (by omega)]
      exact Finds_l19 hl hr n (i + 1) (by omega) (by omega)
    · rw [decF (by omega), if_neg (by simp), P_works05]
      rfl
theorem Finds_l17 {l : List Rw} (hl : l.length ≤ 2000) {pt : Int} (hm : (pcsR l pt).length ≤ 2000) : ∀ (n i : Nat), i ≤ (pcsR l pt).length → (pcsR l pt).length - i < n → F_law05_LinesFinds_l17 l (pcsR l pt) n (pcsR l pt) (i : Int) = some true
  | 0, i, _, h => by omega
  | n + 1, i, hi, h => by
    show F_law05_LinesFinds_l17B _ l (pcsR l pt) (pcsR l pt) (i : Int) = _
    unfold F_law05_LinesFinds_l17B
    rw [P_Right (by omega), Option.bind_some, Option.bind_some]
    by_cases hlt : i < (pcsR l pt).length
    · have ih := Finds_l17 hl hm n (i + 1) (by omega) (by omega)
      rw [decT (by omega), if_pos rfl, getI_lt hlt, Option.bind_some, Option.bind_some, bneF rfl, if_neg (by simp), i64_succ (by omega), Option.bind_some]
      by_cases hr : Rt l = true
      · rw [hr, if_pos rfl]
        by_cases h0 : 0 < i
        · have hp : i - 1 < (pcsR l pt).length := by omega
          have e1 : IntKind.i64.wrap ((i : Int) - 1) = ((i - 1 : Nat) : Int) := by rw [wi64 (by omega)]; omega
          have := List.pairwise_iff_getElem.1 (pcsR_pair (Rt_pair hr) pt) (i - 1) i hp hlt (by omega)
          rw [decT (by omega), if_pos rfl, e1, getI_lt hp, Option.bind_some, Option.bind_some, decF (by omega), if_neg (by simp)]
          exact ih
        · rw [decF (by omega), if_neg (by simp), Option.bind_some, if_neg (by simp)]
          exact ih
      · have hr' : Rt l = false := by simpa using hr
        rw [hr', if_neg (by simp), if_neg (by simp), Option.bind_some, if_neg (by simp)]
        exact ih
    · rw [decF (by omega), if_neg (by simp)]
      by_cases hr : Rt l = true
      · rw [hr, if_neg (by simp)]
        exact Finds_l19 hl hr big 0 (by omega) (big_gt (by omega))
      · have hr' : Rt l = false := by simpa using hr
        rw [hr', Bool.not_false, if_pos rfl, P_works05]
        rfl
theorem P_LinesFinds (p0 : List Rw) (p1 p2 : Int) : F_law05_LinesFinds p0 p1 p2 = some true := by
  unfold F_law05_LinesFinds
  by_cases hb : (p0.length : Int) > 2000
  · rw [decT hb, if_pos rfl, P_works05]; rfl
  have hl : p0.length ≤ 2000 := by omega
  have hm : (pcsR p0 p2).length ≤ 2000 := by
    unfold pcsR
    rw [List.length_map]
    exact Nat.le_trans (List.length_filter_le _ _) hl
  rw [decF hb, if_neg (by simp), P_twin (by omega), Option.bind_some, P_At (by omega), Option.bind_some, P_rAt (by omega), Option.bind_some, Option.bind_some, P_Pcs (by omega), Option.bind_some, P_rPcs (by omega), Option.bind_some, bneF rfl, bneF rfl, beq_self_eq_true, if_neg (by simp)]
  exact Finds_l17 hl hm big 0 (by omega) (big_gt (by omega))

end Go.Proofs.Ytglpbhkkkhmlpaa
