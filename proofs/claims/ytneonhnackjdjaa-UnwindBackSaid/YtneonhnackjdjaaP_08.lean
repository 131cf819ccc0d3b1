import Derived.Test.YtneonhnackjdjaaAd
import Derived.Test.YtneonhnackjdjaaF
import Derived.Test.YtneonhnackjdjaaPL
import Derived.Test.YtneonhnackjdjaaP_02
namespace Go.Proofs.Ytneonhnackjdjaa
open Go.Ab Go.RowKit
set_option linter.unusedVariables false
set_option linter.unusedSimpArgs false
abbrev Sv := S_api_Saved
abbrev Ue := S_api_Unwind
def okR (r : Int) (x : Sv) : Prop := r < x.Reg ∧ x.Reg ≤ 11 ∧ x.At ≤ -2 ∧ -65536 ≤ x.At
instance (r : Int) (x : Sv) : Decidable (okR r x) := by unfold okR; exact inferInstance
def rtR : Int → List Sv → Bool
  | _, [] => true
  | r, x :: l => decide (okR r x) && rtR x.Reg l
def okU (last : Int) (x : Ue) : Prop := last ≤ x.From ∧ x.From < x.To ∧ x.To ≤ 16777216 ∧ 0 ≤ x.Up ∧ x.Up ≤ 65536
instance (r : Int) (x : Ue) : Decidable (okU r x) := by unfold okU; exact inferInstance
def rtU : Int → List Ue → Bool
  | _, [] => true
  | last, x :: l => decide (okU last x) && rtR 5 x.Regs && rtU x.To l
theorem R_loop (l : List Sv) (hl : l.length ≤ 1000000000) : ∀ (n i : Nat) (r : Int), i ≤ l.length → l.length - i < n → F_unwind_rightRegs_l3 l n r (i : Int) = some (rtR r (l.drop i))
  | 0, i, _, _, h => by omega
  | n + 1, i, r, hi, h => by
    show F_unwind_rightRegs_l3B _ l r (i : Int) = _
    unfold F_unwind_rightRegs_l3B
    by_cases hlt : i < l.length
    · rw [decT (by omega), if_pos rfl, getI_lt hlt, Option.bind_some, List.drop_eq_getElem_cons hlt, rtR]
      by_cases hc : okR r l[i]
      · have h2 := hc
        unfold okR at h2
        rw [decT hc, Bool.true_and, if_neg (by simp only [Bool.or_eq_true, decide_eq_true_eq]; omega), i64_succ (by omega), R_loop l hl n (i + 1) _ (by omega) (by omega)]
      · rw [decF hc, Bool.false_and, if_pos]
        unfold okR at hc
        simp only [Bool.or_eq_true, decide_eq_true_eq]
        omega
    · rw [decF (by omega), if_neg (by simp), List.drop_of_length_le (by omega), rtR]
theorem P_rightRegs {l : List Sv} (hl : l.length ≤ 1000000000) : F_unwind_rightRegs l = some (rtR 5 l) := R_loop l hl big 0 5 (by omega) (big_gt (by omega))
def small (l : List Ue) : Prop := l.length ≤ 1000000 ∧ ∀ x ∈ l, x.Regs.length ≤ 1000000
theorem U_loop (l : List Ue) (hs : small l) : ∀ (n i : Nat) (last : Int), i ≤ l.length → l.length - i < n → F_unwind_Right_l3 l n last (i : Int) = some (rtU last (l.drop i) && decide ((l.length : Int) ≤ 4000))
  | 0, i, _, _, h => by omega
  | n + 1, i, r, hi, h => by
    have hl := hs.1
    show F_unwind_Right_l3B _ l r (i : Int) = _
    unfold F_unwind_Right_l3B
    by_cases hlt : i < l.length
    · have hr := hs.2 l[i] (List.getElem_mem hlt)
      rw [decT (by omega), if_pos rfl, getI_lt hlt, Option.bind_some, List.drop_eq_getElem_cons hlt, rtU]
      by_cases hc : okU r l[i]
      · have h2 := hc
        unfold okU at h2
        rw [decT hc, Bool.true_and, if_neg (by simp only [Bool.or_eq_true, decide_eq_true_eq]; omega), P_rightRegs (by omega), Option.bind_some, Option.bind_some]
        cases rtR 5 l[i].Regs
        · rfl
        · rw [Bool.not_true, if_neg (by simp), i64_succ (by omega), U_loop l hs n (i + 1) _ (by omega) (by omega), Bool.true_and]
      · rw [decF hc, if_pos]
        · simp
        · unfold okU at hc
          simp only [Bool.or_eq_true, decide_eq_true_eq]
          omega
    · rw [decF (by omega), if_neg (by simp), List.drop_of_length_le (by omega), rtU, Bool.true_and]
def Ut (l : List Ue) : Bool := rtU 0 l && decide ((l.length : Int) ≤ 4000)
theorem P_URight {l : List Ue} (hs : small l) : F_unwind_Right l = some (Ut l) := U_loop l hs big 0 0 (by omega) (big_gt (by have := hs.1; omega))
theorem rR_loop (l : List Ue) (y : Ue) (hy : y.Regs.length ≤ 1000000) (k : Nat) (rec : Int → Int → Option Bool) : ∀ (n i : Nat) (r : Int), i ≤ y.Regs.length → y.Regs.length - i < n → F_ref08_Right_l15 rec (k : Int) y n r (i : Int) = if rtR r (y.Regs.drop i) = true then rec y.To (IntKind.i64.wrap ((k : Int) + 1)) else some false
  | 0, i, _, _, h => by omega
  | n + 1, i, r, hi, h => by
    show F_ref08_Right_l15B _ rec (k : Int) y r (i : Int) = _
    unfold F_ref08_Right_l15B
    by_cases hlt : i < y.Regs.length
    · simp only [getI_lt hlt, Option.bind_some]
      rw [decT (by omega), if_pos rfl, List.drop_eq_getElem_cons hlt, rtR]
      by_cases hc : okR r y.Regs[i]
      · have h2 := hc
        unfold okR at h2
        rw [decT hc, Bool.true_and, decF (show ¬ y.Regs[i].Reg ≤ r by omega), if_neg (by simp), Option.bind_some, decF (show ¬ y.Regs[i].Reg > 11 by omega), if_neg (by simp), Option.bind_some, decF (show ¬ y.Regs[i].At > -2 by omega), if_neg (by simp), Option.bind_some, decF (show ¬ y.Regs[i].At < -65536 by omega), if_neg (by simp), i64_succ (by omega)]
        exact rR_loop l y hy k rec n (i + 1) _ (by omega) (by omega)
      · rw [decF hc, Bool.false_and, if_neg (show ¬ false = true by simp)]
        by_cases h1 : y.Regs[i].Reg ≤ r
        · rw [decT h1]; rfl
        · rw [decF h1, if_neg (by simp), Option.bind_some]
          by_cases h2 : y.Regs[i].Reg > 11
          · rw [decT h2]; rfl
          · rw [decF h2, if_neg (by simp), Option.bind_some]
            by_cases h3 : y.Regs[i].At > -2
            · rw [decT h3]; rfl
            · rw [decF h3, if_neg (by simp), Option.bind_some, decT (show y.Regs[i].At < -65536 by unfold okR at hc; omega)]
              rfl
    · rw [decF (by omega), if_neg (by simp), List.drop_of_length_le (by omega), rtR, if_pos rfl]
theorem rU_loop (l : List Ue) (hs : small l) : ∀ (n i : Nat) (last : Int), i ≤ l.length → l.length - i < n → F_ref08_Right_l13 l n last (i : Int) = some (rtU last (l.drop i) && decide ((l.length : Int) ≤ 4000))
  | 0, i, _, _, h => by omega
  | n + 1, i, r, hi, h => by
    have hl := hs.1
    show F_ref08_Right_l13B _ l r (i : Int) = _
    unfold F_ref08_Right_l13B
    by_cases hlt : i < l.length
    · have hr := hs.2 l[i] (List.getElem_mem hlt)
      rw [decT (by omega), if_pos rfl, getI_lt hlt, Option.bind_some, List.drop_eq_getElem_cons hlt, rtU]
      by_cases hc : okU r l[i]
      · have h2 := hc
        unfold okU at h2
        have := rR_loop l l[i] hr i (F_ref08_Right_l13 l n) big 0 5 (by omega) (big_gt (by omega))
        rw [show ((0 : Nat) : Int) = 0 from rfl] at this
        rw [decT hc, Bool.true_and, if_neg (by simp only [Bool.or_eq_true, decide_eq_true_eq]; omega), this, List.drop_zero]
        cases rtR 5 l[i].Regs
        · rfl
        · rw [if_pos rfl, i64_succ (by omega), rU_loop l hs n (i + 1) _ (by omega) (by omega), Bool.true_and]
      · rw [decF hc, if_pos]
        · simp
        · unfold okU at hc
          simp only [Bool.or_eq_true, decide_eq_true_eq]
          omega
    · rw [decF (by omega), if_neg (by simp), List.drop_of_length_le (by omega), rtU, Bool.true_and]
theorem P_rURight {l : List Ue} (hs : small l) : F_ref08_Right l = some (Ut l) := rU_loop l hs big 0 0 (by omega) (big_gt (by have := hs.1; omega))
def encRs : List Sv → List UInt8
  | [] => []
  | x :: l => UInt8.ofNat x.Reg.toNat :: (encU (-x.At).toNat ++ encRs l)
def encE (last : Int) (x : Ue) : List UInt8 := encU (x.From - last).toNat ++ (encU (x.To - x.From).toNat ++ (encU x.Up.toNat ++ (encU x.Regs.length ++ encRs x.Regs)))
def encEs : Int → List Ue → List UInt8
  | _, [] => []
  | last, x :: l => encE last x ++ encEs x.To l
def encT (l : List Ue) : List UInt8 := encU l.length ++ encEs 0 l
theorem put_loop (l : List Int) (hl : l.length ≤ 10) (hr : ∀ x ∈ l, 0 ≤ x ∧ x ≤ 9223372036854775807) : ∀ (n i : Nat) (b : List UInt8), i ≤ l.length → l.length - i < n → b.length ≤ 1000000000 + 10 * i → F_unwind_put_l3 l n b (i : Int) = some (b ++ (l.drop i).flatMap fun x => encU x.toNat)
  | 0, i, _, _, h, _ => by omega
  | n + 1, i, b, hi, h, hb => by
    show F_unwind_put_l3B _ l b (i : Int) = _
    unfold F_unwind_put_l3B
    by_cases hlt : i < l.length
    · have hx := hr l[i] (List.getElem_mem hlt)
      have hU : IntKind.u64.wrap l[i] = ((l[i].toNat : Nat) : Int) := by rw [wu64_mod]; omega
      have h10 := encU_le10 (x := l[i].toNat) (by omega)
      rw [decT (by omega), if_pos rfl, getI_lt hlt, Option.bind_some, hU, F_PutU (by omega) (by omega), Option.bind_some, i64_succ (by omega), put_loop l hl hr n (i + 1) _ (by omega) (by omega) (by simp; omega), List.drop_eq_getElem_cons hlt, List.flatMap_cons, List.append_assoc]
    · rw [decF (by omega), if_neg (by simp), List.drop_of_length_le (by omega)]
      simp
theorem P_put {b : List UInt8} {l : List Int} (hb : b.length ≤ 1000000000) (hl : l.length ≤ 10) (h0 : l ≠ []) (hr : ∀ x ∈ l, 0 ≤ x ∧ x ≤ 9223372036854775807) : F_unwind_put b l = some (b ++ l.flatMap fun x => encU x.toNat) := by
  unfold F_unwind_put
  cases l with
  | nil => exact absurd rfl h0
  | cons x l =>
    have hx := hr x (List.mem_cons_self ..)
    have hU : IntKind.u64.wrap x = ((x.toNat : Nat) : Int) := by rw [wu64_mod]; omega
    have h10 := encU_le10 (x := x.toNat) (by omega)
    have := put_loop (x :: l) hl hr big 1 (b ++ encU x.toNat) (by simp) (big_gt (by omega)) (by simp; omega)
    rw [decT (by simp), if_pos rfl, show getI (x :: l) 0 = some x from rfl, Option.bind_some, hU, F_PutU (by omega) (by omega), Option.bind_some, show IntKind.i64.wrap (0 + 1) = ((1 : Nat) : Int) from wi64 (by omega), this, List.flatMap_cons, List.append_assoc]
    rfl
theorem encRs_len : ∀ (l : List Sv) (r : Int), rtR r l = true → (encRs l).length ≤ 4 * l.length
  | [], _, _ => by simp [encRs]
  | x :: l, r, h => by
    simp only [rtR, Bool.and_eq_true, decide_eq_true_eq] at h
    have h2 := h.1
    unfold okR at h2
    have := encRs_len l x.Reg h.2
    have h3 : (encU (-x.At).toNat).length ≤ 3 := encU_len 2 _ (by omega)
    simp only [encRs, List.length_cons, List.length_append]
    omega
theorem rtR_len : ∀ (l : List Sv) (r : Int), rtR r l = true → r ≤ 11 → (l.length : Int) ≤ 11 - r
  | [], _, _, hr => by simp; omega
  | x :: l, r, h, hr => by
    simp only [rtR, Bool.and_eq_true, decide_eq_true_eq] at h
    have h2 := h.1
    unfold okR at h2
    have := rtR_len l x.Reg h.2 (by omega)
    simp only [List.length_cons]
    omega
theorem encE_len {last : Int} {x : Ue} (h : okU last x) (hl : 0 ≤ last) (hr : rtR 5 x.Regs = true) : (encE last x).length ≤ 40 := by
  unfold okU at h
  have h1 : (encU (x.From - last).toNat).length ≤ 4 := encU_len 3 _ (by omega)
  have h2 : (encU (x.To - x.From).toNat).length ≤ 4 := encU_len 3 _ (by omega)
  have h3 : (encU x.Up.toNat).length ≤ 3 := encU_len 2 _ (by omega)
  have h6 := rtR_len _ _ hr (by omega)
  have h4 : (encU x.Regs.length).length ≤ 1 := encU_len 0 _ (by omega)
  have h5 := encRs_len _ _ hr
  simp only [encE, List.length_append]
  omega
theorem Put15 {y : Ue} (k : Nat) (hr : rtR 5 y.Regs = true) (rec : List UInt8 → Int → Int → Option (List UInt8 × Int)) : ∀ (n i : Nat) (b : List UInt8) (r : Int), i ≤ y.Regs.length → y.Regs.length - i < n → b.length ≤ 900000000 + 4 * i → rtR r (y.Regs.drop i) = true → 5 ≤ r → F_unwind_Put_l15 rec (k : Int) y n b (i : Int) = rec (b ++ encRs (y.Regs.drop i)) y.To (IntKind.i64.wrap ((k : Int) + 1))
  | 0, i, _, _, _, h, _, _, _ => by omega
  | n + 1, i, b, r, hi, h, hb, hq, h5 => by
    have hlen := rtR_len _ _ hr (by omega)
    show F_unwind_Put_l15B _ rec (k : Int) y b (i : Int) = _
    unfold F_unwind_Put_l15B
    by_cases hlt : i < y.Regs.length
    · rw [List.drop_eq_getElem_cons hlt] at hq ⊢
      simp only [rtR, Bool.and_eq_true, decide_eq_true_eq] at hq
      have h2 := hq.1
      unfold okR at h2
      have h3 : (encU (-y.Regs[i].At).toNat).length ≤ 3 := encU_len 2 _ (by omega)
      rw [decT (by omega), if_pos rfl, getI_lt hlt, Option.bind_some, u8o_wrap, Option.bind_some, room_ok (by simp; omega), Option.bind_some, wi64 (x := 0 - y.Regs[i].At) (by omega), P_put (by simp; omega) (by simp) (by simp) (by simp; omega), Option.bind_some, i64_succ (by omega), Put15 k hr rec n (i + 1) _ y.Regs[i].Reg (by omega) (by omega) (by simp; omega) hq.2 (by omega), encRs]
      have e1 : (y.Regs[i].Reg % 256).toNat = y.Regs[i].Reg.toNat := by omega
      have e2 : (0 - y.Regs[i].At) = -y.Regs[i].At := by omega
      rw [e1, e2]
      simp
    · rw [decF (by omega), if_neg (by simp), List.drop_of_length_le (by omega), encRs, List.append_nil]
theorem Put13 (l : List Ue) (hs : small l) : ∀ (n i : Nat) (b : List UInt8) (last : Int), i ≤ l.length → l.length - i < n → b.length ≤ 100000000 + 40 * i → rtU last (l.drop i) = true → 0 ≤ last → F_unwind_Put_l13 l n b last (i : Int) = some (b ++ encEs last (l.drop i), 0)
  | 0, i, _, _, _, h, _, _, _ => by omega
  | n + 1, i, b, last, hi, h, hb, hq, h0 => by
    have hl := hs.1
    show F_unwind_Put_l13B _ l b last (i : Int) = _
    unfold F_unwind_Put_l13B
    by_cases hlt : i < l.length
    · rw [List.drop_eq_getElem_cons hlt] at hq ⊢
      simp only [rtU, Bool.and_eq_true, decide_eq_true_eq] at hq
      have hok := hq.1.1
      have h2 := hq.1.1
      unfold okU at h2
      have h6 := rtR_len _ _ hq.1.2 (by omega)
      have h40 := encE_len hok h0 hq.1.2
      have hE : (encE last l[i]) = ([l[i].From - last, l[i].To - l[i].From, l[i].Up, (l[i].Regs.length : Int)].flatMap fun x => encU x.toNat) ++ encRs l[i].Regs := by
        simp [encE]
      have hlE := congrArg List.length hE
      rw [List.length_append] at hlE
      have h15 := Put15 (y := l[i]) i hq.1.2 (F_unwind_Put_l13 l n) big 0 (b ++ [l[i].From - last, l[i].To - l[i].From, l[i].Up, (l[i].Regs.length : Int)].flatMap fun x => encU x.toNat) 5 (by omega) (big_gt (by omega)) (by rw [List.length_append]; omega) (by simpa using hq.1.2) (by omega)
      rw [show ((0 : Nat) : Int) = 0 from rfl, List.drop_zero, List.append_assoc, ← hE] at h15
      rw [decT (by omega), if_pos rfl, getI_lt hlt, Option.bind_some, wi64 (x := l[i].From - last) (by omega), wi64 (x := l[i].To - l[i].From) (by omega), P_put (by omega) (by simp) (by simp) (by simp; omega), Option.bind_some, h15, i64_succ (by omega), Put13 l hs n (i + 1) _ _ (by omega) (by omega) (by rw [List.length_append]; omega) hq.2 (by omega), encEs, List.append_assoc]
    · rw [decF (by omega), if_neg (by simp), List.drop_of_length_le (by omega), encEs, List.append_nil]
theorem P_Put {b : List UInt8} {l : List Ue} (hs : small l) (hb : b.length ≤ 1000000) : F_unwind_Put b l = some (if Ut l = true then (b ++ encT l, 0) else ([], 1)) := by
  unfold F_unwind_Put
  rw [P_URight hs, Option.bind_some]
  have hl := hs.1
  by_cases hr : Ut l = true
  · have h2 : rtU 0 l = true := by unfold Ut at hr; rw [Bool.and_eq_true] at hr; exact hr.1
    have h10 := encU_le10 (x := l.length) (by omega)
    have := Put13 l hs big 0 (b ++ encU l.length) 0 (by omega) (big_gt (by omega)) (by simp; omega) (by simpa using h2) (by omega)
    rw [show ((0 : Nat) : Int) = 0 from rfl, List.drop_zero] at this
    rw [hr, Bool.not_true, if_neg (by simp), if_pos rfl, P_put (by omega) (by simp) (by simp) (by simp; omega), Option.bind_some]
    simp only [List.flatMap_cons, List.flatMap_nil, List.append_nil, Int.toNat_natCast]
    rw [this, encT, List.append_assoc]
  · rw [if_neg hr]
    have : Ut l = false := by simpa using hr
    rw [this]
    rfl
theorem Twin_loop (l : List Ue) (hs : small l) : ∀ (n i : Nat) (acc : List Ue), i ≤ l.length → l.length - i < n → acc.length ≤ i → F_ref08_Twin_l3 l n acc (i : Int) = some (acc ++ l.drop i)
  | 0, i, _, _, h, _ => by omega
  | n + 1, i, acc, hi, h, ha => by
    have hl := hs.1
    show F_ref08_Twin_l3B _ l acc (i : Int) = _
    unfold F_ref08_Twin_l3B
    by_cases hlt : i < l.length
    · have hr := hs.2 l[i] (List.getElem_mem hlt)
      rw [decT (by omega), if_pos rfl, getI_lt hlt, Option.bind_some, Option.bind_some, room_ok (by simp; omega), Option.bind_some, room_ok (by omega), Option.bind_some, i64_succ (by omega), Twin_loop l hs n (i + 1) _ (by omega) (by omega) (by simp; omega), List.drop_eq_getElem_cons hlt, List.nil_append, List.append_assoc]
      rfl
    · rw [decF (by omega), if_neg (by simp), List.drop_of_length_le (by omega), List.append_nil]
theorem P_Twin {l : List Ue} (hs : small l) : F_ref08_Twin l = some l := by
  have := Twin_loop l hs big 0 [] (by omega) (big_gt (by have := hs.1; omega)) (by simp)
  exact this
theorem sv_eq (x y : Sv) : ((x.Reg == y.Reg) && ((x.At == y.At) && true)) = decide (x = y) := by
  cases x; cases y
  rw [Bool.eq_iff_iff]
  simp
theorem One_loop (x y : Ue) (hl : x.Regs.length ≤ 1000000) (hlm : x.Regs.length = y.Regs.length) : ∀ (n i : Nat), i ≤ x.Regs.length → x.Regs.length - i < n → F_ref08_SameOne_l3 x y n (i : Int) = some (decide (x.Regs.drop i = y.Regs.drop i))
  | 0, i, _, h => by omega
  | n + 1, i, hi, h => by
    show F_ref08_SameOne_l3B _ x y (i : Int) = _
    unfold F_ref08_SameOne_l3B
    by_cases hlt : i < x.Regs.length
    · have hlt2 : i < y.Regs.length := by omega
      rw [decT (by omega), if_pos rfl, getI_lt hlt, Option.bind_some, getI_lt hlt2, Option.bind_some, sv_eq, List.drop_eq_getElem_cons hlt, List.drop_eq_getElem_cons hlt2]
      by_cases he : x.Regs[i] = y.Regs[i]
      · rw [decT he, if_neg (by simp), i64_succ (by omega), One_loop x y hl hlm n (i + 1) (by omega) (by omega), he]
        congr 1
        rw [decide_eq_decide]
        exact ⟨fun h => by rw [h], fun h => by injection h⟩
      · rw [decF he, if_pos (by rfl), decF]
        intro h2
        injection h2 with h3 h4
        exact he h3
    · rw [decF (by omega), if_neg (by simp), List.drop_of_length_le (by omega), List.drop_of_length_le (by omega), decT rfl]
theorem P_SameOne {x y : Ue} (hl : x.Regs.length ≤ 1000000) : F_ref08_SameOne x y = some (decide (x = y)) := by
  unfold F_ref08_SameOne
  by_cases h : x.From = y.From ∧ x.To = y.To ∧ x.Up = y.Up ∧ x.Regs.length = y.Regs.length
  · rw [bneF h.1, bneF h.2.1, bneF h.2.2.1, bneF (by omega), Bool.or_self, Bool.or_self, Bool.or_self, if_neg (by simp)]
    have := One_loop x y hl h.2.2.2 big 0 (by omega) (big_gt (by omega))
    rw [show ((0 : Nat) : Int) = 0 from rfl, List.drop_zero, List.drop_zero] at this
    rw [this]
    congr 1
    rw [decide_eq_decide]
    constructor
    · intro h2
      cases x; cases y
      simp only at h h2
      obtain ⟨rfl, rfl, rfl, _⟩ := h
      rw [h2]
    · intro h2; rw [h2]
  · rw [decF (fun e => h (by rw [e]; exact ⟨rfl, rfl, rfl, rfl⟩)), if_pos]
    simp only [Bool.or_eq_true, bne_iff_ne, ne_eq]
    omega
theorem Same8_loop (l m : List Ue) (hs : small l) (hlm : l.length = m.length) : ∀ (n i : Nat), i ≤ l.length → l.length - i < n → F_ref08_Same_l3 l m n (i : Int) = some (decide (l.drop i = m.drop i))
  | 0, i, _, h => by omega
  | n + 1, i, hi, h => by
    have hl := hs.1
    show F_ref08_Same_l3B _ l m (i : Int) = _
    unfold F_ref08_Same_l3B
    by_cases hlt : i < l.length
    · have hlt2 : i < m.length := by omega
      have hr := hs.2 l[i] (List.getElem_mem hlt)
      rw [decT (by omega), if_pos rfl, getI_lt hlt, Option.bind_some, getI_lt hlt2, Option.bind_some, P_SameOne (x := ⟨l[i].From, l[i].To, l[i].Up, l[i].Regs⟩) (by simp only; omega), Option.bind_some, List.drop_eq_getElem_cons hlt, List.drop_eq_getElem_cons hlt2]
      by_cases he : l[i] = m[i]
      · rw [decT (show (⟨l[i].From, l[i].To, l[i].Up, l[i].Regs⟩ : Ue) = ⟨m[i].From, m[i].To, m[i].Up, m[i].Regs⟩ from he), if_neg (by simp), i64_succ (by omega), Same8_loop l m hs hlm n (i + 1) (by omega) (by omega), he]
        congr 1
        rw [decide_eq_decide]
        exact ⟨fun h => by rw [h], fun h => by injection h⟩
      · rw [decF (show ¬ (⟨l[i].From, l[i].To, l[i].Up, l[i].Regs⟩ : Ue) = ⟨m[i].From, m[i].To, m[i].Up, m[i].Regs⟩ from he), if_pos (by rfl), decF]
        intro h2
        injection h2 with h3 h4
        exact he h3
    · rw [decF (by omega), if_neg (by simp), List.drop_of_length_le (by omega), List.drop_of_length_le (by omega), decT rfl]
theorem P_Same8 {l m : List Ue} (hs : small l) (hm : m.length ≤ 1000000) : F_ref08_Same l m = some (decide (l = m)) := by
  have hl := hs.1
  unfold F_ref08_Same
  by_cases h : l.length = m.length
  · rw [bneF (by omega), if_neg (by simp)]
    exact Same8_loop l m hs h big 0 (by omega) (big_gt (by omega))
  · rw [bneT (by omega), if_pos rfl, decF (fun e => h (by rw [e]))]
theorem vast_loop (l : List Ue) (v : S_api_View) (hm : l.length ≤ maxLen) : ∀ (n i : Nat) (s : Int), i ≤ l.length → i ≤ 5001 → 5001 - i < n → 0 ≤ s ∧ s ≤ 1000 * i → ∃ r, F_law08_vast_l3 l v n s (i : Int) = some r ∧ (r = false → l.length ≤ 5000 ∧ ∀ k, i ≤ k → ∀ h : k < l.length, (l[k]'h).Regs.length ≤ 1000)
  | 0, i, _, _, _, h, _ => by omega
  | n + 1, i, s, hi, h5, h, hs => by
    have hmx : maxLen ≤ 9223372036854775807 := by decide
    show ∃ r, F_law08_vast_l3B _ l v s (i : Int) = some r ∧ _
    unfold F_law08_vast_l3B
    by_cases hlt : i < l.length ∧ i ≤ 5000
    · rw [decT (show (i : Int) < l.length by omega), decT (show (i : Int) ≤ 5000 by omega), Bool.and_self, if_pos rfl, getI_lt hlt.1, Option.bind_some, Option.bind_some]
      by_cases hr : (l[i].Regs.length : Int) > 1000
      · rw [decT hr, if_pos rfl]
        exact ⟨true, rfl, fun h => by cases h⟩
      · have hmin : minI (l[i].Regs.length : Int) 1000 = (l[i].Regs.length : Int) ∨ minI (l[i].Regs.length : Int) 1000 = 1000 := by unfold minI; split <;> simp
        have hmin2 : 0 ≤ minI (l[i].Regs.length : Int) 1000 ∧ minI (l[i].Regs.length : Int) 1000 ≤ 1000 := by omega
        rw [decF hr, if_neg (by simp), wi64 (x := s + minI (l[i].Regs.length : Int) 1000) (by omega), i64_succ (by omega)]
        obtain ⟨r, h1, h2⟩ := vast_loop l v hm n (i + 1) _ (by omega) (by omega) (by omega) (show 0 ≤ s + minI (l[i].Regs.length : Int) 1000 ∧ s + minI (l[i].Regs.length : Int) 1000 ≤ 1000 * ((i + 1 : Nat) : Int) by omega)
        refine ⟨r, h1, fun hf => ?_⟩
        obtain ⟨h3, h4⟩ := h2 hf
        refine ⟨h3, fun k hk hkl => ?_⟩
        by_cases he : k = i
        · subst he; omega
        · exact h4 k (by omega) hkl
    · rw [if_neg (by simp only [Bool.and_eq_true, decide_eq_true_eq]; omega)]
      refine ⟨_, rfl, fun hf => ?_⟩
      simp only [Bool.or_eq_false_iff, decide_eq_false_iff_not] at hf
      exact ⟨by omega, fun k hk hkl => by omega⟩
theorem P_vast {l : List Ue} {v : S_api_View} (hm : l.length ≤ maxLen) : ∃ r, F_law08_vast l v = some r ∧ (r = false → l.length ≤ 5000 ∧ ∀ x ∈ l, x.Regs.length ≤ 1000) := by
  obtain ⟨r, h1, h2⟩ := vast_loop l v hm big 0 0 (by omega) (by omega) (big_gt (by omega)) (by omega)
  refine ⟨r, h1, fun hf => ?_⟩
  obtain ⟨h3, h4⟩ := h2 hf
  refine ⟨h3, fun x hx => ?_⟩
  obtain ⟨k, hk, rfl⟩ := List.getElem_of_mem hx
  exact h4 k (by omega) hk
def Lies (b : List UInt8) (i : Nat) (x : List UInt8) : Prop := i + x.length ≤ b.length ∧ (b.drop i).take x.length = x
theorem Lies.app {b x y : List UInt8} {i : Nat} (h1 : Lies b i x) (h2 : Lies b (i + x.length) y) : Lies b i (x ++ y) := by
  refine ⟨by rw [List.length_append]; have := h2.1; omega, ?_⟩
  rw [List.length_append, List.take_add, h1.2, List.drop_drop, h2.2]
theorem Lies.split {b x : List UInt8} {i : Nat} (h : Lies b i x) : b = b.take i ++ x ++ b.drop (i + x.length) := by
  have e : b.drop i = x ++ b.drop (i + x.length) := by
    rw [← List.take_append_drop x.length (b.drop i), h.2, List.drop_drop]
  rw [List.append_assoc, ← e, List.take_append_drop]
theorem P_number {b : List UInt8} {a : Int} {f : Bool} {m : Nat} (hb : b.length ≤ 1099511627776) (ha : -9223372036854775808 ≤ a ∧ a ≤ 9223372036854775807) (hm : m ≤ 1000000000) :
    F_unwind_reader_number ⟨b, a, f⟩ (m : Int) = some (if f = false ∧ (rdU b a).2.2 = 0 ∧ (rdU b a).1 ≤ m then (((rdU b a).1 : Int), ⟨b, (rdU b a).2.1, false⟩) else (0, ⟨b, a, true⟩)) := by
  unfold F_unwind_reader_number
  have hw : IntKind.u64.wrap (m : Int) = m := by rw [wu64_mod]; omega
  simp only
  rw [F_U hb ha, Option.bind_some, hw]
  simp only
  by_cases h : f = false ∧ (rdU b a).2.2 = 0 ∧ (rdU b a).1 ≤ m
  · rw [if_pos h, h.1, h.2.1, bneF rfl, decF (by have := h.2.2; omega), Bool.or_self, Bool.or_self, if_neg (by simp), wi64 (by have := h.2.2; omega)]
  · rw [if_neg h, if_pos]
    cases f
    · simp only [Bool.false_or, Bool.or_eq_true, bne_iff_ne, ne_eq, decide_eq_true_eq]
      by_cases h2 : (rdU b a).2.2 = 0
      · right
        have : ¬ (rdU b a).1 ≤ m := fun h3 => h ⟨rfl, h2, h3⟩
        omega
      · exact Or.inl h2
    · simp
theorem num_put {p r : List UInt8} {x m : Nat} (hb : (p ++ encU x ++ r).length ≤ 1099511627776) (hm : m ≤ 1000000000) (hx : x ≤ m) : F_unwind_reader_number ⟨p ++ encU x ++ r, p.length, false⟩ (m : Int) = some ((x : Int), ⟨p ++ encU x ++ r, ((p ++ encU x).length : Nat), false⟩) := by
  have hp : p.length ≤ (p ++ encU x ++ r).length := by simp
  rw [P_number hb (by omega) hm, rdU_put (by omega), if_pos ⟨rfl, rfl, hx⟩]
theorem num_ok {b : List UInt8} {a : Int} {f : Bool} {m : Nat} {x : Int} {q : S_unwind_reader} (hb : b.length ≤ 1099511627776) (ha : -9223372036854775808 ≤ a ∧ a ≤ 9223372036854775807) (hm : m ≤ 1000000000)
    (h : F_unwind_reader_number ⟨b, a, f⟩ (m : Int) = some (x, q)) : q.b = b ∧ (q.failed = true ∧ q.at_ = a ∧ x = 0 ∨ q.failed = false ∧ f = false ∧ ∃ i k : Nat, a = i ∧ x = k ∧ k ≤ m ∧ Lies b i (encU k) ∧ q.at_ = ((i + (encU k).length : Nat) : Int)) := by
  rw [P_number hb ha hm] at h
  injection h with h
  by_cases hc : f = false ∧ (rdU b a).2.2 = 0 ∧ (rdU b a).1 ≤ m
  · rw [if_pos hc] at h
    injection h with h1 h2
    subst h1; subst h2
    refine ⟨rfl, Or.inr ⟨rfl, hc.1, ?_⟩⟩
    rcases rdU_cases b a with ⟨e, h3, h4⟩ | ⟨j, n, y, h3, h4, h5, h6, h7, h8, h9⟩
    · rw [h3] at hc; simp only at hc; omega
    · have hl : (encU y).length = n := by rw [h8, List.length_take, List.length_drop]; omega
      rw [h9] at hc ⊢
      simp only at hc ⊢
      exact ⟨j, y, h3, rfl, hc.2.2, ⟨by omega, by rw [hl]; exact h8.symm⟩, by rw [hl]⟩
  · rw [if_neg hc] at h
    injection h with h1 h2
    subst h1; subst h2
    exact ⟨rfl, Or.inl ⟨rfl, rfl, rfl⟩⟩
theorem P_byte {b : List UInt8} {i : Nat} (hb : b.length ≤ 1000000) (hi : i < b.length) : F_unwind_reader_byte ⟨b, i, false⟩ = some ((b[i].toNat : Int), ⟨b, ((i + 1 : Nat) : Int), false⟩) := by
  unfold F_unwind_reader_byte
  simp only
  have e : IntKind.i64.wrap (((i + 1 : Nat) : Int) - 1) = (i : Int) := by rw [wi64 (by omega)]; omega
  rw [decF (show ¬ (i : Int) ≥ b.length by omega), Bool.or_self, if_neg (by simp), i64_succ (by omega), e, getI_lt hi, Option.bind_some]
theorem P_byteF {b : List UInt8} {a : Int} {f : Bool} (h : f = true ∨ a ≥ b.length) : F_unwind_reader_byte ⟨b, a, f⟩ = some (0, ⟨b, a, true⟩) := by
  unfold F_unwind_reader_byte
  simp only
  rw [if_pos]
  simp only [Bool.or_eq_true, decide_eq_true_eq]
  exact h
theorem entry_put (e0 : Int) (c4 c13 c21 : Int × S_unwind_reader) : ∀ (n : Nat) (l : List Sv) (p r : List UInt8) (acc : List Sv) (r0 : Int), (p ++ encRs l ++ r).length ≤ 1000000 → rtR r0 l = true → 5 ≤ r0 → l.length < n → acc.length + l.length ≤ 1000000 →
    F_unwind_reader_entry_l3 e0 c4 c13 c21 n (p ++ encRs l ++ r) (p.length : Int) false acc (l.length : Int) = some (⟨IntKind.i64.wrap (e0 + c4.1), IntKind.i64.wrap (IntKind.i64.wrap (e0 + c4.1) + c13.1), c21.1, acc ++ l⟩, ⟨p ++ encRs l ++ r, ((p ++ encRs l).length : Nat), false⟩)
  | 0, l, _, _, _, _, _, _, _, h, _ => by omega
  | n + 1, [], p, r, acc, r0, hb, hr, h5, hn, ha => by
    show F_unwind_reader_entry_l3B _ e0 c4 c13 c21 _ _ _ _ _ = _
    unfold F_unwind_reader_entry_l3B
    simp [encRs]
  | n + 1, x :: l, p, r, acc, r0, hb, hr, h5, hn, ha => by
    simp only [rtR, Bool.and_eq_true, decide_eq_true_eq] at hr
    have h2 := hr.1
    unfold okR at h2
    simp only [List.length_cons] at hn
    have hk : (UInt8.ofNat x.Reg.toNat).toNat = x.Reg.toNat := ofNat8 (by omega)
    have e1 : p ++ encRs (x :: l) ++ r = (p ++ [UInt8.ofNat x.Reg.toNat]) ++ encU (-x.At).toNat ++ (encRs l ++ r) := by simp [encRs]
    have e2 : p ++ encRs (x :: l) ++ r = (p ++ [UInt8.ofNat x.Reg.toNat] ++ encU (-x.At).toNat) ++ encRs l ++ r := by simp [encRs]
    have hlt : p.length < (p ++ encRs (x :: l) ++ r).length := by simp [encRs]
    have h3 := rtR_len _ _ hr.2 (by omega)
    have hget : (p ++ encRs (x :: l) ++ r)[p.length]'hlt = UInt8.ofNat x.Reg.toNat := by
      have h := List.getElem?_eq_getElem hlt
      have h4 : (p ++ encRs (x :: l) ++ r)[p.length]? = some (UInt8.ofNat x.Reg.toNat) := by simp [encRs]
      rw [h4] at h
      injection h with h
      exact h.symm
    have hby := P_byte hb hlt
    rw [hget, hk] at hby
    have hnum := num_put (p := p ++ [UInt8.ofNat x.Reg.toNat]) (r := encRs l ++ r) (x := (-x.At).toNat) (m := 65536) (by rw [← e1]; omega) (by omega) (by omega)
    rw [← e1] at hnum
    have hpl : (((p ++ [UInt8.ofNat x.Reg.toNat]).length : Nat) : Int) = ((p.length + 1 : Nat) : Int) := by simp
    rw [hpl] at hnum
    have ih := entry_put e0 c4 c13 c21 n l (p ++ [UInt8.ofNat x.Reg.toNat] ++ encU (-x.At).toNat) r (acc ++ [x]) x.Reg (by rw [← e2]; exact hb) hr.2 (by omega) (by omega) (by simp only [List.length_append, List.length_cons, List.length_nil] at ha ⊢; omega)
    show F_unwind_reader_entry_l3B _ e0 c4 c13 c21 _ _ _ _ _ = _
    unfold F_unwind_reader_entry_l3B
    rw [decT (show ((x :: l).length : Int) > 0 by rw [List.length_cons]; omega), Bool.not_false, Bool.and_self, if_pos rfl, hby, Option.bind_some]
    simp only
    rw [show ((65536 : Int)) = ((65536 : Nat) : Int) from rfl, hnum, Option.bind_some, room_ok (by simp only [List.length_cons, List.length_nil] at ha ⊢; omega), Option.bind_some]
    simp only
    have ea : IntKind.i64.wrap (0 - (((-x.At).toNat : Nat) : Int)) = x.At := by rw [wi64 (by omega)]; omega
    have eb : IntKind.i64.wrap ((x.Reg.toNat : Nat) : Int) = x.Reg := by rw [wi64 (by omega)]; omega
    have ec : IntKind.i64.wrap (((x :: l).length : Int) - 1) = (l.length : Int) := by rw [List.length_cons, wi64 (by omega)]; omega
    rw [ea, eb, ec, e2, ih]
    simp [encRs]
theorem P_entry {p r : List UInt8} {last : Int} {x : Ue} (hb : (p ++ encE last x ++ r).length ≤ 1000000) (hx : okU last x) (hr : rtR 5 x.Regs = true) (hl : 0 ≤ last) :
    F_unwind_reader_entry ⟨p ++ encE last x ++ r, (p.length : Int), false⟩ last = some (x, ⟨p ++ encE last x ++ r, ((p ++ encE last x).length : Nat), false⟩) := by
  unfold okU at hx
  have h6 := rtR_len _ _ hr (by omega)
  unfold F_unwind_reader_entry
  simp only
  have e1 : p ++ encE last x ++ r = p ++ encU (x.From - last).toNat ++ (encU (x.To - x.From).toNat ++ (encU x.Up.toNat ++ (encU x.Regs.length ++ encRs x.Regs)) ++ r) := by simp [encE]
  have e2 : p ++ encE last x ++ r = (p ++ encU (x.From - last).toNat) ++ encU (x.To - x.From).toNat ++ ((encU x.Up.toNat ++ (encU x.Regs.length ++ encRs x.Regs)) ++ r) := by simp [encE]
  have e3 : p ++ encE last x ++ r = (p ++ encU (x.From - last).toNat ++ encU (x.To - x.From).toNat) ++ encU x.Up.toNat ++ ((encU x.Regs.length ++ encRs x.Regs) ++ r) := by simp [encE]
  have e4 : p ++ encE last x ++ r = (p ++ encU (x.From - last).toNat ++ encU (x.To - x.From).toNat ++ encU x.Up.toNat) ++ encU x.Regs.length ++ (encRs x.Regs ++ r) := by simp [encE]
  have e5 : p ++ encE last x ++ r = (p ++ encU (x.From - last).toNat ++ encU (x.To - x.From).toNat ++ encU x.Up.toNat ++ encU x.Regs.length) ++ encRs x.Regs ++ r := by simp [encE]
  have n1 := num_put (m := 16777216) (by rw [← e1]; omega) (by omega) (show (x.From - last).toNat ≤ 16777216 by omega)
  rw [← e1] at n1
  have n2 := num_put (m := 16777216) (by rw [← e2]; omega) (by omega) (show (x.To - x.From).toNat ≤ 16777216 by omega)
  rw [← e2] at n2
  have n3 := num_put (m := 65536) (by rw [← e3]; omega) (by omega) (show x.Up.toNat ≤ 65536 by omega)
  rw [← e3] at n3
  have n4 := num_put (m := 11) (by rw [← e4]; omega) (by omega) (show x.Regs.length ≤ 11 by omega)
  rw [← e4] at n4
  rw [show ((16777216 : Int)) = ((16777216 : Nat) : Int) from rfl, show ((65536 : Int)) = ((65536 : Nat) : Int) from rfl, show ((11 : Int)) = ((11 : Nat) : Int) from rfl, n1, Option.bind_some]
  simp only
  rw [n2, Option.bind_some]
  simp only
  rw [n3, Option.bind_some]
  simp only
  rw [n4, Option.bind_some]
  simp only
  have := entry_put last (((x.From - last).toNat : Int), ⟨p ++ encE last x ++ r, ((p ++ encU (x.From - last).toNat).length : Nat), false⟩) (((x.To - x.From).toNat : Int), ⟨p ++ encE last x ++ r, ((p ++ encU (x.From - last).toNat ++ encU (x.To - x.From).toNat).length : Nat), false⟩) ((x.Up.toNat : Int), ⟨p ++ encE last x ++ r, ((p ++ encU (x.From - last).toNat ++ encU (x.To - x.From).toNat ++ encU x.Up.toNat).length : Nat), false⟩) big x.Regs (p ++ encU (x.From - last).toNat ++ encU (x.To - x.From).toNat ++ encU x.Up.toNat ++ encU x.Regs.length) r [] 5 (by rw [← e5]; exact hb) hr (by omega) (big_gt (by omega)) (by simp; omega)
  rw [← e5] at this
  rw [this]
  have f1 : IntKind.i64.wrap (last + ((x.From - last).toNat : Int)) = x.From := by rw [wi64 (by omega)]; omega
  have f2 : IntKind.i64.wrap (x.From + ((x.To - x.From).toNat : Int)) = x.To := by rw [wi64 (by omega)]; omega
  have f3 : ((x.Up.toNat : Nat) : Int) = x.Up := by omega
  simp only [f1, f2, f3, List.nil_append]
  congr 4
  simp [encE]
theorem rtU_small : ∀ {l : List Ue} {last : Int}, rtU last l = true → ∀ x ∈ l, x.Regs.length ≤ 6
  | [], _, _, _, h => (nomatch h)
  | y :: l, last, h, x, hx => by
    simp only [rtU, Bool.and_eq_true, decide_eq_true_eq] at h
    rcases List.mem_cons.1 hx with rfl | hx
    · have := rtR_len _ _ h.1.2 (by omega); omega
    · exact rtU_small h.2 x hx
theorem Ut_small {l : List Ue} (h : Ut l = true) : small l := by
  unfold Ut at h
  simp only [Bool.and_eq_true, decide_eq_true_eq] at h
  exact ⟨by omega, fun x hx => by have := rtU_small h.1 x hx; omega⟩
theorem Get_put : ∀ (n : Nat) (l : List Ue) (p r : List UInt8) (acc : List Ue) (last : Int), (p ++ encEs last l ++ r).length ≤ 1000000 → rtU last l = true → 0 ≤ last → l.length < n → Ut (acc ++ l) = true →
    F_unwind_Get_l3 n acc (p ++ encEs last l ++ r) (p.length : Int) false last (l.length : Int) = some (acc ++ l, (((p ++ encEs last l).length : Nat) : Int), 0)
  | 0, l, _, _, _, _, _, _, _, h, _ => by omega
  | n + 1, [], p, r, acc, last, hb, hr, h0, hn, ha => by
    show F_unwind_Get_l3B _ _ _ _ _ _ _ = _
    unfold F_unwind_Get_l3B
    rw [List.append_nil] at ha
    rw [P_URight (Ut_small ha), ha]
    simp [encEs]
  | n + 1, x :: l, p, r, acc, last, hb, hr, h0, hn, ha => by
    simp only [rtU, Bool.and_eq_true, decide_eq_true_eq] at hr
    have hx := hr.1.1
    have h2 := hr.1.1
    unfold okU at h2
    have hlen : acc.length + (l.length + 1) ≤ 4000 := by
      have := ha
      unfold Ut at this
      simp only [Bool.and_eq_true, decide_eq_true_eq, List.length_append, List.length_cons] at this
      omega
    simp only [List.length_cons] at hn
    have e1 : p ++ encEs last (x :: l) ++ r = p ++ encE last x ++ (encEs x.To l ++ r) := by simp [encEs]
    have e2 : p ++ encEs last (x :: l) ++ r = (p ++ encE last x) ++ encEs x.To l ++ r := by simp [encEs]
    have hE := P_entry (p := p) (r := encEs x.To l ++ r) (by rw [← e1]; exact hb) hx hr.1.2 h0
    rw [← e1] at hE
    have ih := Get_put n l (p ++ encE last x) r (acc ++ [x]) x.To (by rw [← e2]; exact hb) hr.2 (by omega) (by omega) (by rw [List.append_assoc]; exact ha)
    rw [← e2] at ih
    show F_unwind_Get_l3B _ _ _ _ _ _ _ = _
    unfold F_unwind_Get_l3B
    have ec : IntKind.i64.wrap (((x :: l).length : Int) - 1) = (l.length : Int) := by rw [List.length_cons, wi64 (by omega)]; omega
    rw [decT (show ((x :: l).length : Int) > 0 by rw [List.length_cons]; omega), Bool.not_false, Bool.and_self, if_pos rfl, hE, Option.bind_some, room_ok (by simp only [List.length_cons, List.length_nil]; omega), Option.bind_some]
    simp only
    rw [ec, decF (show ¬ x.To > 16777216 by omega), Bool.or_self, ih]
    simp [encEs]
theorem P_Get {p r : List UInt8} {l : List Ue} (hb : (p ++ encT l ++ r).length ≤ 1000000) (hl : Ut l = true) : F_unwind_Get (p ++ encT l ++ r) (p.length : Int) = some (l, (((p ++ encT l).length : Nat) : Int), 0) := by
  have h2 : rtU 0 l = true ∧ (l.length : Int) ≤ 4000 := by unfold Ut at hl; simp only [Bool.and_eq_true, decide_eq_true_eq] at hl; exact hl
  unfold F_unwind_Get
  have e1 : p ++ encT l ++ r = p ++ encU l.length ++ (encEs 0 l ++ r) := by simp [encT]
  have e2 : p ++ encT l ++ r = (p ++ encU l.length) ++ encEs 0 l ++ r := by simp [encT]
  have n1 := num_put (m := 4000) (by rw [← e1]; omega) (by omega) (show l.length ≤ 4000 by omega)
  rw [← e1] at n1
  have hp : p.length ≤ (p ++ encT l ++ r).length := by simp
  rw [decF (show ¬ (p.length : Int) < 0 by omega), decF (show ¬ (p.length : Int) > (p ++ encT l ++ r).length by omega), Bool.or_self, if_neg (by simp), show ((4000 : Int)) = ((4000 : Nat) : Int) from rfl, n1, Option.bind_some]
  simp only
  have := Get_put big l (p ++ encU l.length) r [] 0 (by rw [← e2]; exact hb) h2.1 (by omega) (big_gt (by omega)) (by simpa using hl)
  rw [← e2] at this
  rw [this]
  simp [encT]
theorem byte_ok {b : List UInt8} {a : Int} {f : Bool} {x : Int} {q : S_unwind_reader} (hb : b.length ≤ 1000000) (ha : 0 ≤ a) (h : F_unwind_reader_byte ⟨b, a, f⟩ = some (x, q)) : q.b = b ∧ (q.failed = true ∧ q.at_ = a ∧ x = 0 ∨ q.failed = false ∧ f = false ∧ ∃ (i : Nat) (hi : i < b.length), a = i ∧ x = b[i].toNat ∧ q.at_ = ((i + 1 : Nat) : Int)) := by
  by_cases hc : f = true ∨ a ≥ b.length
  · rw [P_byteF hc] at h
    injection h with h
    injection h with h1 h2
    subst h1; subst h2
    exact ⟨rfl, Or.inl ⟨rfl, rfl, rfl⟩⟩
  · obtain ⟨i, rfl⟩ : ∃ i : Nat, a = i := ⟨a.toNat, by omega⟩
    have hf : f = false := by cases f <;> simp_all
    subst hf
    have hi : i < b.length := by omega
    rw [P_byte hb hi] at h
    injection h with h
    injection h with h1 h2
    subst h1; subst h2
    exact ⟨rfl, Or.inr ⟨rfl, rfl, i, hi, rfl, rfl, rfl⟩⟩
theorem entry_lies {b : List UInt8} (hb : b.length ≤ 1000000) (e0 : Int) (c4 c13 c21 : Int × S_unwind_reader) : ∀ (n : Nat) (a : Int) (f : Bool) (acc : List Sv) (k : Nat) (x : Ue) (q : S_unwind_reader), 0 ≤ a → a ≤ b.length → k ≤ 1000000 →
    F_unwind_reader_entry_l3 e0 c4 c13 c21 n b a f acc (k : Int) = some (x, q) → q.failed = false →
    f = false ∧ q.b = b ∧ ∃ (l : List Sv) (i : Nat), x = ⟨IntKind.i64.wrap (e0 + c4.1), IntKind.i64.wrap (IntKind.i64.wrap (e0 + c4.1) + c13.1), c21.1, acc ++ l⟩ ∧ l.length = k ∧ a = i ∧ Lies b i (encRs l) ∧ q.at_ = ((i + (encRs l).length : Nat) : Int)
  | 0, a, f, acc, k, x, q, _, _, _, h, _ => by cases h
  | n + 1, a, f, acc, k, x, q, ha, ha2, hk, h, hq => by
    have h : F_unwind_reader_entry_l3B (F_unwind_reader_entry_l3 e0 c4 c13 c21 n) e0 c4 c13 c21 b a f acc (k : Int) = some (x, q) := h
    unfold F_unwind_reader_entry_l3B at h
    by_cases hc : 0 < k ∧ f = false
    · rw [decT (show (k : Int) > 0 by omega), hc.2, Bool.not_false, Bool.and_self, if_pos rfl] at h
      obtain ⟨⟨x1, q1⟩, h1, ha1⟩ := Option.bind_eq_some_iff.1 h
      obtain ⟨⟨x2, q2⟩, h2, ha3⟩ := Option.bind_eq_some_iff.1 ha1
      obtain ⟨_, hr, hh⟩ := Option.bind_eq_some_iff.1 ha3
      clear h ha1 ha3
      simp only at hh h2
      obtain ⟨e1, hby⟩ := byte_ok hb ha h1
      obtain ⟨b1, a1, f1⟩ := q1
      simp only at e1 hby h2
      subst e1
      have hr1 : 0 ≤ a1 ∧ a1 ≤ b1.length := by
        rcases hby with ⟨_, h3, _⟩ | ⟨_, _, i, hi, _, _, h3⟩ <;> omega
      obtain ⟨e2, hnum⟩ := num_ok (m := 65536) (by omega) (by omega) (by omega) h2
      obtain ⟨b2, a2, f2⟩ := q2
      simp only at e2 hnum hh
      subst e2
      have hr2 : 0 ≤ a2 ∧ a2 ≤ b2.length := by
        rcases hnum with ⟨_, h3, _⟩ | ⟨_, _, i, y, h3, _, _, h4, h5⟩
        · omega
        · have := h4.1; omega
      have ec : IntKind.i64.wrap ((k : Int) - 1) = ((k - 1 : Nat) : Int) := by rw [wi64 (by omega)]; omega
      rw [ec] at hh
      obtain ⟨hf2, e3, l, i2, hx, hlk, hi2, hlies, hat⟩ := entry_lies hb e0 c4 c13 c21 n a2 f2 _ (k - 1) x q hr2.1 hr2.2 (by omega) hh hq
      rcases hnum with ⟨h3, _, _⟩ | ⟨_, hf1, i1, y, h3, h4, h5, h6, h7⟩
      · rw [hf2] at h3; cases h3
      · rcases hby with ⟨h8, _, _⟩ | ⟨_, _, i, hi, h8, h9, h10⟩
        · rw [hf1] at h8; cases h8
        · have hlt := b2[i].toNat_lt
          obtain rfl : i1 = i + 1 := by omega
          obtain rfl : i2 = i + 1 + (encU y).length := by omega
          subst h4; subst h9
          have ea : IntKind.i64.wrap (0 - (y : Int)) = -(y : Int) := by rw [wi64 (by omega)]; omega
          have eb : IntKind.i64.wrap ((b2[i].toNat : Nat) : Int) = b2[i].toNat := i64_nat (by omega)
          rw [ea, eb] at hx
          have henc : encRs (⟨(b2[i].toNat : Int), -(y : Int)⟩ :: l) = [b2[i]] ++ (encU y ++ encRs l) := by
            simp only [encRs, Int.neg_neg, Int.toNat_natCast, List.singleton_append]
            congr 1
            exact UInt8.toNat_inj.1 (ofNat8 (by omega))
          refine ⟨hc.2, e3, ⟨(b2[i].toNat : Int), -(y : Int)⟩ :: l, i, ?_, by simp; omega, h8, ?_, ?_⟩
          · rw [hx]; simp
          · rw [henc]
            have hone : Lies b2 i [b2[i]] := ⟨by simp; omega, by rw [List.drop_eq_getElem_cons hi]; rfl⟩
            exact hone.app (Lies.app h6 hlies)
          · rw [henc, hat]
            simp only [List.length_append, List.length_cons, List.length_nil]
            omega
    · rw [if_neg (by simp only [Bool.and_eq_true, decide_eq_true_eq, Bool.not_eq_true']; exact fun h3 => hc ⟨by omega, h3.2⟩)] at h
      injection h with h
      injection h with h1 h2
      subst h1; subst h2
      have hf : f = false := hq
      have hk0 : k = 0 := by
        by_cases h0 : 0 < k
        · exact absurd ⟨h0, hf⟩ hc
        · omega
      refine ⟨hf, rfl, [], a.toNat, by simp, by simp [hk0], by omega, ?_, ?_⟩
      · exact ⟨by simp [encRs]; omega, by simp [encRs]⟩
      · simp [encRs]; omega
theorem num_step {b : List UInt8} {a : Int} {f : Bool} {m : Nat} {x : Int} {q : S_unwind_reader} (hb : b.length ≤ 1000000) (ha : 0 ≤ a ∧ a ≤ b.length) (hm : m ≤ 1000000000) (h : F_unwind_reader_number ⟨b, a, f⟩ (m : Int) = some (x, q)) :
    q.b = b ∧ (0 ≤ q.at_ ∧ q.at_ ≤ b.length) ∧ (0 ≤ x ∧ x ≤ m) ∧ (q.failed = false → f = false ∧ ∃ i : Nat, a = i ∧ Lies b i (encU x.toNat) ∧ q.at_ = ((i + (encU x.toNat).length : Nat) : Int)) := by
  obtain ⟨h1, h2⟩ := num_ok (by omega) (by omega) hm h
  rcases h2 with ⟨h3, h4, h5⟩ | ⟨h3, h4, i, y, h5, h6, h7, h8, h9⟩
  · exact ⟨h1, by omega, by omega, fun h => by rw [h3] at h; cases h⟩
  · subst h6
    refine ⟨h1, by have := h8.1; omega, by omega, fun _ => ⟨h4, i, h5, by rw [Int.toNat_natCast]; exact h8, by rw [Int.toNat_natCast]; exact h9⟩⟩
theorem Entry_lies {b : List UInt8} {a last : Int} {f : Bool} {x : Ue} {q : S_unwind_reader} (hb : b.length ≤ 1000000) (ha : 0 ≤ a ∧ a ≤ b.length) (hl : 0 ≤ last ∧ last ≤ 16777216) (h : F_unwind_reader_entry ⟨b, a, f⟩ last = some (x, q)) (hq : q.failed = false) :
    f = false ∧ q.b = b ∧ (last ≤ x.From ∧ x.From ≤ x.To ∧ x.To ≤ 100000000) ∧ x.Regs.length ≤ 11 ∧ ∃ i : Nat, a = i ∧ Lies b i (encE last x) ∧ q.at_ = ((i + (encE last x).length : Nat) : Int) := by
  unfold F_unwind_reader_entry at h
  simp only at h
  obtain ⟨⟨x1, q1⟩, h1, k1⟩ := Option.bind_eq_some_iff.1 h
  obtain ⟨⟨x2, q2⟩, h2, k2⟩ := Option.bind_eq_some_iff.1 k1
  obtain ⟨⟨x3, q3⟩, h3, k3⟩ := Option.bind_eq_some_iff.1 k2
  obtain ⟨⟨x4, q4⟩, h4, k4⟩ := Option.bind_eq_some_iff.1 k3
  clear h k1 k2 k3
  simp only at h2 h3 h4 k4
  obtain ⟨b1, a1, f1⟩ := q1
  obtain ⟨b2, a2, f2⟩ := q2
  obtain ⟨b3, a3, f3⟩ := q3
  obtain ⟨b4, a4, f4⟩ := q4
  obtain ⟨e1, r1, s1, t1⟩ := num_step (m := 16777216) hb ha (by omega) h1
  simp only at e1 r1 t1 h2; subst e1
  obtain ⟨e2, r2, s2, t2⟩ := num_step (m := 16777216) hb r1 (by omega) h2
  simp only at e2 r2 t2 h3; subst e2
  obtain ⟨e3, r3, s3, t3⟩ := num_step (m := 65536) hb r2 (by omega) h3
  simp only at e3 r3 t3 h4; subst e3
  obtain ⟨e4, r4, s4, t4⟩ := num_step (m := 11) hb r3 (by omega) h4
  simp only at e4 r4 t4 k4; subst e4
  rw [show x4 = ((x4.toNat : Nat) : Int) from by omega] at k4
  obtain ⟨hf4, e5, l, i5, hx, hlk, hi5, hlies, hat⟩ := entry_lies hb last _ _ _ big a4 f4 [] x4.toNat x q r4.1 r4.2 (by omega) k4 hq
  obtain ⟨hf3, i4, hi4, l4, at4⟩ := t4 hf4
  obtain ⟨hf2, i3, hi3, l3, at3⟩ := t3 hf3
  obtain ⟨hf1, i2, hi2, l2, at2⟩ := t2 hf2
  obtain ⟨hf, i1, hi1, l1, at1⟩ := t1 hf1
  simp only at hx
  rw [wi64 (x := last + x1) (by omega), wi64 (x := last + x1 + x2) (by omega), List.nil_append] at hx
  obtain rfl : i2 = i1 + (encU x1.toNat).length := by omega
  obtain rfl : i3 = i1 + (encU x1.toNat).length + (encU x2.toNat).length := by omega
  obtain rfl : i4 = i1 + (encU x1.toNat).length + (encU x2.toNat).length + (encU x3.toNat).length := by omega
  obtain rfl : i5 = i1 + (encU x1.toNat).length + (encU x2.toNat).length + (encU x3.toNat).length + (encU x4.toNat).length := by omega
  subst hx
  have henc : encE last ⟨last + x1, last + x1 + x2, x3, l⟩ = encU x1.toNat ++ (encU x2.toNat ++ (encU x3.toNat ++ (encU x4.toNat ++ encRs l))) := by
    unfold encE
    simp only
    rw [show last + x1 - last = x1 from by omega, show last + x1 + x2 - (last + x1) = x2 from by omega, hlk]
  refine ⟨hf, e5, by simp only; omega, by simp only; omega, i1, hi1, ?_, ?_⟩
  · rw [henc]
    exact l1.app (l2.app (l3.app (l4.app hlies)))
  · rw [henc, hat]
    simp only [List.length_append]
    omega
theorem Get_lies {b : List UInt8} (hb : b.length ≤ 1000000) : ∀ (n : Nat) (acc : List Ue) (a : Int) (f : Bool) (last : Int) (k : Nat) (r : List Ue × Int × Int), 0 ≤ a → a ≤ b.length → 0 ≤ last → (f = false → last ≤ 16777216) → acc.length + k ≤ 1000000 → (∀ x ∈ acc, x.Regs.length ≤ 1000000) →
    F_unwind_Get_l3 n acc b a f last (k : Int) = some r → r = ([], 0, 5) ∨ f = false ∧ ∃ (m : List Ue) (i : Nat), r = (acc ++ m, ((i + (encEs last m).length : Nat) : Int), 0) ∧ m.length = k ∧ a = i ∧ Lies b i (encEs last m) ∧ Ut (acc ++ m) = true
  | 0, acc, a, f, last, k, r, _, _, _, _, _, _, h => by cases h
  | n + 1, acc, a, f, last, k, r, ha, ha2, hl, hl2, hk, hs, h => by
    have h : F_unwind_Get_l3B (F_unwind_Get_l3 n) acc b a f last (k : Int) = some r := h
    unfold F_unwind_Get_l3B at h
    by_cases hc : 0 < k ∧ f = false
    · obtain ⟨hk0, hf⟩ := hc
      subst hf
      rw [decT (show (k : Int) > 0 by omega), Bool.not_false, Bool.and_self, if_pos rfl] at h
      obtain ⟨⟨x, q⟩, h1, h2⟩ := Option.bind_eq_some_iff.1 h
      obtain ⟨_, hr, hh⟩ := Option.bind_eq_some_iff.1 h2
      clear h h2
      simp only at hh
      have ec : IntKind.i64.wrap ((k : Int) - 1) = ((k - 1 : Nat) : Int) := by rw [wi64 (by omega)]; omega
      rw [ec] at hh
      obtain ⟨b1, a1, f1⟩ := q
      simp only at hh
      cases hfx : (f1 || decide (x.To > 16777216))
      · rw [hfx] at hh
        simp only [Bool.or_eq_false_iff, decide_eq_false_iff_not] at hfx
        obtain ⟨hf1, hto⟩ := hfx
        obtain ⟨_, e1, hx, hrl, i, hi, hlies, hat⟩ := Entry_lies hb ⟨ha, ha2⟩ ⟨hl, hl2 rfl⟩ h1 hf1
        simp only at e1 hat
        subst e1
        have hle := hlies.1
        rcases Get_lies hb n _ a1 false x.To (k - 1) r (by omega) (by omega) (by omega) (fun _ => by omega) (by simp; omega) (by
          intro y hy
          rcases List.mem_append.1 hy with hy | hy
          · exact hs y hy
          · rw [List.mem_singleton.1 hy]; simp only; omega) hh with h3 | ⟨_, m, i2, hr2, hm, hi2, hl2', hu⟩
        · exact Or.inl h3
        · obtain rfl : i2 = i + (encE last x).length := by omega
          refine Or.inr ⟨rfl, x :: m, i, ?_, by simp; omega, hi, ?_, ?_⟩
          · rw [hr2, encEs]
            simp only [List.append_assoc, List.length_append, List.singleton_append]
            congr 3
            omega
          · rw [encEs]
            exact hlies.app hl2'
          · rw [← hu, List.append_assoc]; rfl
      · rw [hfx] at hh
        cases n with
        | zero => cases hh
        | succ n =>
          have hh2 : F_unwind_Get_l3B (F_unwind_Get_l3 n) _ b1 a1 true x.To ((k - 1 : Nat) : Int) = some r := hh
          unfold F_unwind_Get_l3B at hh2
          rw [Bool.not_true, Bool.and_false, if_neg (by simp), if_pos rfl, Option.bind_some, if_pos rfl] at hh2
          injection hh2 with hh2
          exact Or.inl hh2.symm
    · rw [if_neg (by simp only [Bool.and_eq_true, decide_eq_true_eq, Bool.not_eq_true']; exact fun h3 => hc ⟨by omega, h3.2⟩)] at h
      cases f
      · rw [if_neg (by simp), P_URight ⟨by omega, hs⟩, Option.bind_some, Option.bind_some] at h
        have hk0 : k = 0 := by
          by_cases h0 : 0 < k
          · exact absurd ⟨h0, rfl⟩ hc
          · omega
        cases hu : Ut acc
        · rw [hu, Bool.not_false, if_pos rfl] at h
          injection h with h
          exact Or.inl h.symm
        · rw [hu, Bool.not_true, if_neg (by simp)] at h
          injection h with h
          refine Or.inr ⟨rfl, [], a.toNat, ?_, by simp [hk0], by omega, ⟨by simp [encEs]; omega, by simp [encEs]⟩, by simpa using hu⟩
          rw [← h]
          simp [encEs]
          omega
      · rw [if_pos rfl, Option.bind_some, if_pos rfl] at h
        injection h with h
        exact Or.inl h.symm
theorem P_Get_lies {b : List UInt8} {a : Int} {r : List Ue × Int × Int} (hb : b.length ≤ 1000000) (h : F_unwind_Get b a = some r) : (a < 0 ∨ a > b.length) ∧ r = ([], 0, 1) ∨ (0 ≤ a ∧ a ≤ b.length) ∧ (r = ([], 0, 5) ∨ ∃ (l : List Ue) (i : Nat), r = (l, ((i + (encT l).length : Nat) : Int), 0) ∧ a = i ∧ Lies b i (encT l) ∧ Ut l = true) := by
  unfold F_unwind_Get at h
  by_cases hc : a < 0 ∨ a > b.length
  · rw [if_pos (by simpa using hc)] at h
    injection h with h
    exact Or.inl ⟨hc, h.symm⟩
  · have ha : 0 ≤ a ∧ a ≤ b.length := by omega
    refine Or.inr ⟨ha, ?_⟩
    rw [if_neg (by simpa using hc)] at h
    obtain ⟨⟨x, q⟩, h1, h2⟩ := Option.bind_eq_some_iff.1 h
    obtain ⟨b1, a1, f1⟩ := q
    obtain ⟨e1, r1, s1, t1⟩ := num_step (m := 4000) hb ha (by omega) h1
    simp only at e1 r1 t1 h2
    subst e1
    rw [show x = ((x.toNat : Nat) : Int) from by omega] at h2
    rcases Get_lies hb big [] a1 f1 0 x.toNat r r1.1 r1.2 (by omega) (fun _ => by omega) (by simp; omega) (fun _ h => (nomatch h)) h2 with h3 | ⟨hf, m, i2, hr2, hm, hi2, hl2, hu⟩
    · exact Or.inl h3
    · obtain ⟨_, i, hi, hl1, hat⟩ := t1 hf
      obtain rfl : i2 = i + (encU x.toNat).length := by omega
      rw [List.nil_append] at hr2 hu
      refine Or.inr ⟨m, i, ?_, hi, ?_, hu⟩
      · rw [hr2, encT, hm, List.length_append, Nat.add_assoc]
      · rw [encT, hm]
        exact hl1.app hl2
theorem num_tot {b : List UInt8} {a : Int} {f : Bool} {m : Nat} (hb : b.length ≤ 1000000) (ha : 0 ≤ a ∧ a ≤ b.length) (hm : m ≤ 1000000000) : ∃ x q, F_unwind_reader_number ⟨b, a, f⟩ (m : Int) = some (x, q) := by
  rw [P_number (by omega) (by omega) hm]
  split <;> exact ⟨_, _, rfl⟩
theorem byte_tot {b : List UInt8} {a : Int} {f : Bool} (hb : b.length ≤ 1000000) (ha : 0 ≤ a) : ∃ x q, F_unwind_reader_byte ⟨b, a, f⟩ = some (x, q) := by
  by_cases hc : f = true ∨ a ≥ b.length
  · exact ⟨_, _, P_byteF hc⟩
  · obtain ⟨i, rfl⟩ : ∃ i : Nat, a = i := ⟨a.toNat, by omega⟩
    have hf : f = false := by cases f <;> simp_all
    subst hf
    exact ⟨_, _, P_byte hb (by omega)⟩
theorem entry_tot {b : List UInt8} (hb : b.length ≤ 1000000) (e0 : Int) (c4 c13 c21 : Int × S_unwind_reader) : ∀ (n : Nat) (a : Int) (f : Bool) (acc : List Sv) (k : Nat), 0 ≤ a → a ≤ b.length → k < n → acc.length + k ≤ 1000000 → ∃ x q, F_unwind_reader_entry_l3 e0 c4 c13 c21 n b a f acc (k : Int) = some (x, q) ∧ q.b = b ∧ 0 ≤ q.at_ ∧ q.at_ ≤ b.length ∧ x.Regs.length ≤ acc.length + k
  | 0, a, f, acc, k, _, _, h, _ => by omega
  | n + 1, a, f, acc, k, ha, ha2, hn, hk => by
    show ∃ x q, F_unwind_reader_entry_l3B (F_unwind_reader_entry_l3 e0 c4 c13 c21 n) e0 c4 c13 c21 b a f acc (k : Int) = some (x, q) ∧ _
    unfold F_unwind_reader_entry_l3B
    by_cases hc : 0 < k ∧ f = false
    · rw [decT (show (k : Int) > 0 by omega), hc.2, Bool.not_false, Bool.and_self, if_pos rfl]
      obtain ⟨x1, ⟨b1, a1, f1⟩, h1⟩ := byte_tot (f := false) hb ha
      obtain ⟨e1, hby⟩ := byte_ok hb ha h1
      simp only at e1 hby
      subst e1
      have hr1 : 0 ≤ a1 ∧ a1 ≤ b1.length := by
        rcases hby with ⟨_, h3, _⟩ | ⟨_, _, i, hi, _, _, h3⟩ <;> omega
      obtain ⟨x2, ⟨b2, a2, f2⟩, h2⟩ := num_tot (f := f1) (m := 65536) hb hr1 (by omega)
      obtain ⟨e2, r2, _, _⟩ := num_step (m := 65536) hb hr1 (by omega) h2
      simp only at e2 r2
      subst e2
      have ec : IntKind.i64.wrap ((k : Int) - 1) = ((k - 1 : Nat) : Int) := by rw [wi64 (by omega)]; omega
      rw [h1, Option.bind_some]
      simp only
      rw [show ((65536 : Int)) = ((65536 : Nat) : Int) from rfl, h2, Option.bind_some, room_ok (by simp; omega), Option.bind_some, ec]
      obtain ⟨x, q, h3, h4, h5, h6, h7⟩ := entry_tot hb e0 c4 c13 c21 n a2 f2 _ (k - 1) r2.1 r2.2 (by omega) (show (acc ++ [(⟨IntKind.i64.wrap x1, IntKind.i64.wrap (0 - x2)⟩ : Sv)]).length + (k - 1) ≤ 1000000 by simp; omega)
      refine ⟨x, q, h3, h4, h5, h6, ?_⟩
      simp only [List.length_append, List.length_cons, List.length_nil] at h7
      omega
    · rw [if_neg (by simp only [Bool.and_eq_true, decide_eq_true_eq, Bool.not_eq_true']; exact fun h3 => hc ⟨by omega, h3.2⟩)]
      exact ⟨_, _, rfl, rfl, ha, ha2, by simp only; omega⟩
theorem Entry_tot {b : List UInt8} {a last : Int} {f : Bool} (hb : b.length ≤ 1000000) (ha : 0 ≤ a ∧ a ≤ b.length) : ∃ x q, F_unwind_reader_entry ⟨b, a, f⟩ last = some (x, q) ∧ q.b = b ∧ 0 ≤ q.at_ ∧ q.at_ ≤ b.length ∧ x.Regs.length ≤ 11 := by
  unfold F_unwind_reader_entry
  simp only
  obtain ⟨x1, ⟨b1, a1, f1⟩, h1⟩ := num_tot (f := f) (m := 16777216) hb ha (by omega)
  obtain ⟨e1, r1, s1, _⟩ := num_step (m := 16777216) hb ha (by omega) h1
  simp only at e1 r1; subst e1
  obtain ⟨x2, ⟨b2, a2, f2⟩, h2⟩ := num_tot (f := f1) (m := 16777216) hb r1 (by omega)
  obtain ⟨e2, r2, s2, _⟩ := num_step (m := 16777216) hb r1 (by omega) h2
  simp only at e2 r2; subst e2
  obtain ⟨x3, ⟨b3, a3, f3⟩, h3⟩ := num_tot (f := f2) (m := 65536) hb r2 (by omega)
  obtain ⟨e3, r3, s3, _⟩ := num_step (m := 65536) hb r2 (by omega) h3
  simp only at e3 r3; subst e3
  obtain ⟨x4, ⟨b4, a4, f4⟩, h4⟩ := num_tot (f := f3) (m := 11) hb r3 (by omega)
  obtain ⟨e4, r4, s4, _⟩ := num_step (m := 11) hb r3 (by omega) h4
  simp only at e4 r4; subst e4
  obtain ⟨x, q, h5, h6, h7, h8, h9⟩ := entry_tot hb last (x1, ⟨b4, a1, f1⟩) (x2, ⟨b4, a2, f2⟩) (x3, ⟨b4, a3, f3⟩) big a4 f4 [] x4.toNat r4.1 r4.2 (big_gt (by omega)) (by simp; omega)
  rw [show ((x4.toNat : Nat) : Int) = x4 from by omega] at h5
  rw [show ((16777216 : Int)) = ((16777216 : Nat) : Int) from rfl, h1, Option.bind_some]
  simp only
  rw [h2, Option.bind_some]
  simp only
  rw [show ((65536 : Int)) = ((65536 : Nat) : Int) from rfl, h3, Option.bind_some]
  simp only
  rw [show ((11 : Int)) = ((11 : Nat) : Int) from rfl, h4, Option.bind_some]
  exact ⟨x, q, h5, h6, h7, h8, by simp at h9; omega⟩
end Go.Proofs.Ytneonhnackjdjaa
