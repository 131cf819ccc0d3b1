import Derived.Test.YtneonhnackjdjaaAd
import Derived.Test.YtneonhnackjdjaaF
import Derived.Test.YtneonhnackjdjaaPL
import Derived.Test.YtneonhnackjdjaaP_02
namespace Go.Proofs.Ytneonhnackjdjaa
open Go.Ab Go.RowKit
set_option linter.unusedVariables false
set_option linter.unusedSimpArgs false
abbrev Sv := zb
abbrev Ue := za
def okR (r : Int) (x : Sv) : Prop := r < x.Reg ∧ x.Reg ≤ 11 ∧ x.At ≤ -2 ∧ -65536 ≤ x.At
instance (r : Int) (x : Sv) : Decidable (okR r x) := by unfold okR; exact inferInstance
def rtR : Int → List Sv → Bool
  | _, [] => true
  | r, x :: l => decide (okR r x) && rtR x.Reg l
def okU (last : Int) (x : Ue) : Prop := last ≤ x.From ∧ x.From < x.To ∧ x.To ≤ 16777216 ∧ 0 ≤ x.Up ∧ x.Up ≤ 65536
instance (r : Int) (x : Ue) : Decidable (okU r x) := by unfold okU; exact inferInstance
def rtU : Int → List Ue → Bool
  | _, [] => true
  | last, x :: l => decide (okU last x) && rtR 5 x.Regs && rtU x.To l
theorem R_loop (l : List Sv) (hl : l.length ≤ 1000000000) : ∀ (n i : Nat) (r : Int), i ≤ l.length → l.length - i < n → zD l n r (i : Int) = some (rtR r (l.drop i))
  | 0, i, _, _, h => by omega
  | n + 1, i, r, hi, h => by
    show zH _ l r (i : Int) = _
    unfold zH
    by_cases hlt : i < l.length
    · rw [decT (by omega), if_pos rfl, getI_lt hlt, Option.bind_some, List.drop_eq_getElem_cons hlt, rtR]
      by_cases hc : okR r l[i]
      · have h2 := hc
        unfold okR at h2
        rw [decT hc, Bool.true_and, if_neg (by simp only [Bool.or_eq_true, decide_eq_true_eq]; omega), i64_succ (by omega), R_loop l hl n (i + 1) _ (by omega) (by omega)]
      · rw [decF hc, Bool.false_and, if_pos]
        unfold okR at hc
        simp only [Bool.or_eq_true, decide_eq_true_eq]
        omega
    · rw [decF (by omega), if_neg (by simp), List.drop_of_length_le (by omega), rtR]
theorem zci {l : List Sv} (hl : l.length ≤ 1000000000) : zbs l = some (rtR 5 l) := R_loop l hl big 0 5 (by omega) (big_gt (by omega))
def small (l : List Ue) : Prop := l.length ≤ 1000000 ∧ ∀ x ∈ l, x.Regs.length ≤ 1000000
theorem U_loop (l : List Ue) (hs : small l) : ∀ (n i : Nat) (last : Int), i ≤ l.length → l.length - i < n → zP l n last (i : Int) = some (rtU last (l.drop i) && decide ((l.length : Int) ≤ 4000))
  | 0, i, _, _, h => by omega
  | n + 1, i, r, hi, h => by
    have hl := hs.1
    show z9 _ l r (i : Int) = _
    unfold z9
    by_cases hlt : i < l.length
    · have hr := hs.2 l[i] (List.getElem_mem hlt)
      rw [decT (by omega), if_pos rfl, getI_lt hlt, Option.bind_some, List.drop_eq_getElem_cons hlt, rtU]
      by_cases hc : okU r l[i]
      · have h2 := hc
        unfold okU at h2
        rw [decT hc, Bool.true_and, if_neg (by simp only [Bool.or_eq_true, decide_eq_true_eq]; omega), zci (by omega), Option.bind_some, Option.bind_some]
        cases rtR 5 l[i].Regs
        · rfl
        · rw [Bool.not_true, if_neg (by simp), i64_succ (by omega), U_loop l hs n (i + 1) _ (by omega) (by omega), Bool.true_and]
      · rw [decF hc, if_pos]
        · simp
        · unfold okU at hc
          simp only [Bool.or_eq_true, decide_eq_true_eq]
          omega
    · rw [decF (by omega), if_neg (by simp), List.drop_of_length_le (by omega), rtU, Bool.true_and]
def Ut (l : List Ue) : Bool := rtU 0 l && decide ((l.length : Int) ≤ 4000)
theorem zbx {l : List Ue} (hs : small l) : zl l = some (Ut l) := U_loop l hs big 0 0 (by omega) (big_gt (by have := hs.1; omega))
def encRs : List Sv → List UInt8
  | [] => []
  | x :: l => UInt8.ofNat x.Reg.toNat :: (encU (-x.At).toNat ++ encRs l)
def encE (last : Int) (x : Ue) : List UInt8 := encU (x.From - last).toNat ++ (encU (x.To - x.From).toNat ++ (encU x.Up.toNat ++ (encU x.Regs.length ++ encRs x.Regs)))
def encEs : Int → List Ue → List UInt8
  | _, [] => []
  | last, x :: l => encE last x ++ encEs x.To l
def encT (l : List Ue) : List UInt8 := encU l.length ++ encEs 0 l
theorem put_loop (l : List Int) (hl : l.length ≤ 10) (hr : ∀ x ∈ l, 0 ≤ x ∧ x ≤ 9223372036854775807) : ∀ (n i : Nat) (b : List UInt8), i ≤ l.length → l.length - i < n → b.length ≤ 1000000000 + 10 * i → zbl l n b (i : Int) = some (b ++ (l.drop i).flatMap fun x => encU x.toNat)
  | 0, i, _, _, h, _ => by omega
  | n + 1, i, b, hi, h, hb => by
    show zY _ l b (i : Int) = _
    unfold zY
    by_cases hlt : i < l.length
    · have hx := hr l[i] (List.getElem_mem hlt)
      have hU : IntKind.u64.wrap l[i] = ((l[i].toNat : Nat) : Int) := by rw [wu64_mod]; omega
      have h10 := encU_le10 (x := l[i].toNat) (by omega)
      rw [decT (by omega), if_pos rfl, getI_lt hlt, Option.bind_some, hU, zby (by omega) (by omega), Option.bind_some, i64_succ (by omega), put_loop l hl hr n (i + 1) _ (by omega) (by omega) (by simp; omega), List.drop_eq_getElem_cons hlt, List.flatMap_cons, List.append_assoc]
    · rw [decF (by omega), if_neg (by simp), List.drop_of_length_le (by omega)]
      simp
theorem zbE {b : List UInt8} {l : List Int} (hb : b.length ≤ 1000000000) (hl : l.length ≤ 10) (h0 : l ≠ []) (hr : ∀ x ∈ l, 0 ≤ x ∧ x ≤ 9223372036854775807) : zn b l = some (b ++ l.flatMap fun x => encU x.toNat) := by
  unfold zn
  cases l with
  | nil => exact absurd rfl h0
  | cons x l =>
    have hx := hr x (List.mem_cons_self ..)
    have hU : IntKind.u64.wrap x = ((x.toNat : Nat) : Int) := by rw [wu64_mod]; omega
    have h10 := encU_le10 (x := x.toNat) (by omega)
    have := put_loop (x :: l) hl hr big 1 (b ++ encU x.toNat) (by simp) (big_gt (by omega)) (by simp; omega)
    rw [decT (by simp), if_pos rfl, show getI (x :: l) 0 = some x from rfl, Option.bind_some, hU, zby (by omega) (by omega), Option.bind_some, show IntKind.i64.wrap (0 + 1) = ((1 : Nat) : Int) from wi64 (by omega), this, List.flatMap_cons, List.append_assoc]
    rfl
theorem encRs_len : ∀ (l : List Sv) (r : Int), rtR r l = true → (encRs l).length ≤ 4 * l.length
  | [], _, _ => by simp [encRs]
  | x :: l, r, h => by
    simp only [rtR, Bool.and_eq_true, decide_eq_true_eq] at h
    have h2 := h.1
    unfold okR at h2
    have := encRs_len l x.Reg h.2
    have h3 : (encU (-x.At).toNat).length ≤ 3 := encU_len 2 _ (by omega)
    simp only [encRs, List.length_cons, List.length_append]
    omega
theorem rtR_len : ∀ (l : List Sv) (r : Int), rtR r l = true → r ≤ 11 → (l.length : Int) ≤ 11 - r
  | [], _, _, hr => by simp; omega
  | x :: l, r, h, hr => by
    simp only [rtR, Bool.and_eq_true, decide_eq_true_eq] at h
    have h2 := h.1
    unfold okR at h2
    have := rtR_len l x.Reg h.2 (by omega)
    simp only [List.length_cons]
    omega
theorem encE_len {last : Int} {x : Ue} (h : okU last x) (hl : 0 ≤ last) (hr : rtR 5 x.Regs = true) : (encE last x).length ≤ 40 := by
  unfold okU at h
  have h1 : (encU (x.From - last).toNat).length ≤ 4 := encU_len 3 _ (by omega)
  have h2 : (encU (x.To - x.From).toNat).length ≤ 4 := encU_len 3 _ (by omega)
  have h3 : (encU x.Up.toNat).length ≤ 3 := encU_len 2 _ (by omega)
  have h6 := rtR_len _ _ hr (by omega)
  have h4 : (encU x.Regs.length).length ≤ 1 := encU_len 0 _ (by omega)
  have h5 := encRs_len _ _ hr
  simp only [encE, List.length_append]
  omega
theorem Put15 {y : Ue} (k : Nat) (hr : rtR 5 y.Regs = true) (rec : List UInt8 → Int → Int → Option (List UInt8 × Int)) : ∀ (n i : Nat) (b : List UInt8) (r : Int), i ≤ y.Regs.length → y.Regs.length - i < n → b.length ≤ 900000000 + 4 * i → rtR r (y.Regs.drop i) = true → 5 ≤ r → z0 rec (k : Int) y n b (i : Int) = rec (b ++ encRs (y.Regs.drop i)) y.To (IntKind.i64.wrap ((k : Int) + 1))
  | 0, i, _, _, _, h, _, _, _ => by omega
  | n + 1, i, b, r, hi, h, hb, hq, h5 => by
    have hlen := rtR_len _ _ hr (by omega)
    show zbd _ rec (k : Int) y b (i : Int) = _
    unfold zbd
    by_cases hlt : i < y.Regs.length
    · rw [List.drop_eq_getElem_cons hlt] at hq ⊢
      simp only [rtR, Bool.and_eq_true, decide_eq_true_eq] at hq
      have h2 := hq.1
      unfold okR at h2
      have h3 : (encU (-y.Regs[i].At).toNat).length ≤ 3 := encU_len 2 _ (by omega)
      rw [decT (by omega), if_pos rfl, getI_lt hlt, Option.bind_some, u8o_wrap, Option.bind_some, room_ok (by simp; omega), Option.bind_some, wi64 (x := 0 - y.Regs[i].At) (by omega), zbE (by simp; omega) (by simp) (by simp) (by simp; omega), Option.bind_some, i64_succ (by omega), Put15 k hr rec n (i + 1) _ y.Regs[i].Reg (by omega) (by omega) (by simp; omega) hq.2 (by omega), encRs]
      have e1 : (y.Regs[i].Reg % 256).toNat = y.Regs[i].Reg.toNat := by omega
      have e2 : (0 - y.Regs[i].At) = -y.Regs[i].At := by omega
      rw [e1, e2]
      simp
    · rw [decF (by omega), if_neg (by simp), List.drop_of_length_le (by omega), encRs, List.append_nil]
theorem Put13 (l : List Ue) (hs : small l) : ∀ (n i : Nat) (b : List UInt8) (last : Int), i ≤ l.length → l.length - i < n → b.length ≤ 100000000 + 40 * i → rtU last (l.drop i) = true → 0 ≤ last → zj l n b last (i : Int) = some (b ++ encEs last (l.drop i), 0)
  | 0, i, _, _, _, h, _, _, _ => by omega
  | n + 1, i, b, last, hi, h, hb, hq, h0 => by
    have hl := hs.1
    show z1 _ l b last (i : Int) = _
    unfold z1
    by_cases hlt : i < l.length
    · rw [List.drop_eq_getElem_cons hlt] at hq ⊢
      simp only [rtU, Bool.and_eq_true, decide_eq_true_eq] at hq
      have hok := hq.1.1
      have h2 := hq.1.1
      unfold okU at h2
      have h6 := rtR_len _ _ hq.1.2 (by omega)
      have h40 := encE_len hok h0 hq.1.2
      have hE : (encE last l[i]) = ([l[i].From - last, l[i].To - l[i].From, l[i].Up, (l[i].Regs.length : Int)].flatMap fun x => encU x.toNat) ++ encRs l[i].Regs := by
        simp [encE]
      have hlE := congrArg List.length hE
      rw [List.length_append] at hlE
      have h15 := Put15 (y := l[i]) i hq.1.2 (zj l n) big 0 (b ++ [l[i].From - last, l[i].To - l[i].From, l[i].Up, (l[i].Regs.length : Int)].flatMap fun x => encU x.toNat) 5 (by omega) (big_gt (by omega)) (by rw [List.length_append]; omega) (by simpa using hq.1.2) (by omega)
      rw [show ((0 : Nat) : Int) = 0 from rfl, List.drop_zero, List.append_assoc, ← hE] at h15
      rw [decT (by omega), if_pos rfl, getI_lt hlt, Option.bind_some, wi64 (x := l[i].From - last) (by omega), wi64 (x := l[i].To - l[i].From) (by omega), zbE (by omega) (by simp) (by simp) (by simp; omega), Option.bind_some, h15, i64_succ (by omega), Put13 l hs n (i + 1) _ _ (by omega) (by omega) (by rw [List.length_append]; omega) hq.2 (by omega), encEs, List.append_assoc]
    · rw [decF (by omega), if_neg (by simp), List.drop_of_length_le (by omega), encEs, List.append_nil]
theorem zbV {b : List UInt8} {l : List Ue} (hs : small l) (hb : b.length ≤ 1000000) : zw b l = some (if Ut l = true then (b ++ encT l, 0) else ([], 1)) := by
  unfold zw
  rw [zbx hs, Option.bind_some]
  have hl := hs.1
  by_cases hr : Ut l = true
  · have h2 : rtU 0 l = true := by unfold Ut at hr; rw [Bool.and_eq_true] at hr; exact hr.1
    have h10 := encU_le10 (x := l.length) (by omega)
    have := Put13 l hs big 0 (b ++ encU l.length) 0 (by omega) (big_gt (by omega)) (by simp; omega) (by simpa using h2) (by omega)
    rw [show ((0 : Nat) : Int) = 0 from rfl, List.drop_zero] at this
    rw [hr, Bool.not_true, if_neg (by simp), if_pos rfl, zbE (by omega) (by simp) (by simp) (by simp; omega), Option.bind_some]
    simp only [List.flatMap_cons, List.flatMap_nil, List.append_nil, Int.toNat_natCast]
    rw [this, encT, List.append_assoc]
  · rw [if_neg hr]
    have : Ut l = false := by simpa using hr
    rw [this]
    rfl
theorem sv_eq (x y : Sv) : ((x.Reg == y.Reg) && ((x.At == y.At) && true)) = decide (x = y) := by
  cases x; cases y
  rw [Bool.eq_iff_iff]
  simp
theorem One_loop (x y : Ue) (hl : x.Regs.length ≤ 1000000) (hlm : x.Regs.length = y.Regs.length) : ∀ (n i : Nat), i ≤ x.Regs.length → x.Regs.length - i < n → zbe x y n (i : Int) = some (decide (x.Regs.drop i = y.Regs.drop i))
  | 0, i, _, h => by omega
  | n + 1, i, hi, h => by
    show z4 _ x y (i : Int) = _
    unfold z4
    by_cases hlt : i < x.Regs.length
    · have hlt2 : i < y.Regs.length := by omega
      rw [decT (by omega), if_pos rfl, getI_lt hlt, Option.bind_some, getI_lt hlt2, Option.bind_some, sv_eq, List.drop_eq_getElem_cons hlt, List.drop_eq_getElem_cons hlt2]
      by_cases he : x.Regs[i] = y.Regs[i]
      · rw [decT he, if_neg (by simp), i64_succ (by omega), One_loop x y hl hlm n (i + 1) (by omega) (by omega), he]
        congr 1
        rw [decide_eq_decide]
        exact ⟨fun h => by rw [h], fun h => by injection h⟩
      · rw [decF he, if_pos (by rfl), decF]
        intro h2
        injection h2 with h3 h4
        exact he h3
    · rw [decF (by omega), if_neg (by simp), List.drop_of_length_le (by omega), List.drop_of_length_le (by omega), decT rfl]
theorem zcb {x y : Ue} (hl : x.Regs.length ≤ 1000000) : zU x y = some (decide (x = y)) := by
  unfold zU
  by_cases h : x.From = y.From ∧ x.To = y.To ∧ x.Up = y.Up ∧ x.Regs.length = y.Regs.length
  · rw [bneF h.1, bneF h.2.1, bneF h.2.2.1, bneF (by omega), Bool.or_self, Bool.or_self, Bool.or_self, if_neg (by simp)]
    have := One_loop x y hl h.2.2.2 big 0 (by omega) (big_gt (by omega))
    rw [show ((0 : Nat) : Int) = 0 from rfl, List.drop_zero, List.drop_zero] at this
    rw [this]
    congr 1
    rw [decide_eq_decide]
    constructor
    · intro h2
      cases x; cases y
      simp only at h h2
      obtain ⟨rfl, rfl, rfl, _⟩ := h
      rw [h2]
    · intro h2; rw [h2]
  · rw [decF (fun e => h (by rw [e]; exact ⟨rfl, rfl, rfl, rfl⟩)), if_pos]
    simp only [Bool.or_eq_true, bne_iff_ne, ne_eq]
    omega
theorem Same8_loop (l m : List Ue) (hs : small l) (hlm : l.length = m.length) : ∀ (n i : Nat), i ≤ l.length → l.length - i < n → zO l m n (i : Int) = some (decide (l.drop i = m.drop i))
  | 0, i, _, h => by omega
  | n + 1, i, hi, h => by
    have hl := hs.1
    show zV _ l m (i : Int) = _
    unfold zV
    by_cases hlt : i < l.length
    · have hlt2 : i < m.length := by omega
      have hr := hs.2 l[i] (List.getElem_mem hlt)
      rw [decT (by omega), if_pos rfl, getI_lt hlt, Option.bind_some, getI_lt hlt2, Option.bind_some, zcb (x := ⟨l[i].From, l[i].To, l[i].Up, l[i].Regs⟩) (by simp only; omega), Option.bind_some, List.drop_eq_getElem_cons hlt, List.drop_eq_getElem_cons hlt2]
      by_cases he : l[i] = m[i]
      · rw [decT (show (⟨l[i].From, l[i].To, l[i].Up, l[i].Regs⟩ : Ue) = ⟨m[i].From, m[i].To, m[i].Up, m[i].Regs⟩ from he), if_neg (by simp), i64_succ (by omega), Same8_loop l m hs hlm n (i + 1) (by omega) (by omega), he]
        congr 1
        rw [decide_eq_decide]
        exact ⟨fun h => by rw [h], fun h => by injection h⟩
      · rw [decF (show ¬ (⟨l[i].From, l[i].To, l[i].Up, l[i].Regs⟩ : Ue) = ⟨m[i].From, m[i].To, m[i].Up, m[i].Regs⟩ from he), if_pos (by rfl), decF]
        intro h2
        injection h2 with h3 h4
        exact he h3
    · rw [decF (by omega), if_neg (by simp), List.drop_of_length_le (by omega), List.drop_of_length_le (by omega), decT rfl]
theorem zbT {l m : List Ue} (hs : small l) (hm : m.length ≤ 1000000) : zu l m = some (decide (l = m)) := by
  have hl := hs.1
  unfold zu
  by_cases h : l.length = m.length
  · rw [bneF (by omega), if_neg (by simp)]
    exact Same8_loop l m hs h big 0 (by omega) (big_gt (by omega))
  · rw [bneT (by omega), if_pos rfl, decF (fun e => h (by rw [e]))]
def Lies (b : List UInt8) (i : Nat) (x : List UInt8) : Prop := i + x.length ≤ b.length ∧ (b.drop i).take x.length = x
theorem Lies.app {b x y : List UInt8} {i : Nat} (h1 : Lies b i x) (h2 : Lies b (i + x.length) y) : Lies b i (x ++ y) := by
  refine ⟨by rw [List.length_append]; have := h2.1; omega, ?_⟩
  rw [List.length_append, List.take_add, h1.2, List.drop_drop, h2.2]
theorem Lies.split {b x : List UInt8} {i : Nat} (h : Lies b i x) : b = b.take i ++ x ++ b.drop (i + x.length) := by
  have e : b.drop i = x ++ b.drop (i + x.length) := by
    rw [← List.take_append_drop x.length (b.drop i), h.2, List.drop_drop]
  rw [List.append_assoc, ← e, List.take_append_drop]
theorem zck {b : List UInt8} {a : Int} {f : Bool} {m : Nat} (hb : b.length ≤ 1099511627776) (ha : -9223372036854775808 ≤ a ∧ a ≤ 9223372036854775807) (hm : m ≤ 1000000000) :
    zh ⟨b, a, f⟩ (m : Int) = some (if f = false ∧ (rdU b a).2.2 = 0 ∧ (rdU b a).1 ≤ m then (((rdU b a).1 : Int), ⟨b, (rdU b a).2.1, false⟩) else (0, ⟨b, a, true⟩)) := by
  unfold zh
  have hw : IntKind.u64.wrap (m : Int) = m := by rw [wu64_mod]; omega
  simp only
  rw [F_U hb ha, Option.bind_some, hw]
  simp only
  by_cases h : f = false ∧ (rdU b a).2.2 = 0 ∧ (rdU b a).1 ≤ m
  · rw [if_pos h, h.1, h.2.1, bneF rfl, decF (by have := h.2.2; omega), Bool.or_self, Bool.or_self, if_neg (by simp), wi64 (by have := h.2.2; omega)]
  · rw [if_neg h, if_pos]
    cases f
    · simp only [Bool.false_or, Bool.or_eq_true, bne_iff_ne, ne_eq, decide_eq_true_eq]
      by_cases h2 : (rdU b a).2.2 = 0
      · right
        have : ¬ (rdU b a).1 ≤ m := fun h3 => h ⟨rfl, h2, h3⟩
        omega
      · exact Or.inl h2
    · simp
theorem num_put {p r : List UInt8} {x m : Nat} (hb : (p ++ encU x ++ r).length ≤ 1099511627776) (hm : m ≤ 1000000000) (hx : x ≤ m) : zh ⟨p ++ encU x ++ r, p.length, false⟩ (m : Int) = some ((x : Int), ⟨p ++ encU x ++ r, ((p ++ encU x).length : Nat), false⟩) := by
  have hp : p.length ≤ (p ++ encU x ++ r).length := by simp
  rw [zck hb (by omega) hm, rdU_put (by omega), if_pos ⟨rfl, rfl, hx⟩]
theorem zb0 {b : List UInt8} {i : Nat} (hb : b.length ≤ 1000000) (hi : i < b.length) : z8 ⟨b, i, false⟩ = some ((b[i].toNat : Int), ⟨b, ((i + 1 : Nat) : Int), false⟩) := by
  unfold z8
  simp only
  have e : IntKind.i64.wrap (((i + 1 : Nat) : Int) - 1) = (i : Int) := by rw [wi64 (by omega)]; omega
  rw [decF (show ¬ (i : Int) ≥ b.length by omega), Bool.or_self, if_neg (by simp), i64_succ (by omega), e, getI_lt hi, Option.bind_some]
theorem entry_put (e0 : Int) (c4 c13 c21 : Int × ze) : ∀ (n : Nat) (l : List Sv) (p r : List UInt8) (acc : List Sv) (r0 : Int), (p ++ encRs l ++ r).length ≤ 1000000 → rtR r0 l = true → 5 ≤ r0 → l.length < n → acc.length + l.length ≤ 1000000 →
    zS e0 c4 c13 c21 n (p ++ encRs l ++ r) (p.length : Int) false acc (l.length : Int) = some (⟨IntKind.i64.wrap (e0 + c4.1), IntKind.i64.wrap (IntKind.i64.wrap (e0 + c4.1) + c13.1), c21.1, acc ++ l⟩, ⟨p ++ encRs l ++ r, ((p ++ encRs l).length : Nat), false⟩)
  | 0, l, _, _, _, _, _, _, _, h, _ => by omega
  | n + 1, [], p, r, acc, r0, hb, hr, h5, hn, ha => by
    show zp _ e0 c4 c13 c21 _ _ _ _ _ = _
    unfold zp
    simp [encRs]
  | n + 1, x :: l, p, r, acc, r0, hb, hr, h5, hn, ha => by
    simp only [rtR, Bool.and_eq_true, decide_eq_true_eq] at hr
    have h2 := hr.1
    unfold okR at h2
    simp only [List.length_cons] at hn
    have hk : (UInt8.ofNat x.Reg.toNat).toNat = x.Reg.toNat := ofNat8 (by omega)
    have e1 : p ++ encRs (x :: l) ++ r = (p ++ [UInt8.ofNat x.Reg.toNat]) ++ encU (-x.At).toNat ++ (encRs l ++ r) := by simp [encRs]
    have e2 : p ++ encRs (x :: l) ++ r = (p ++ [UInt8.ofNat x.Reg.toNat] ++ encU (-x.At).toNat) ++ encRs l ++ r := by simp [encRs]
    have hlt : p.length < (p ++ encRs (x :: l) ++ r).length := by simp [encRs]
    have h3 := rtR_len _ _ hr.2 (by omega)
    have hget : (p ++ encRs (x :: l) ++ r)[p.length]'hlt = UInt8.ofNat x.Reg.toNat := by
      have h := List.getElem?_eq_getElem hlt
      have h4 : (p ++ encRs (x :: l) ++ r)[p.length]? = some (UInt8.ofNat x.Reg.toNat) := by simp [encRs]
      rw [h4] at h
      injection h with h
      exact h.symm
    have hby := zb0 hb hlt
    rw [hget, hk] at hby
    have hnum := num_put (p := p ++ [UInt8.ofNat x.Reg.toNat]) (r := encRs l ++ r) (x := (-x.At).toNat) (m := 65536) (by rw [← e1]; omega) (by omega) (by omega)
    rw [← e1] at hnum
    have hpl : (((p ++ [UInt8.ofNat x.Reg.toNat]).length : Nat) : Int) = ((p.length + 1 : Nat) : Int) := by simp
    rw [hpl] at hnum
    have ih := entry_put e0 c4 c13 c21 n l (p ++ [UInt8.ofNat x.Reg.toNat] ++ encU (-x.At).toNat) r (acc ++ [x]) x.Reg (by rw [← e2]; exact hb) hr.2 (by omega) (by omega) (by simp only [List.length_append, List.length_cons, List.length_nil] at ha ⊢; omega)
    show zp _ e0 c4 c13 c21 _ _ _ _ _ = _
    unfold zp
    rw [decT (show ((x :: l).length : Int) > 0 by rw [List.length_cons]; omega), Bool.not_false, Bool.and_self, if_pos rfl, hby, Option.bind_some]
    simp only
    rw [show ((65536 : Int)) = ((65536 : Nat) : Int) from rfl, hnum, Option.bind_some, room_ok (by simp only [List.length_cons, List.length_nil] at ha ⊢; omega), Option.bind_some]
    simp only
    have ea : IntKind.i64.wrap (0 - (((-x.At).toNat : Nat) : Int)) = x.At := by rw [wi64 (by omega)]; omega
    have eb : IntKind.i64.wrap ((x.Reg.toNat : Nat) : Int) = x.Reg := by rw [wi64 (by omega)]; omega
    have ec : IntKind.i64.wrap (((x :: l).length : Int) - 1) = (l.length : Int) := by rw [List.length_cons, wi64 (by omega)]; omega
    rw [ea, eb, ec, e2, ih]
    simp [encRs]
theorem zb9 {p r : List UInt8} {last : Int} {x : Ue} (hb : (p ++ encE last x ++ r).length ≤ 1000000) (hx : okU last x) (hr : rtR 5 x.Regs = true) (hl : 0 ≤ last) :
    z2 ⟨p ++ encE last x ++ r, (p.length : Int), false⟩ last = some (x, ⟨p ++ encE last x ++ r, ((p ++ encE last x).length : Nat), false⟩) := by
  unfold okU at hx
  have h6 := rtR_len _ _ hr (by omega)
  unfold z2
  simp only
  have e1 : p ++ encE last x ++ r = p ++ encU (x.From - last).toNat ++ (encU (x.To - x.From).toNat ++ (encU x.Up.toNat ++ (encU x.Regs.length ++ encRs x.Regs)) ++ r) := by simp [encE]
  have e2 : p ++ encE last x ++ r = (p ++ encU (x.From - last).toNat) ++ encU (x.To - x.From).toNat ++ ((encU x.Up.toNat ++ (encU x.Regs.length ++ encRs x.Regs)) ++ r) := by simp [encE]
  have e3 : p ++ encE last x ++ r = (p ++ encU (x.From - last).toNat ++ encU (x.To - x.From).toNat) ++ encU x.Up.toNat ++ ((encU x.Regs.length ++ encRs x.Regs) ++ r) := by simp [encE]
  have e4 : p ++ encE last x ++ r = (p ++ encU (x.From - last).toNat ++ encU (x.To - x.From).toNat ++ encU x.Up.toNat) ++ encU x.Regs.length ++ (encRs x.Regs ++ r) := by simp [encE]
  have e5 : p ++ encE last x ++ r = (p ++ encU (x.From - last).toNat ++ encU (x.To - x.From).toNat ++ encU x.Up.toNat ++ encU x.Regs.length) ++ encRs x.Regs ++ r := by simp [encE]
  have n1 := num_put (m := 16777216) (by rw [← e1]; omega) (by omega) (show (x.From - last).toNat ≤ 16777216 by omega)
  rw [← e1] at n1
  have n2 := num_put (m := 16777216) (by rw [← e2]; omega) (by omega) (show (x.To - x.From).toNat ≤ 16777216 by omega)
  rw [← e2] at n2
  have n3 := num_put (m := 65536) (by rw [← e3]; omega) (by omega) (show x.Up.toNat ≤ 65536 by omega)
  rw [← e3] at n3
  have n4 := num_put (m := 11) (by rw [← e4]; omega) (by omega) (show x.Regs.length ≤ 11 by omega)
  rw [← e4] at n4
  rw [show ((16777216 : Int)) = ((16777216 : Nat) : Int) from rfl, show ((65536 : Int)) = ((65536 : Nat) : Int) from rfl, show ((11 : Int)) = ((11 : Nat) : Int) from rfl, n1, Option.bind_some]
  simp only
  rw [n2, Option.bind_some]
  simp only
  rw [n3, Option.bind_some]
  simp only
  rw [n4, Option.bind_some]
  simp only
  have := entry_put last (((x.From - last).toNat : Int), ⟨p ++ encE last x ++ r, ((p ++ encU (x.From - last).toNat).length : Nat), false⟩) (((x.To - x.From).toNat : Int), ⟨p ++ encE last x ++ r, ((p ++ encU (x.From - last).toNat ++ encU (x.To - x.From).toNat).length : Nat), false⟩) ((x.Up.toNat : Int), ⟨p ++ encE last x ++ r, ((p ++ encU (x.From - last).toNat ++ encU (x.To - x.From).toNat ++ encU x.Up.toNat).length : Nat), false⟩) big x.Regs (p ++ encU (x.From - last).toNat ++ encU (x.To - x.From).toNat ++ encU x.Up.toNat ++ encU x.Regs.length) r [] 5 (by rw [← e5]; exact hb) hr (by omega) (big_gt (by omega)) (by simp; omega)
  rw [← e5] at this
  rw [this]
  have f1 : IntKind.i64.wrap (last + ((x.From - last).toNat : Int)) = x.From := by rw [wi64 (by omega)]; omega
  have f2 : IntKind.i64.wrap (x.From + ((x.To - x.From).toNat : Int)) = x.To := by rw [wi64 (by omega)]; omega
  have f3 : ((x.Up.toNat : Nat) : Int) = x.Up := by omega
  simp only [f1, f2, f3, List.nil_append]
  congr 4
  simp [encE]
theorem rtU_small : ∀ {l : List Ue} {last : Int}, rtU last l = true → ∀ x ∈ l, x.Regs.length ≤ 6
  | [], _, _, _, h => (nomatch h)
  | y :: l, last, h, x, hx => by
    simp only [rtU, Bool.and_eq_true, decide_eq_true_eq] at h
    rcases List.mem_cons.1 hx with rfl | hx
    · have := rtR_len _ _ h.1.2 (by omega); omega
    · exact rtU_small h.2 x hx
theorem Ut_small {l : List Ue} (h : Ut l = true) : small l := by
  unfold Ut at h
  simp only [Bool.and_eq_true, decide_eq_true_eq] at h
  exact ⟨by omega, fun x hx => by have := rtU_small h.1 x hx; omega⟩
theorem Get_put : ∀ (n : Nat) (l : List Ue) (p r : List UInt8) (acc : List Ue) (last : Int), (p ++ encEs last l ++ r).length ≤ 1000000 → rtU last l = true → 0 ≤ last → l.length < n → Ut (acc ++ l) = true →
    zL n acc (p ++ encEs last l ++ r) (p.length : Int) false last (l.length : Int) = some (acc ++ l, (((p ++ encEs last l).length : Nat) : Int), 0)
  | 0, l, _, _, _, _, _, _, _, h, _ => by omega
  | n + 1, [], p, r, acc, last, hb, hr, h0, hn, ha => by
    show zq _ _ _ _ _ _ _ = _
    unfold zq
    rw [List.append_nil] at ha
    rw [zbx (Ut_small ha), ha]
    simp [encEs]
  | n + 1, x :: l, p, r, acc, last, hb, hr, h0, hn, ha => by
    simp only [rtU, Bool.and_eq_true, decide_eq_true_eq] at hr
    have hx := hr.1.1
    have h2 := hr.1.1
    unfold okU at h2
    have hlen : acc.length + (l.length + 1) ≤ 4000 := by
      have := ha
      unfold Ut at this
      simp only [Bool.and_eq_true, decide_eq_true_eq, List.length_append, List.length_cons] at this
      omega
    simp only [List.length_cons] at hn
    have e1 : p ++ encEs last (x :: l) ++ r = p ++ encE last x ++ (encEs x.To l ++ r) := by simp [encEs]
    have e2 : p ++ encEs last (x :: l) ++ r = (p ++ encE last x) ++ encEs x.To l ++ r := by simp [encEs]
    have hE := zb9 (p := p) (r := encEs x.To l ++ r) (by rw [← e1]; exact hb) hx hr.1.2 h0
    rw [← e1] at hE
    have ih := Get_put n l (p ++ encE last x) r (acc ++ [x]) x.To (by rw [← e2]; exact hb) hr.2 (by omega) (by omega) (by rw [List.append_assoc]; exact ha)
    rw [← e2] at ih
    show zq _ _ _ _ _ _ _ = _
    unfold zq
    have ec : IntKind.i64.wrap (((x :: l).length : Int) - 1) = (l.length : Int) := by rw [List.length_cons, wi64 (by omega)]; omega
    rw [decT (show ((x :: l).length : Int) > 0 by rw [List.length_cons]; omega), Bool.not_false, Bool.and_self, if_pos rfl, hE, Option.bind_some, room_ok (by simp only [List.length_cons, List.length_nil]; omega), Option.bind_some]
    simp only
    rw [ec, decF (show ¬ x.To > 16777216 by omega), Bool.or_self, ih]
    simp [encEs]
theorem zch {p r : List UInt8} {l : List Ue} (hb : (p ++ encT l ++ r).length ≤ 1000000) (hl : Ut l = true) : zB (p ++ encT l ++ r) (p.length : Int) = some (l, (((p ++ encT l).length : Nat) : Int), 0) := by
  have h2 : rtU 0 l = true ∧ (l.length : Int) ≤ 4000 := by unfold Ut at hl; simp only [Bool.and_eq_true, decide_eq_true_eq] at hl; exact hl
  unfold zB
  have e1 : p ++ encT l ++ r = p ++ encU l.length ++ (encEs 0 l ++ r) := by simp [encT]
  have e2 : p ++ encT l ++ r = (p ++ encU l.length) ++ encEs 0 l ++ r := by simp [encT]
  have n1 := num_put (m := 4000) (by rw [← e1]; omega) (by omega) (show l.length ≤ 4000 by omega)
  rw [← e1] at n1
  have hp : p.length ≤ (p ++ encT l ++ r).length := by simp
  rw [decF (show ¬ (p.length : Int) < 0 by omega), decF (show ¬ (p.length : Int) > (p ++ encT l ++ r).length by omega), Bool.or_self, if_neg (by simp), show ((4000 : Int)) = ((4000 : Nat) : Int) from rfl, n1, Option.bind_some]
  simp only
  have := Get_put big l (p ++ encU l.length) r [] 0 (by rw [← e2]; exact hb) h2.1 (by omega) (big_gt (by omega)) (by simpa using hl)
  rw [← e2] at this
  rw [this]
  simp [encT]
end Go.Proofs.Ytneonhnackjdjaa
