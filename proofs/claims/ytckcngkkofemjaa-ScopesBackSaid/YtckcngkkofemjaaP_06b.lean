import Derived.Test.YtckcngkkofemjaaAd
import Derived.Test.YtckcngkkofemjaaF
import Derived.Test.YtckcngkkofemjaaPL
import Derived.Test.YtckcngkkofemjaaP_02
import Derived.Test.YtckcngkkofemjaaP_06
import Derived.KernelRfl
namespace Go.Proofs.Ytckcngkkofemjaa
open Go.Ab Go.RowKit
set_option linter.unusedVariables false
set_option linter.unusedSimpArgs false
def LiesL (b : List UInt8) (i : Nat) (x : List UInt8) : Prop := i + x.length ≤ b.length ∧ (b.drop i).take x.length = x
theorem LiesL.app {b x y : List UInt8} {i : Nat} (h1 : LiesL b i x) (h2 : LiesL b (i + x.length) y) : LiesL b i (x ++ y) := by
  refine ⟨by rw [List.length_append]; have := h2.1; omega, ?_⟩
  rw [List.length_append, List.take_add, h1.2, List.drop_drop, h2.2]
theorem LiesL.nil {b : List UInt8} {i : Nat} (h : i ≤ b.length) : LiesL b i [] := ⟨by simp; omega, by simp⟩
theorem LiesL.one {b : List UInt8} {i : Nat} (h : i < b.length) : LiesL b i [b[i]] := ⟨by simp; omega, by rw [List.drop_eq_getElem_cons h]; rfl⟩
theorem rdU_lies {b : List UInt8} {a : Int} (h : (rdU b a).2.2 = 0) : ∃ i x : Nat, a = i ∧ rdU b a = (x, ((i + (encU x).length : Nat) : Int), 0) ∧ LiesL b i (encU x) ∧ x < 18446744073709551616 := by
  rcases rdU_cases b a with ⟨e, h3, h4⟩ | ⟨j, n, y, h3, h4, h5, h6, h7, h8, h9⟩
  · rw [h3] at h; simp only at h; omega
  · have hl : (encU y).length = n := by rw [h8, List.length_take, List.length_drop]; omega
    exact ⟨j, y, h3, by rw [h9, hl], ⟨by omega, by rw [hl]; exact h8.symm⟩, h7⟩
theorem rdS_lies {b : List UInt8} {a : Int} (h : (rdS b a).2.2 = 0) : ∃ (i : Nat) (x : Int), a = i ∧ rdS b a = (x, ((i + (encS x).length : Nat) : Int), 0) ∧ LiesL b i (encS x) ∧ -9223372036854775808 ≤ x ∧ x ≤ 9223372036854775807 := by
  rcases rdS_cases b a with ⟨e, h3, h4⟩ | ⟨j, n, y, h3, h4, h5, h6, h7, h8, h9⟩
  · rw [h3] at h; simp only at h; omega
  · have hl : (encS y).length = n := by rw [h8, List.length_take, List.length_drop]; omega
    exact ⟨j, y, h3, by rw [h9, hl], ⟨by omega, by rw [hl]; exact h8.symm⟩, h7⟩
def toldK (k : UInt8) : Bool := decide (1 ≤ (k.toNat : Int)) && decide ((k.toNat : Int) ≤ 3)
def inr (l : List Lc) : Prop := ∀ x ∈ l, -9223372036854775808 ≤ x.N ∧ x.N ≤ 9223372036854775807
def encX1 (x : Lc) : List UInt8 := x.Kind :: (if toldK x.Kind = true then encS x.N else [])
def encX (l : List Lc) : List UInt8 := l.flatMap encX1
def encL (l : List Lc) : List UInt8 := encU l.length ++ encX l
theorem zdX (k : UInt8) : zcX (k.toNat : Int) = some (toldK k) := rfl
theorem encX1_len {x : Lc} (h : -9223372036854775808 ≤ x.N ∧ x.N ≤ 9223372036854775807) : (encX1 x).length ≤ 11 := by
  unfold encX1
  have := encS_le10 h.1 h.2
  split <;> simp <;> omega
theorem encX_len : ∀ {l : List Lc}, inr l → (encX l).length ≤ 11 * l.length
  | [], _ => by simp [encX]
  | x :: l, h => by
    have h1 := encX1_len (h x (List.mem_cons_self ..))
    have h2 := encX_len (l := l) fun y hy => h y (List.mem_cons_of_mem _ hy)
    unfold encX at h2 ⊢
    simp only [List.flatMap_cons, List.length_append, List.length_cons]
    omega
theorem EPut_loop (l : List Lc) (hl : l.length ≤ 1000000) (hr : inr l) : ∀ (n i : Nat) (b : List UInt8), i ≤ l.length → l.length - i < n → b.length ≤ 200000000000 + 11 * i →
    zbH l n b (i : Int) = some (b ++ encX (l.drop i), 0)
  | 0, i, _, _, h, _ => by omega
  | n + 1, i, b, hi, h, hb => by
    show zcB _ l b (i : Int) = _
    unfold zcB
    by_cases hlt : i < l.length
    · have hN := hr l[i] (List.getElem_mem hlt)
      have h10 := encS_le10 hN.1 hN.2
      rw [decT (by omega), if_pos rfl, getI_lt hlt, Option.bind_some, room_ok (by omega), Option.bind_some, zdX, Option.bind_some, List.drop_eq_getElem_cons hlt]
      have hx : encX (l[i] :: l.drop (i + 1)) = encX1 l[i] ++ encX (l.drop (i + 1)) := rfl
      have hy : encX1 l[i] = l[i].Kind :: (if toldK l[i].Kind = true then encS l[i].N else []) := rfl
      rw [hx, hy]
      cases ht : toldK l[i].Kind
      · rw [if_neg (by simp), i64_succ (by omega), EPut_loop l hl hr n (i + 1) _ (by omega) (by omega) (by simp; omega), if_neg (by simp)]
        simp
      · rw [if_pos rfl, zd9 (by simp; omega) hN, Option.bind_some, i64_succ (by omega), EPut_loop l hl hr n (i + 1) _ (by omega) (by omega) (by simp; omega), if_pos rfl]
        simp
    · rw [decF (by omega), if_neg (by simp), List.drop_of_length_le (by omega)]
      simp [encX]
theorem zfd {b : List UInt8} {l : List Lc} (hl : l.length ≤ 1000000) (hr : inr l) (hb : b.length ≤ 100000000000) : zcH b l = some (if Rt l = true then (b ++ encL l, 0) else ([], 1)) := by
  unfold zcH
  rw [zdI hl, Option.bind_some]
  cases Rt l
  · rfl
  · have hw : IntKind.u64.wrap (l.length : Int) = (l.length : Nat) := by rw [wu64_mod]; omega
    have h10 := encU_le10 (x := l.length) (by omega)
    have h := EPut_loop l hl hr big 0 (b ++ encU l.length) (by omega) (big_gt (by omega)) (by simp; omega)
    rw [show ((0 : Nat) : Int) = 0 from rfl, List.drop_zero] at h
    rw [Bool.not_true, if_neg (by simp), if_pos rfl, hw, zX (by omega) (by omega), Option.bind_some, h, encL, List.append_assoc]
def gt (b : List UInt8) : Nat → Nat → Option (List Lc × Nat)
  | 0, i => some ([], i)
  | k + 1, i => if h : i < b.length then
      if toldK b[i] = true then (if (rdS b ((i + 1 : Nat) : Int)).2.2 = 0 then (gt b k (rdS b ((i + 1 : Nat) : Int)).2.1.toNat).map fun p => (⟨b[i], (rdS b ((i + 1 : Nat) : Int)).1⟩ :: p.1, p.2) else none)
      else (gt b k (i + 1)).map fun p => (⟨b[i], 0⟩ :: p.1, p.2)
    else none
def gtE (r : Option (List Lc × Nat)) (acc : List Lc) : List Lc × Int × Int := match r with
  | none => ([], 0, 5)
  | some p => if Rt (acc ++ p.1) = true then (acc ++ p.1, (p.2 : Int), 0) else ([], 0, 5)
theorem gtE_map (r : Option (List Lc × Nat)) (acc : List Lc) (x : Lc) : gtE (r.map fun p => (x :: p.1, p.2)) acc = gtE r (acc ++ [x]) := by
  cases r <;> simp [gtE]
theorem EGet_loop {b : List UInt8} (hb : b.length ≤ 100000000000) (m : Nat) (hm : m ≤ 16) (q w : Int) : ∀ (n i : Nat) (acc : List Lc) (k : Nat), i ≤ b.length → acc.length + k = m → k < n →
    zcJ b ((m : Int), q, w) n acc (i : Int) (acc.length : Int) = some (gtE (gt b k i) acc)
  | 0, i, acc, k, _, _, h => by omega
  | n + 1, i, acc, 0, hi, hk, hn => by
    show z2 _ b _ acc (i : Int) (acc.length : Int) = _
    unfold z2
    simp only
    rw [decF (by omega), if_neg (by simp), zdI (by omega), Option.bind_some, gt, gtE]
    simp only [List.append_nil]
    cases Rt acc <;> rfl
  | n + 1, i, acc, k + 1, hi, hk, hn => by
    have ih := fun j x h => EGet_loop hb m hm q w n j (acc ++ [x]) k h (by simp; omega) (by omega)
    simp only [List.length_append, List.length_singleton] at ih
    show z2 _ b _ acc (i : Int) (acc.length : Int) = _
    unfold z2
    have hw : IntKind.u64.wrap ((acc.length : Int) + 1) = ((acc.length + 1 : Nat) : Int) := by rw [wu64_mod]; omega
    simp only
    rw [decT (by omega), if_pos rfl, gt, hw]
    by_cases hib : i < b.length
    · rw [decF (by omega), if_neg (by simp), getI_lt hib, Option.bind_some, zdX, Option.bind_some, dif_pos hib]
      cases ht : toldK b[i]
      · rw [if_neg (by simp), if_neg (by simp), room_ok (by omega), Option.bind_some, i64_succ (by omega), ih (i + 1) _ (by omega), gtE_map]
      · rw [if_pos rfl, if_pos rfl, i64_succ (by omega), F_S (by omega) (by omega), Option.bind_some]
        simp only
        by_cases he : (rdS b ((i + 1 : Nat) : Int)).2.2 = 0
        · obtain ⟨j, x, hj, hx, hL, _⟩ := rdS_lies he
          have hle := hL.1
          rw [hx, bneF rfl, if_neg (by simp), if_pos rfl, room_ok (by omega), Option.bind_some, ih _ _ (by omega), gtE_map, Int.toNat_natCast]
        · rw [bneT he, if_pos rfl, if_neg he]
          rfl
    · rw [decT (by omega), if_pos rfl, dif_neg hib]
      rfl
def getL (b : List UInt8) (a : Int) : List Lc × Int × Int := if a < 0 ∨ a > b.length then ([], 0, 1) else if (rdU b a).2.2 ≠ 0 ∨ (rdU b a).1 > 16 then ([], 0, 5) else gtE (gt b (rdU b a).1 (rdU b a).2.1.toNat) []
theorem zeO {b : List UInt8} {a : Int} (hb : b.length ≤ 100000000000) : zby b a = some (getL b a) := by
  unfold zby getL
  by_cases hc : a < 0 ∨ a > b.length
  · rw [if_pos (by simpa using hc), if_pos hc]
  · rw [if_neg (by simpa using hc), if_neg hc, F_U (by omega) (by omega), Option.bind_some]
    simp only
    by_cases h1 : (rdU b a).2.2 = 0
    · obtain ⟨i, x, hi, hx, hL, _⟩ := rdU_lies h1
      have hle := hL.1
      rw [hx, bneF rfl, Bool.false_or]
      by_cases h2 : x > 16
      · rw [decT (by omega), if_pos rfl, if_pos (Or.inr h2)]
      · rw [decF (by omega), if_neg (by simp), if_neg (by simp; omega)]
        exact EGet_loop hb x (by omega) _ _ big (i + (encU x).length) [] x (by omega) (by simp) (big_gt (by omega))
    · rw [bneT h1, Bool.true_or, if_pos rfl, if_pos (Or.inl h1)]
theorem gt_put : ∀ (l : List Lc) (p r : List UInt8), inr l → (∀ x ∈ l, toldK x.Kind = false → x.N = 0) → gt (p ++ encX l ++ r) l.length p.length = some (l, (p ++ encX l).length)
  | [], p, r, _, _ => by simp [gt, encX]
  | x :: l, p, r, hr, h0 => by
    have hN := hr x (List.mem_cons_self ..)
    have e1 : p ++ encX (x :: l) ++ r = p ++ [x.Kind] ++ (if toldK x.Kind = true then encS x.N else []) ++ (encX l ++ r) := by simp [encX, encX1]
    have e2 : p ++ encX (x :: l) ++ r = (p ++ encX1 x) ++ encX l ++ r := by simp [encX]
    have hlt : p.length < (p ++ encX (x :: l) ++ r).length := by rw [e1]; simp only [List.length_append, List.length_singleton]; omega
    have hget : (p ++ encX (x :: l) ++ r)[p.length]'hlt = x.Kind := by simp [encX, encX1]
    have ih := gt_put l (p ++ encX1 x) r (fun y hy => hr y (List.mem_cons_of_mem _ hy)) (fun y hy => h0 y (List.mem_cons_of_mem _ hy))
    rw [← e2] at ih
    rw [List.length_cons, gt, dif_pos hlt, hget]
    cases ht : toldK x.Kind
    · have hx : encX1 x = [x.Kind] := by simp [encX1, ht]
      rw [hx] at ih
      rw [if_neg (by simp)]
      simp only [List.length_append, List.length_singleton] at ih ⊢
      rw [ih]
      have := h0 x (List.mem_cons_self ..) ht
      obtain ⟨k, v⟩ := x
      simp only at this
      subst this
      have hx2 : encX (⟨k, 0⟩ :: l) = k :: encX l := by unfold encX; rw [List.flatMap_cons, hx]; rfl
      rw [hx2]
      simp only [Option.map_some, List.length_cons]
      congr 2
      omega
    · have hx : encX1 x = x.Kind :: encS x.N := by simp [encX1, ht]
      rw [ht, if_pos rfl] at e1
      have hS := rdS_put hN (p ++ [x.Kind]) (encX l ++ r)
      rw [← e1, show (((p ++ [x.Kind]).length : Nat) : Int) = ((p.length + 1 : Nat) : Int) by simp] at hS
      rw [if_pos rfl, hS, if_pos rfl, Int.toNat_natCast]
      rw [hx, show p ++ x.Kind :: encS x.N = p ++ [x.Kind] ++ encS x.N by simp] at ih
      simp only
      rw [ih]
      have hx2 : encX (x :: l) = x.Kind :: (encS x.N ++ encX l) := by unfold encX; rw [List.flatMap_cons, hx]; rfl
      rw [hx2]
      simp
theorem rtL_ok : ∀ {l : List Lc} {d e : Nat}, rtL d l = some e → ∀ x ∈ l, okd x = true
  | [], _, _, _, _, h => (nomatch h)
  | y :: l, d, e, h, x, hx => by
    rw [rtL] at h
    split at h
    · rename_i hc
      rcases List.mem_cons.1 hx with rfl | hx
      · exact hc.1
      · exact rtL_ok h x hx
    · cases h
theorem Rt_ok {l : List Lc} (h : Rt l = true) : (∀ x ∈ l, okd x = true) ∧ l.length ≤ 16 ∧ rtL 0 l = some (if l.length = 0 then 0 else 1) := by
  unfold Rt at h
  cases hr : rtL 0 l with
  | none => rw [hr] at h; cases h
  | some d =>
    rw [hr] at h
    simp only [fin, decide_eq_true_eq] at h
    refine ⟨rtL_ok hr, h.1, ?_⟩
    cases l with
    | nil => rw [rtL] at hr; injection hr with hr; subst hr; rfl
    | cons x l => 
      rw [if_neg (by simp)]
      rcases h.2 with h | h
      · simp at h
      · rw [h]
theorem ok_N {x : Lc} (h : okd x = true) (ht : toldK x.Kind = false) : x.N = 0 := by
  unfold okd at h
  unfold toldK at ht
  simp only [decide_eq_true_eq] at h
  simp only [Bool.and_eq_false_iff, decide_eq_false_iff_not] at ht
  unfold kd at h
  omega
theorem getL_put {p r : List UInt8} {l : List Lc} (hr : inr l) (hl : Rt l = true) : getL (p ++ encL l ++ r) (p.length : Int) = (l, (((p ++ encL l).length : Nat) : Int), 0) := by
  obtain ⟨ho, h16, _⟩ := Rt_ok hl
  unfold getL
  have hp : p.length ≤ (p ++ encL l ++ r).length := by simp
  have e1 : p ++ encL l ++ r = p ++ encU l.length ++ (encX l ++ r) := by simp [encL]
  have e2 : p ++ encL l ++ r = (p ++ encU l.length) ++ encX l ++ r := by simp [encL]
  have hU := rdU_put (x := l.length) (by omega) p (encX l ++ r)
  rw [← e1] at hU
  rw [if_neg (by omega), hU]
  simp only
  have := gt_put l (p ++ encU l.length) r hr (fun x hx ht => ok_N (ho x hx) ht)
  rw [← e2] at this
  rw [if_neg (by omega), Int.toNat_natCast, this, gtE]
  simp only [List.nil_append]
  rw [if_pos hl]
  simp [encL]
theorem gt_lies {b : List UInt8} : ∀ (k i : Nat) (l : List Lc) (q : Nat), i ≤ b.length → gt b k i = some (l, q) → LiesL b i (encX l) ∧ q = i + (encX l).length ∧ l.length = k ∧ inr l
  | 0, i, l, q, hi, h => by
    rw [gt] at h
    injection h with h
    injection h with h1 h2
    subst h1; subst h2
    exact ⟨LiesL.nil hi, by simp [encX], rfl, fun _ h => (nomatch h)⟩
  | k + 1, i, l, q, hi, h => by
    rw [gt] at h
    split at h
    · rename_i hib
      cases ht : toldK b[i]
      · rw [ht, if_neg (by simp)] at h
        obtain ⟨⟨m, q2⟩, h1, h2⟩ := Option.map_eq_some_iff.1 h
        injection h2 with h2 h3
        subst h2; subst h3
        obtain ⟨g1, g2, g3, g4⟩ := gt_lies k (i + 1) m q2 (by omega) h1
        have hx : encX (⟨b[i], 0⟩ :: m) = [b[i]] ++ encX m := by unfold encX; rw [List.flatMap_cons]; simp [encX1, ht]
        rw [hx]
        refine ⟨(LiesL.one hib).app g1, by simp only [List.length_append, List.length_singleton]; omega, by simp; omega, ?_⟩
        intro y hy
        rcases List.mem_cons.1 hy with rfl | hy
        · simp
        · exact g4 y hy
      · rw [ht, if_pos rfl] at h
        split at h
        · rename_i he
          obtain ⟨j, x, hj, hx, hL, hb⟩ := rdS_lies he
          have hle := hL.1
          obtain rfl : j = i + 1 := by omega
          rw [hx, Int.toNat_natCast] at h
          obtain ⟨⟨m, q2⟩, h1, h2⟩ := Option.map_eq_some_iff.1 h
          injection h2 with h2 h3
          subst h2; subst h3
          obtain ⟨g1, g2, g3, g4⟩ := gt_lies k _ m q2 (by omega) h1
          have hx : encX (⟨b[i], x⟩ :: m) = [b[i]] ++ (encS x ++ encX m) := by unfold encX; rw [List.flatMap_cons]; simp [encX1, ht]
          rw [hx]
          refine ⟨(LiesL.one hib).app (hL.app g1), by simp only [List.length_append, List.length_singleton]; omega, by simp; omega, ?_⟩
          intro y hy
          rcases List.mem_cons.1 hy with rfl | hy
          · exact hb
          · exact g4 y hy
        · cases h
    · cases h
theorem getL_cases (b : List UInt8) (a : Int) : (getL b a = ([], 0, 1) ∨ getL b a = ([], 0, 5)) ∨ ∃ (l : List Lc) (i : Nat), a = i ∧ getL b a = (l, ((i + (encL l).length : Nat) : Int), 0) ∧ LiesL b i (encL l) ∧ Rt l = true ∧ inr l := by
  unfold getL
  split
  · exact Or.inl (Or.inl rfl)
  · split
    · exact Or.inl (Or.inr rfl)
    · rename_i h1 h2
      obtain ⟨i, x, hi, hx, hL, _⟩ := rdU_lies (b := b) (a := a) (by omega)
      have hle := hL.1
      rw [hx]
      simp only [Int.toNat_natCast]
      cases hg : gt b x (i + (encU x).length) with
      | none => exact Or.inl (Or.inr rfl)
      | some p =>
        obtain ⟨l, q⟩ := p
        obtain ⟨g1, g2, g3, g4⟩ := gt_lies _ _ _ _ (by omega) hg
        simp only [gtE, List.nil_append]
        cases hR : Rt l
        · exact Or.inl (Or.inr rfl)
        · refine Or.inr ⟨l, i, hi, ?_, ?_, hR, g4⟩
          · rw [if_pos rfl, g2, encL, g3, List.length_append, Nat.add_assoc]
          · rw [encL, g3]; exact hL.app g1
end Go.Proofs.Ytckcngkkofemjaa
