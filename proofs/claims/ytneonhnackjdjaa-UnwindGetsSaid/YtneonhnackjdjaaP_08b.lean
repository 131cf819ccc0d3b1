import Derived.Test.YtneonhnackjdjaaAd
import Derived.Test.YtneonhnackjdjaaF
import Derived.Test.YtneonhnackjdjaaPL
import Derived.Test.YtneonhnackjdjaaP_02
import Derived.Test.YtneonhnackjdjaaP_08
namespace Go.Proofs.Ytneonhnackjdjaa
open Go.Ab Go.RowKit
set_option linter.unusedVariables false
set_option linter.unusedSimpArgs false
theorem Get_tot {b : List UInt8} (hb : b.length ≤ 1000000) : ∀ (n : Nat) (acc : List Ue) (a : Int) (f : Bool) (last : Int) (k : Nat), 0 ≤ a → a ≤ b.length → k < n → acc.length + k ≤ 1000000 → (∀ x ∈ acc, x.Regs.length ≤ 1000000) → ∃ r, F_unwind_Get_l3 n acc b a f last (k : Int) = some r
  | 0, acc, a, f, last, k, _, _, h, _, _ => by omega
  | n + 1, acc, a, f, last, k, ha, ha2, hn, hk, hs => by
    show ∃ r, F_unwind_Get_l3B (F_unwind_Get_l3 n) acc b a f last (k : Int) = some r
    unfold F_unwind_Get_l3B
    by_cases hc : 0 < k ∧ f = false
    · obtain ⟨hk0, rfl⟩ := hc
      obtain ⟨x, ⟨b1, a1, f1⟩, h1, e1, h2, h3, h4⟩ := Entry_tot (f := false) (last := last) hb ⟨ha, ha2⟩
      simp only at e1 h2 h3
      subst e1
      have ec : IntKind.i64.wrap ((k : Int) - 1) = ((k - 1 : Nat) : Int) := by rw [wi64 (by omega)]; omega
      rw [decT (show (k : Int) > 0 by omega), Bool.not_false, Bool.and_self, if_pos rfl, h1, Option.bind_some, room_ok (by simp; omega), Option.bind_some, ec]
      exact Get_tot hb n _ a1 _ _ (k - 1) h2 h3 (by omega) (by simp; omega) (by
        intro y hy
        rcases List.mem_append.1 hy with hy | hy
        · exact hs y hy
        · rw [List.mem_singleton.1 hy]; simp only; omega)
    · rw [if_neg (by simp only [Bool.and_eq_true, decide_eq_true_eq, Bool.not_eq_true']; exact fun h3 => hc ⟨by omega, h3.2⟩)]
      cases f
      · rw [if_neg (by simp), P_URight ⟨by omega, hs⟩]
        cases Ut acc <;> exact ⟨_, rfl⟩
      · exact ⟨_, rfl⟩
theorem P_Get_tot {b : List UInt8} {a : Int} (hb : b.length ≤ 1000000) : ∃ r, F_unwind_Get b a = some r := by
  unfold F_unwind_Get
  by_cases hc : a < 0 ∨ a > b.length
  · rw [if_pos (by simpa using hc)]; exact ⟨_, rfl⟩
  · have ha : 0 ≤ a ∧ a ≤ b.length := by omega
    rw [if_neg (by simpa using hc)]
    obtain ⟨x1, ⟨b1, a1, f1⟩, h1⟩ := num_tot (f := false) (m := 4000) hb ha (by omega)
    obtain ⟨e1, r1, s1, _⟩ := num_step (m := 4000) hb ha (by omega) h1
    simp only at e1 r1
    subst e1
    rw [show ((4000 : Int)) = ((4000 : Nat) : Int) from rfl, h1, Option.bind_some]
    obtain ⟨k, rfl⟩ : ∃ k : Nat, x1 = k := ⟨x1.toNat, by omega⟩
    exact Get_tot hb big [] a1 f1 0 k r1.1 r1.2 (big_gt (by omega)) (by simp; omega) (fun _ h => (nomatch h))
theorem rdU_st {b : List UInt8} {a : Int} (h : (rdU b a).2.2 = 0) : ∃ i x : Nat, a = i ∧ rdU b a = (x, ((i + (encU x).length : Nat) : Int), 0) ∧ Lies b i (encU x) ∧ x < 18446744073709551616 := by
  rcases rdU_cases b a with ⟨e, h3, h4⟩ | ⟨j, n, y, h3, h4, h5, h6, h7, h8, h9⟩
  · rw [h3] at h; simp only at h; omega
  · have hl : (encU y).length = n := by rw [h8, List.length_take, List.length_drop]; omega
    exact ⟨j, y, h3, by rw [h9, hl], ⟨by omega, by rw [hl]; exact h8.symm⟩, h7⟩
theorem nums_st {b : List UInt8} (hb : b.length ≤ 1000000) (m : Nat) (hm : m ≤ 10) : ∀ (n : Nat) (a : Int) (acc : List Int) (k : Nat), 0 ≤ a → a ≤ b.length → acc.length + k = m → k < n →
    ∃ l q ok, F_ref08_numbers_l3 b m n a acc (acc.length : Int) = some (l, q, ok) ∧ (ok = false ∨ ok = true ∧ ∃ (x : List Nat) (i : Nat), a = i ∧ l = acc ++ x.map (fun y : Nat => (y : Int)) ∧ x.length = k ∧ (∀ y ∈ x, y ≤ 16777216) ∧ Lies b i (x.flatMap encU) ∧ q = ((i + (x.flatMap encU).length : Nat) : Int))
  | 0, a, acc, k, _, _, _, h => by omega
  | n + 1, a, acc, k, ha, ha2, hk, hn => by
    show ∃ l q ok, F_ref08_numbers_l3B (F_ref08_numbers_l3 b m n) b m a acc (acc.length : Int) = some (l, q, ok) ∧ _
    unfold F_ref08_numbers_l3B
    by_cases hlt : acc.length < m
    · rw [decT (by omega), if_pos rfl, show F_ref02_U b a = _ from F_U (by omega) (by omega), Option.bind_some]
      simp only
      by_cases hc : (rdU b a).2.2 = 0 ∧ (rdU b a).1 ≤ 16777216
      · obtain ⟨i, x, hi, hx, hL, _⟩ := rdU_st hc.1
        have hle := hL.1
        rw [hx] at hc ⊢
        simp only at hc ⊢
        rw [bneF rfl, decF (show ¬ (x : Int) > 16777216 by omega), Bool.or_self, if_neg (by simp), room_ok (by omega), Option.bind_some, i64_nat (by omega), i64_succ (by omega)]
        obtain ⟨l, q, ok, h1, h2⟩ := nums_st hb m hm n ((i + (encU x).length : Nat) : Int) (acc ++ [(x : Int)]) (k - 1) (by omega) (by omega) (by simp; omega) (by omega)
        rw [List.length_append, List.length_singleton] at h1
        refine ⟨l, q, ok, h1, ?_⟩
        rcases h2 with h2 | ⟨h2, xs, j, hj, hl, hlen, hall, hLs, hq⟩
        · exact Or.inl h2
        · obtain rfl : j = i + (encU x).length := by omega
          refine Or.inr ⟨h2, x :: xs, i, hi, ?_, ?_, ?_, ?_, ?_⟩
          · rw [hl]; simp
          · simp; omega
          · intro y hy
            rcases List.mem_cons.1 hy with rfl | hy
            · exact hc.2
            · exact hall y hy
          · rw [List.flatMap_cons]; exact hL.app hLs
          · rw [hq, List.flatMap_cons, List.length_append, Nat.add_assoc]
      · rw [if_pos]
        · exact ⟨_, _, _, rfl, Or.inl rfl⟩
        · simp only [Bool.or_eq_true, bne_iff_ne, ne_eq, decide_eq_true_eq]
          by_cases h2 : (rdU b a).2.2 = 0
          · right
            have : ¬ (rdU b a).1 ≤ 16777216 := fun h3 => hc ⟨h2, h3⟩
            omega
          · exact Or.inl h2
    · rw [decF (by omega), if_neg (by simp)]
      obtain ⟨i, rfl⟩ : ∃ i : Nat, a = i := ⟨a.toNat, by omega⟩
      refine ⟨_, _, _, rfl, Or.inr ⟨rfl, [], i, rfl, by simp, by simp; omega, by simp, ⟨by simp; omega, by simp⟩, by simp⟩⟩
theorem P_nums {b : List UInt8} {a : Int} {m : Nat} (hb : b.length ≤ 1000000) (hm : m ≤ 10) (ha : 0 ≤ a ∧ a ≤ b.length) : ∃ l q ok, F_ref08_numbers b a m = some (l, q, ok) ∧ (ok = false ∨ ok = true ∧ ∃ (x : List Nat) (i : Nat), a = i ∧ l = x.map (fun y : Nat => (y : Int)) ∧ x.length = m ∧ (∀ y ∈ x, y ≤ 16777216) ∧ Lies b i (x.flatMap encU) ∧ q = ((i + (x.flatMap encU).length : Nat) : Int)) :=
  nums_st hb m hm big a [] m ha.1 ha.2 (by simp) (big_gt (by omega))
theorem nums_put (m : Nat) (hm : m ≤ 10) (r : List UInt8) : ∀ (n : Nat) (x : List Nat) (p : List UInt8) (acc : List Int), (p ++ x.flatMap encU ++ r).length ≤ 1000000 → (∀ y ∈ x, y ≤ 16777216) → acc.length + x.length = m → x.length < n →
    F_ref08_numbers_l3 (p ++ x.flatMap encU ++ r) m n p.length acc (acc.length : Int) = some (acc ++ x.map (fun y : Nat => (y : Int)), (((p ++ x.flatMap encU).length : Nat) : Int), true)
  | 0, x, p, acc, _, _, _, h => by omega
  | n + 1, [], p, acc, hb, hx, hl, hn => by
    show F_ref08_numbers_l3B _ _ _ _ _ _ = _
    unfold F_ref08_numbers_l3B
    rw [decF (by simp at hl; omega), if_neg (by simp)]
    simp
  | n + 1, y :: x, p, acc, hb, hx, hl, hn => by
    simp only [List.length_cons] at hl hn
    have hy := hx y (List.mem_cons_self ..)
    have e1 : p ++ (y :: x).flatMap encU ++ r = p ++ encU y ++ (x.flatMap encU ++ r) := by simp
    have e2 : p ++ (y :: x).flatMap encU ++ r = (p ++ encU y) ++ x.flatMap encU ++ r := by simp
    have hp : p.length ≤ (p ++ (y :: x).flatMap encU ++ r).length := by simp
    have hU : F_ref02_U (p ++ (y :: x).flatMap encU ++ r) p.length = some ((y : Int), (((p ++ encU y).length : Nat) : Int), 0) := by
      have h := F_U (l := p ++ (y :: x).flatMap encU ++ r) (x := p.length) (by omega) (by omega)
      rw [e1, rdU_put (by omega), ← e1] at h
      exact h
    have ih := nums_put m hm r n x (p ++ encU y) (acc ++ [(y : Int)]) (by rw [← e2]; exact hb) (fun z hz => hx z (List.mem_cons_of_mem _ hz)) (by simp; omega) (by omega)
    rw [← e2, show (acc ++ [(y : Int)]).length = acc.length + 1 by simp] at ih
    show F_ref08_numbers_l3B _ _ _ _ _ _ = _
    unfold F_ref08_numbers_l3B
    rw [decT (by omega), if_pos rfl, hU, Option.bind_some]
    simp only
    rw [bneF rfl, decF (show ¬ (y : Int) > 16777216 by omega), Bool.or_self, if_neg (by simp), room_ok (by omega), Option.bind_some, i64_nat (by omega), i64_succ (by omega), ih]
    simp
theorem P_nums_put {m : Nat} (hm : m ≤ 10) {r p : List UInt8} {x : List Nat} (hb : (p ++ x.flatMap encU ++ r).length ≤ 1000000) (hx : ∀ y ∈ x, y ≤ 16777216) (hl : x.length = m) :
    F_ref08_numbers (p ++ x.flatMap encU ++ r) p.length m = some (x.map (fun y : Nat => (y : Int)), (((p ++ x.flatMap encU).length : Nat) : Int), true) :=
  nums_put m hm r big x p [] hb hx (by simpa using hl) (big_gt (by omega))
theorem g19_st {b : List UInt8} (hb : b.length ≤ 1000000) (rec : List Int → Int → List Ue → Int → Int → Option (List Ue × Int × Int)) (last K : Int) (c : List Int × Int × Bool) (y0 y1 y2 z : Int) (x584 : List Int) (acc : List Ue) (hacc : acc.length ≤ 1000000) (m : Nat) (hm : m ≤ 16) (hc : getI c.1 3 = some (m : Int)) : ∀ (n : Nat) (a : Int) (s : List Sv) (k : Nat), 0 ≤ a → a ≤ b.length → s.length + k = m → k < n →
    F_ref08_Get_l19 rec b last K c y0 y1 y2 z n x584 a acc s (s.length : Int) = some ([], 0, 5) ∨ ∃ (l : List Sv) (i : Nat), a = i ∧ l.length = k ∧ Lies b i (encRs l) ∧
      F_ref08_Get_l19 rec b last K c y0 y1 y2 z n x584 a acc s (s.length : Int) = rec x584 ((i + (encRs l).length : Nat) : Int) (acc ++ [⟨IntKind.i64.wrap (last + y0), IntKind.i64.wrap (IntKind.i64.wrap (last + y1) + y2), z, s ++ l⟩]) (IntKind.i64.wrap (IntKind.i64.wrap (last + y1) + y2)) (IntKind.i64.wrap (K + 1))
  | 0, a, s, k, _, _, _, h => by omega
  | n + 1, a, s, k, ha, ha2, hk, hn => by
    show F_ref08_Get_l19B (F_ref08_Get_l19 rec b last K c y0 y1 y2 z n) rec b last K c y0 y1 y2 z x584 a acc s (s.length : Int) = _ ∨ _
    have hw : F_ref08_Get_l19 rec b last K c y0 y1 y2 z (n + 1) x584 a acc s (s.length : Int) = F_ref08_Get_l19B (F_ref08_Get_l19 rec b last K c y0 y1 y2 z n) rec b last K c y0 y1 y2 z x584 a acc s (s.length : Int) := rfl
    rw [hw]
    unfold F_ref08_Get_l19B
    rw [hc, Option.bind_some]
    obtain ⟨i, rfl⟩ : ∃ i : Nat, a = i := ⟨a.toNat, by omega⟩
    by_cases hlt : s.length < m
    · rw [decT (by omega), if_pos rfl]
      by_cases hib : i < b.length
      · rw [decF (show ¬ (i : Int) ≥ b.length by omega), if_neg (by simp), i64_succ (by omega)]
        obtain ⟨l, q, ok, h1, h2⟩ := P_nums (m := 1) hb (by omega) (a := ((i + 1 : Nat) : Int)) ⟨by omega, by omega⟩
        have h1 : F_ref08_numbers b ((i + 1 : Nat) : Int) 1 = some (l, q, ok) := h1
        rw [h1, Option.bind_some]
        rcases h2 with rfl | ⟨rfl, x, j, hj, hl, hx, hall, hL, hq⟩
        · exact Or.inl rfl
        · obtain ⟨v, rfl⟩ : ∃ v, x = [v] := by
            match x, hx with
            | [v], _ => exact ⟨v, rfl⟩
          have hv := hall v (by simp)
          simp only [List.flatMap_cons, List.flatMap_nil, List.append_nil] at hL hq
          obtain rfl : j = i + 1 := by omega
          subst hl
          simp only [List.map_cons, List.map_nil]
          rw [Bool.not_true, if_neg (by simp), getI_lt hib, Option.bind_some, show getI [(v : Int)] 0 = some (v : Int) from rfl, Option.bind_some, room_ok (by simp; omega), Option.bind_some]
          have hbt := b[i].toNat_lt
          have ea : IntKind.i64.wrap (0 - (v : Int)) = -(v : Int) := by rw [wi64 (by omega)]; omega
          rw [ea, i64_nat (by omega), i64_succ (by omega), hq]
          have henc : ∀ l : List Sv, encRs (⟨(b[i].toNat : Int), -(v : Int)⟩ :: l) = [b[i]] ++ (encU v ++ encRs l) := by
            intro l
            simp only [encRs, Int.neg_neg, Int.toNat_natCast, List.singleton_append]
            congr 1
            exact UInt8.toNat_inj.1 (ofNat8 (by omega))
          have hle := hL.1
          have hone : Lies b i [b[i]] := ⟨by simp; omega, by rw [List.drop_eq_getElem_cons hib]; rfl⟩
          have ih := g19_st hb rec last K c y0 y1 y2 z x584 acc hacc m hm hc n ((i + 1 + (encU v).length : Nat) : Int) (s ++ [⟨(b[i].toNat : Int), -(v : Int)⟩]) (k - 1) (by omega) (by omega) (by simp; omega) (by omega)
          rw [show (s ++ [(⟨(b[i].toNat : Int), -(v : Int)⟩ : Sv)]).length = s.length + 1 by simp] at ih
          rcases ih with h3 | ⟨l, i2, hi2, hll, hl2, h3⟩
          · exact Or.inl h3
          · obtain rfl : i2 = i + 1 + (encU v).length := by omega
            refine Or.inr ⟨⟨(b[i].toNat : Int), -(v : Int)⟩ :: l, i, rfl, by simp; omega, ?_, ?_⟩
            · rw [henc]
              exact hone.app (Lies.app hL hl2)
            · rw [h3, henc]
              simp only [List.length_append, List.length_cons, List.length_nil, List.append_assoc, List.singleton_append]
              congr 2
              omega
      · rw [decT (show (i : Int) ≥ b.length by omega), if_pos rfl]
        exact Or.inl rfl
    · rw [decF (by omega), if_neg (by simp), room_ok (by omega), Option.bind_some]
      obtain rfl : k = 0 := by omega
      exact Or.inr ⟨[], i, rfl, rfl, ⟨by simp [encRs]; omega, by simp [encRs]⟩, by simp [encRs]⟩
theorem g17_st {b : List UInt8} (hb : b.length ≤ 1000000) (X0 : List Int) (m : Nat) (hm : m ≤ 4000) (hX : getI X0 0 = some (m : Int)) : ∀ (n : Nat) (a : Int) (acc : List Ue) (last : Int) (k : Nat), 0 ≤ a → a ≤ b.length → 0 ≤ last → last ≤ 16777216 → acc.length + k = m → k < n → (∀ x ∈ acc, x.Regs.length ≤ 1000000) →
    ∃ r, F_ref08_Get_l17 b n X0 a acc last (acc.length : Int) = some r ∧ (r = ([], 0, 5) ∨ ∃ (l : List Ue) (i : Nat), r = (acc ++ l, ((i + (encEs last l).length : Nat) : Int), 0) ∧ l.length = k ∧ a = i ∧ Lies b i (encEs last l) ∧ Ut (acc ++ l) = true)
  | 0, a, acc, last, k, _, _, _, _, _, h, _ => by omega
  | n + 1, a, acc, last, k, ha, ha2, hl0, hl1, hk, hn, hs => by
    show ∃ r, F_ref08_Get_l17B (F_ref08_Get_l17 b n) b X0 a acc last (acc.length : Int) = some r ∧ _
    unfold F_ref08_Get_l17B
    rw [hX, Option.bind_some]
    obtain ⟨i, rfl⟩ : ∃ i : Nat, a = i := ⟨a.toNat, by omega⟩
    by_cases hlt : acc.length < m
    · rw [decT (by omega), if_pos rfl]
      obtain ⟨l, q, ok, h1, h2⟩ := P_nums (m := 4) hb (by omega) (a := (i : Int)) ⟨by omega, by omega⟩
      rw [show ((4 : Int)) = ((4 : Nat) : Int) from rfl, h1, Option.bind_some]
      rcases h2 with rfl | ⟨rfl, x, j, hj, hl, hx, hall, hL, hq⟩
      · exact ⟨_, rfl, Or.inl rfl⟩
      · obtain ⟨f0, f1, f2, f3, rfl⟩ : ∃ f0 f1 f2 f3, x = [f0, f1, f2, f3] := by
          match x, hx with
          | [f0, f1, f2, f3], _ => exact ⟨f0, f1, f2, f3, rfl⟩
        have v0 := hall f0 (by simp)
        have v1 := hall f1 (by simp)
        have v2 := hall f2 (by simp)
        have v3 := hall f3 (by simp)
        obtain rfl : j = i := by omega
        subst hl
        simp only [List.map_cons, List.map_nil, List.flatMap_cons, List.flatMap_nil, List.append_nil] at hL hq ⊢
        simp only [Bool.not_true, Bool.false_eq_true, if_false, show getI [(f0 : Int), (f1 : Int), (f2 : Int), (f3 : Int)] 3 = some (f3 : Int) from rfl, show getI [(f0 : Int), (f1 : Int), (f2 : Int), (f3 : Int)] 0 = some (f0 : Int) from rfl, show getI [(f0 : Int), (f1 : Int), (f2 : Int), (f3 : Int)] 1 = some (f1 : Int) from rfl, show getI [(f0 : Int), (f1 : Int), (f2 : Int), (f3 : Int)] 2 = some (f2 : Int) from rfl, Option.bind_some]
        have hle := hL.1
        by_cases h16 : (f3 : Int) > 16
        · rw [decT h16, if_pos rfl]
          exact ⟨_, rfl, Or.inl rfl⟩
        · rw [decF h16, if_neg (by simp), wi64 (x := last + f0) (by omega), wi64 (x := last + f0 + f1) (by omega)]
          by_cases hfar : last + (f0 : Int) + f1 > 16777216
          · rw [decT hfar, if_pos rfl]
            exact ⟨_, rfl, Or.inl rfl⟩
          · rw [decF hfar, if_neg (by simp), hq]
            have g := g19_st hb (F_ref08_Get_l17 b n) last acc.length ([(f0 : Int), (f1 : Int), (f2 : Int), (f3 : Int)], ((j + (encU f0 ++ (encU f1 ++ (encU f2 ++ encU f3))).length : Nat) : Int), true) f0 f0 f1 f2 X0 acc (by omega) f3 (by omega) rfl big ((j + (encU f0 ++ (encU f1 ++ (encU f2 ++ encU f3))).length : Nat) : Int) [] f3 (by omega) (by omega) (by simp) (big_gt (by omega))
            rcases g with g | ⟨rs, i2, hi2, hrl, hrL, g⟩
            · exact ⟨_, g, Or.inl rfl⟩
            · obtain rfl : i2 = j + (encU f0 ++ (encU f1 ++ (encU f2 ++ encU f3))).length := by omega
              rw [wi64 (x := last + f0) (by omega), wi64 (x := last + f0 + f1) (by omega), i64_succ (by omega), List.nil_append] at g
              have hle2 := hrL.1
              have ih := g17_st hb X0 m hm hX n ((j + (encU f0 ++ (encU f1 ++ (encU f2 ++ encU f3))).length + (encRs rs).length : Nat) : Int) (acc ++ [⟨last + f0, last + f0 + f1, f2, rs⟩]) (last + f0 + f1) (k - 1) (by omega) (by omega) (by omega) (by omega) (by simp; omega) (by omega) (by
                intro y hy
                rcases List.mem_append.1 hy with hy | hy
                · exact hs y hy
                · rw [List.mem_singleton.1 hy]; simp only; omega)
              rw [show (acc ++ [(⟨last + f0, last + f0 + f1, f2, rs⟩ : Ue)]).length = acc.length + 1 by simp] at ih
              have henc : encE last ⟨last + f0, last + f0 + f1, f2, rs⟩ = (encU f0 ++ (encU f1 ++ (encU f2 ++ encU f3))) ++ encRs rs := by
                unfold encE
                simp only
                rw [show last + (f0 : Int) - last = f0 from by omega, show last + (f0 : Int) + f1 - (last + f0) = f1 from by omega, hrl]
                simp
              obtain ⟨r, hr, hr2⟩ := ih
              refine ⟨r, by rw [← hr]; exact g, ?_⟩
              rcases hr2 with rfl | ⟨l, i3, hr2, hll, hi3, hlL, hu⟩
              · exact Or.inl rfl
              · obtain rfl : i3 = j + (encU f0 ++ (encU f1 ++ (encU f2 ++ encU f3))).length + (encRs rs).length := by omega
                refine Or.inr ⟨⟨last + f0, last + f0 + f1, f2, rs⟩ :: l, j, ?_, by simp; omega, rfl, ?_, ?_⟩
                · rw [hr2, encEs, henc]
                  simp only [List.append_assoc, List.singleton_append, List.length_append]
                  congr 3
                  omega
                · rw [encEs, henc]
                  refine Lies.app (Lies.app hL hrL) ?_
                  rw [List.length_append, ← Nat.add_assoc]
                  exact hlL
                · rw [← hu, List.append_assoc]; rfl
    · obtain rfl : k = 0 := by omega
      rw [decF (by omega), if_neg (by simp), P_rURight ⟨by omega, hs⟩, Option.bind_some]
      cases hu : Ut acc
      · exact ⟨_, rfl, Or.inl rfl⟩
      · exact ⟨_, rfl, Or.inr ⟨[], i, by simp [encEs], rfl, rfl, ⟨by simp [encEs]; omega, by simp [encEs]⟩, by simpa using hu⟩⟩
theorem P_rGet_st {b : List UInt8} {a : Int} (hb : b.length ≤ 1000000) : ∃ r, F_ref08_Get b a = some r ∧ ((a < 0 ∨ a > b.length) ∧ r = ([], 0, 1) ∨ (0 ≤ a ∧ a ≤ b.length) ∧ (r = ([], 0, 5) ∨ ∃ (l : List Ue) (i : Nat), r = (l, ((i + (encT l).length : Nat) : Int), 0) ∧ a = i ∧ Lies b i (encT l) ∧ Ut l = true)) := by
  unfold F_ref08_Get
  by_cases hc : a < 0 ∨ a > b.length
  · rw [if_pos (by simpa using hc)]
    exact ⟨_, rfl, Or.inl ⟨hc, rfl⟩⟩
  · have ha : 0 ≤ a ∧ a ≤ b.length := by omega
    rw [if_neg (by simpa using hc)]
    obtain ⟨l, q, ok, h1, h2⟩ := P_nums (m := 1) hb (by omega) ha
    rw [show ((1 : Int)) = ((1 : Nat) : Int) from rfl, h1, Option.bind_some]
    rcases h2 with rfl | ⟨rfl, x, j, hj, hl, hx, hall, hL, hq⟩
    · exact ⟨_, rfl, Or.inr ⟨ha, Or.inl rfl⟩⟩
    · obtain ⟨v, rfl⟩ : ∃ v, x = [v] := by
        match x, hx with
        | [v], _ => exact ⟨v, rfl⟩
      have hv := hall v (by simp)
      simp only [List.flatMap_cons, List.flatMap_nil, List.append_nil] at hL hq
      subst hl
      simp only [List.map_cons, List.map_nil, Bool.not_true, Bool.false_eq_true, if_false, show getI [(v : Int)] 0 = some (v : Int) from rfl, Option.bind_some]
      by_cases h4 : (v : Int) > 4000
      · rw [decT h4, if_pos rfl]
        exact ⟨_, rfl, Or.inr ⟨ha, Or.inl rfl⟩⟩
      · have hle := hL.1
        rw [decF h4, if_neg (by simp), hq]
        obtain ⟨r, hr, hr2⟩ := g17_st hb [(v : Int)] v (by omega) rfl big ((j + (encU v).length : Nat) : Int) [] 0 v (by omega) (by omega) (by omega) (by omega) (by simp) (big_gt (by omega)) (fun _ h => (nomatch h))
        refine ⟨r, hr, Or.inr ⟨ha, ?_⟩⟩
        rcases hr2 with h | ⟨l, i, hr2, hll, hi, hlL, hu⟩
        · exact Or.inl h
        · obtain rfl : i = j + (encU v).length := by omega
          refine Or.inr ⟨l, j, ?_, hj, ?_, by simpa using hu⟩
          · rw [hr2, encT, hll, List.length_append, Nat.add_assoc]; rfl
          · rw [encT, hll]
            exact hL.app hlL
theorem rtR_reg : ∀ {l : List Sv} {r : Int}, rtR r l = true → 5 ≤ r → ∀ x ∈ l, (6 ≤ x.Reg ∧ x.Reg ≤ 11) ∧ x.At ≤ -2 ∧ -65536 ≤ x.At
  | [], _, _, _, _, h => (nomatch h)
  | y :: l, r, h, h5, x, hx => by
    simp only [rtR, Bool.and_eq_true, decide_eq_true_eq] at h
    have h2 := h.1
    unfold okR at h2
    rcases List.mem_cons.1 hx with rfl | hx
    · omega
    · exact rtR_reg h.2 (by omega) x hx
theorem g19_put (rec : List Int → Int → List Ue → Int → Int → Option (List Ue × Int × Int)) (last K : Int) (c : List Int × Int × Bool) (y0 y1 y2 z : Int) (x584 : List Int) (acc : List Ue) (hacc : acc.length ≤ 1000000) (m : Nat) (hm : m ≤ 16) (hc : getI c.1 3 = some (m : Int)) (r : List UInt8) : ∀ (n : Nat) (l : List Sv) (p : List UInt8) (s : List Sv), (p ++ encRs l ++ r).length ≤ 1000000 → (∀ x ∈ l, (6 ≤ x.Reg ∧ x.Reg ≤ 11) ∧ x.At ≤ -2 ∧ -65536 ≤ x.At) → s.length + l.length = m → l.length < n →
    F_ref08_Get_l19 rec (p ++ encRs l ++ r) last K c y0 y1 y2 z n x584 p.length acc s (s.length : Int) = rec x584 (((p ++ encRs l).length : Nat) : Int) (acc ++ [⟨IntKind.i64.wrap (last + y0), IntKind.i64.wrap (IntKind.i64.wrap (last + y1) + y2), z, s ++ l⟩]) (IntKind.i64.wrap (IntKind.i64.wrap (last + y1) + y2)) (IntKind.i64.wrap (K + 1))
  | 0, l, p, s, _, _, _, h => by omega
  | n + 1, [], p, s, hb, hx, hk, hn => by
    show F_ref08_Get_l19B _ rec _ last K c y0 y1 y2 z x584 _ acc s (s.length : Int) = _
    unfold F_ref08_Get_l19B
    rw [hc, Option.bind_some, decF (by simp at hk; omega), if_neg (by simp), room_ok (by omega), Option.bind_some]
    simp [encRs]
  | n + 1, x :: l, p, s, hb, hx, hk, hn => by
    simp only [List.length_cons] at hk hn
    have h2 := hx x (List.mem_cons_self ..)
    have hkk : (UInt8.ofNat x.Reg.toNat).toNat = x.Reg.toNat := ofNat8 (by omega)
    have e1 : p ++ encRs (x :: l) ++ r = (p ++ [UInt8.ofNat x.Reg.toNat]) ++ ([(-x.At).toNat].flatMap encU) ++ (encRs l ++ r) := by simp [encRs]
    have e2 : p ++ encRs (x :: l) ++ r = (p ++ [UInt8.ofNat x.Reg.toNat] ++ encU (-x.At).toNat) ++ encRs l ++ r := by simp [encRs]
    have hlt : p.length < (p ++ encRs (x :: l) ++ r).length := by simp [encRs]
    have hget : getI (p ++ encRs (x :: l) ++ r) (p.length : Int) = some (UInt8.ofNat x.Reg.toNat) := by
      rw [getI_cast]
      simp [encRs]
    have hnum := P_nums_put (m := 1) (by omega) (p := p ++ [UInt8.ofNat x.Reg.toNat]) (r := encRs l ++ r) (x := [(-x.At).toNat]) (by rw [← e1]; exact hb) (by simp; omega) rfl
    rw [← e1] at hnum
    have hnum : F_ref08_numbers (p ++ encRs (x :: l) ++ r) (IntKind.i64.wrap ((p.length : Int) + 1)) 1 = some ([(((-x.At).toNat : Nat) : Int)], (((p ++ [UInt8.ofNat x.Reg.toNat] ++ encU (-x.At).toNat).length : Nat) : Int), true) := by
      rw [i64_succ (by omega)]
      simp only [List.length_append, List.length_singleton, List.flatMap_cons, List.flatMap_nil, List.append_nil] at hnum ⊢
      exact hnum
    have ih := g19_put rec last K c y0 y1 y2 z x584 acc hacc m hm hc r n l (p ++ [UInt8.ofNat x.Reg.toNat] ++ encU (-x.At).toNat) (s ++ [x]) (by rw [← e2]; exact hb) (fun y hy => hx y (List.mem_cons_of_mem _ hy)) (by simp; omega) (by omega)
    rw [← e2, show (s ++ [x]).length = s.length + 1 by simp] at ih
    show F_ref08_Get_l19B _ rec _ last K c y0 y1 y2 z x584 _ acc s (s.length : Int) = _
    unfold F_ref08_Get_l19B
    rw [hc, Option.bind_some, decT (by omega), if_pos rfl, decF (show ¬ (p.length : Int) ≥ ((p ++ encRs (x :: l) ++ r).length : Int) by omega), if_neg (by simp), hnum, Option.bind_some]
    simp only
    rw [Bool.not_true, if_neg (by simp), hget, Option.bind_some, show getI [(((-x.At).toNat : Nat) : Int)] 0 = some (((-x.At).toNat : Nat) : Int) from rfl, Option.bind_some, room_ok (by simp; omega), Option.bind_some, hkk]
    have ea : IntKind.i64.wrap (0 - (((-x.At).toNat : Nat) : Int)) = x.At := by rw [wi64 (by omega)]; omega
    have eb : IntKind.i64.wrap ((x.Reg.toNat : Nat) : Int) = x.Reg := by rw [wi64 (by omega)]; omega
    rw [ea, eb, i64_succ (by omega), ih]
    simp [encRs]
theorem g17_put (X0 : List Int) (m : Nat) (hm : m ≤ 4000) (hX : getI X0 0 = some (m : Int)) (r : List UInt8) : ∀ (n : Nat) (l : List Ue) (p : List UInt8) (acc : List Ue) (last : Int), (p ++ encEs last l ++ r).length ≤ 1000000 → rtU last l = true → 0 ≤ last → last ≤ 16777216 → acc.length + l.length = m → l.length < n → Ut (acc ++ l) = true →
    F_ref08_Get_l17 (p ++ encEs last l ++ r) n X0 p.length acc last (acc.length : Int) = some (acc ++ l, (((p ++ encEs last l).length : Nat) : Int), 0)
  | 0, l, p, acc, last, _, _, _, _, _, h, _ => by omega
  | n + 1, [], p, acc, last, hb, hr, h0, h1, hk, hn, hu => by
    show F_ref08_Get_l17B _ _ X0 _ acc last (acc.length : Int) = _
    unfold F_ref08_Get_l17B
    rw [List.append_nil] at hu
    rw [hX, Option.bind_some, decF (by simp at hk; omega), if_neg (by simp), P_rURight (Ut_small hu), hu]
    simp [encEs]
  | n + 1, x :: l, p, acc, last, hb, hr, h0, h1, hk, hn, hu => by
    simp only [List.length_cons] at hk hn
    simp only [rtU, Bool.and_eq_true, decide_eq_true_eq] at hr
    have hx := hr.1.1
    unfold okU at hx
    have h6 := rtR_len _ _ hr.1.2 (by omega)
    have e1 : p ++ encEs last (x :: l) ++ r = p ++ ([(x.From - last).toNat, (x.To - x.From).toNat, x.Up.toNat, x.Regs.length].flatMap encU) ++ (encRs x.Regs ++ (encEs x.To l ++ r)) := by simp [encEs, encE]
    have e3 : p ++ encEs last (x :: l) ++ r = (p ++ ([(x.From - last).toNat, (x.To - x.From).toNat, x.Up.toNat, x.Regs.length].flatMap encU)) ++ encRs x.Regs ++ (encEs x.To l ++ r) := by simp [encEs, encE]
    have e2 : p ++ encEs last (x :: l) ++ r = (p ++ ([(x.From - last).toNat, (x.To - x.From).toNat, x.Up.toNat, x.Regs.length].flatMap encU) ++ encRs x.Regs) ++ encEs x.To l ++ r := by simp [encEs, encE]
    have hnum := P_nums_put (m := 4) (by omega) (p := p) (r := encRs x.Regs ++ (encEs x.To l ++ r)) (x := [(x.From - last).toNat, (x.To - x.From).toNat, x.Up.toNat, x.Regs.length]) (by rw [← e1]; exact hb) (by simp; omega) rfl
    rw [← e1] at hnum
    have hnum : F_ref08_numbers (p ++ encEs last (x :: l) ++ r) (p.length : Int) 4 = _ := hnum
    have ih := g17_put X0 m hm hX r n l (p ++ ([(x.From - last).toNat, (x.To - x.From).toNat, x.Up.toNat, x.Regs.length].flatMap encU) ++ encRs x.Regs) (acc ++ [x]) x.To (by rw [← e2]; exact hb) hr.2 (by omega) (by omega) (by simp; omega) (by omega) (by rw [List.append_assoc]; exact hu)
    rw [← e2, show (acc ++ [x]).length = acc.length + 1 by simp] at ih
    have g := g19_put (F_ref08_Get_l17 (p ++ encEs last (x :: l) ++ r) n) last acc.length ([((x.From - last).toNat : Int), ((x.To - x.From).toNat : Int), (x.Up.toNat : Int), (x.Regs.length : Int)], (((p ++ [(x.From - last).toNat, (x.To - x.From).toNat, x.Up.toNat, x.Regs.length].flatMap encU).length : Nat) : Int), true) ((x.From - last).toNat : Int) ((x.From - last).toNat : Int) ((x.To - x.From).toNat : Int) (x.Up.toNat : Int) X0 acc (by omega) x.Regs.length (by omega) rfl (encEs x.To l ++ r) big x.Regs (p ++ ([(x.From - last).toNat, (x.To - x.From).toNat, x.Up.toNat, x.Regs.length].flatMap encU)) [] (by rw [← e3]; exact hb) (rtR_reg hr.1.2 (by omega)) (by simp) (big_gt (by omega))
    rw [← e3, wi64 (x := last + ((x.From - last).toNat : Int)) (by omega), show last + ((x.From - last).toNat : Int) = x.From from by omega, wi64 (x := x.From + ((x.To - x.From).toNat : Int)) (by omega), show x.From + ((x.To - x.From).toNat : Int) = x.To from by omega, i64_succ (by omega), List.nil_append, show (x.Up.toNat : Int) = x.Up from by omega, ih] at g
    show F_ref08_Get_l17B _ _ X0 _ acc last (acc.length : Int) = _
    unfold F_ref08_Get_l17B
    rw [hX, Option.bind_some, decT (by omega), if_pos rfl, hnum, Option.bind_some]
    have q0 : ∀ a b c d : Int, getI [a, b, c, d] 0 = some a := fun _ _ _ _ => rfl
    have q1 : ∀ a b c d : Int, getI [a, b, c, d] 1 = some b := fun _ _ _ _ => rfl
    have q2 : ∀ a b c d : Int, getI [a, b, c, d] 2 = some c := fun _ _ _ _ => rfl
    have q3 : ∀ a b c d : Int, getI [a, b, c, d] 3 = some d := fun _ _ _ _ => rfl
    simp only [List.map_cons, List.map_nil, Bool.not_true, Bool.false_eq_true, if_false, q0, q1, q2, q3, Option.bind_some]
    rw [decF (show ¬ (x.Regs.length : Int) > 16 by omega), if_neg (by simp), wi64 (x := last + ((x.From - last).toNat : Int)) (by omega), show last + ((x.From - last).toNat : Int) = x.From from by omega, wi64 (x := x.From + ((x.To - x.From).toNat : Int)) (by omega), show x.From + ((x.To - x.From).toNat : Int) = x.To from by omega, decF (show ¬ x.To > 16777216 by omega), if_neg (by simp), show (x.Up.toNat : Int) = x.Up from by omega]
    refine g.trans ?_
    simp [encEs, encE]
theorem P_rGet_put {p r : List UInt8} {l : List Ue} (hb : (p ++ encT l ++ r).length ≤ 1000000) (hl : Ut l = true) : F_ref08_Get (p ++ encT l ++ r) (p.length : Int) = some (l, (((p ++ encT l).length : Nat) : Int), 0) := by
  have h2 : rtU 0 l = true ∧ (l.length : Int) ≤ 4000 := by unfold Ut at hl; simp only [Bool.and_eq_true, decide_eq_true_eq] at hl; exact hl
  unfold F_ref08_Get
  have e1 : p ++ encT l ++ r = p ++ [l.length].flatMap encU ++ (encEs 0 l ++ r) := by simp [encT]
  have e2 : p ++ encT l ++ r = (p ++ [l.length].flatMap encU) ++ encEs 0 l ++ r := by simp [encT]
  have hnum := P_nums_put (m := 1) (by omega) (p := p) (r := encEs 0 l ++ r) (x := [l.length]) (by rw [← e1]; exact hb) (by simp; omega) rfl
  rw [← e1] at hnum
  have hnum : F_ref08_numbers (p ++ encT l ++ r) (p.length : Int) 1 = _ := hnum
  have hp : p.length ≤ (p ++ encT l ++ r).length := by simp
  rw [decF (show ¬ (p.length : Int) < 0 by omega), decF (show ¬ (p.length : Int) > (p ++ encT l ++ r).length by omega), Bool.or_self, if_neg (by simp), hnum, Option.bind_some]
  simp only [List.map_cons, List.map_nil, Bool.not_true, Bool.false_eq_true, if_false, show getI [(l.length : Int)] 0 = some (l.length : Int) from rfl, Option.bind_some]
  rw [decF (show ¬ (l.length : Int) > 4000 by omega), if_neg (by simp)]
  have := g17_put [(l.length : Int)] l.length (by omega) rfl r big l (p ++ [l.length].flatMap encU) [] 0 (by rw [← e2]; exact hb) h2.1 (by omega) (by omega) (by simp) (big_gt (by omega)) (by simpa using hl)
  rw [← e2] at this
  refine this.trans ?_
  simp [encT]
theorem P_Get_eq {b : List UInt8} {a : Int} (hb : b.length ≤ 1000000) : ∃ r, F_unwind_Get b a = some r ∧ F_ref08_Get b a = some r ∧ (r.2.2 = 0 ∧ (∃ i : Nat, a = i ∧ Lies b i (encT r.1) ∧ r.2.1 = ((i + (encT r.1).length : Nat) : Int)) ∧ Ut r.1 = true ∨ r.2.2 ≠ 0 ∧ r.1 = [] ∧ r.2.1 = 0) := by
  obtain ⟨r, hr⟩ := P_Get_tot (a := a) hb
  obtain ⟨q, hq, h2⟩ := P_rGet_st (a := a) hb
  have put : ∀ (l : List Ue) (i : Nat), a = i → Lies b i (encT l) → Ut l = true → r = (l, ((i + (encT l).length : Nat) : Int), 0) ∧ q = (l, ((i + (encT l).length : Nat) : Int), 0) := by
    intro l i hi hL hu
    subst hi
    have hle := hL.1
    have hs := hL.split
    have ht : (b.take i).length = i := by rw [List.length_take]; omega
    have h3 := P_Get (p := b.take i) (r := b.drop (i + (encT l).length)) (l := l) (by rw [← hs]; exact hb) hu
    have h4 := P_rGet_put (p := b.take i) (r := b.drop (i + (encT l).length)) (l := l) (by rw [← hs]; exact hb) hu
    rw [← hs, List.length_append, ht] at h3 h4
    rw [hr] at h3
    rw [hq] at h4
    injection h3 with h3
    injection h4 with h4
    exact ⟨h3, h4⟩
  rcases P_Get_lies hb hr with ⟨h1, rfl⟩ | ⟨h1, h⟩
  · rcases h2 with ⟨_, rfl⟩ | ⟨h3, _⟩
    · exact ⟨_, hr, hq, Or.inr ⟨by simp, rfl, rfl⟩⟩
    · omega
  · rcases h with rfl | ⟨l, i, rfl, hi, hL, hu⟩
    · rcases h2 with ⟨h3, _⟩ | ⟨h3, rfl | ⟨l, i, rfl, hi, hL, hu⟩⟩
      · omega
      · exact ⟨_, hr, hq, Or.inr ⟨by simp, rfl, rfl⟩⟩
      · obtain ⟨h4, _⟩ := put l i hi hL hu
        injection h4 with _ h4
        injection h4 with _ h4
        cases h4
    · obtain ⟨_, h4⟩ := put l i hi hL hu
      subst h4
      exact ⟨_, hr, hq, Or.inl ⟨rfl, ⟨i, hi, hL, rfl⟩, hu⟩⟩
end Go.Proofs.Ytneonhnackjdjaa
