import Derived.Test.YtjcehfjmmbbblaaAd
import Derived.Test.YtjcehfjmmbbblaaF
import Derived.Test.YtjcehfjmmbbblaaPL
import Derived.Test.YtjcehfjmmbbblaaP_02
import Derived.Test.YtjcehfjmmbbblaaP_06
import Derived.Test.YtjcehfjmmbbblaaP_06b
import Derived.Test.YtjcehfjmmbbblaaP_06c
import Derived.Test.YtjcehfjmmbbblaaP_07
import Derived.Test.YtjcehfjmmbbblaaP_07b
import Derived.Test.YtjcehfjmmbbblaaP_07c
namespace Go.Proofs.Ytjcehfjmmbbblaa
open Go.Ab Go.RowKit
set_option linter.unusedVariables false
set_option linter.unusedSimpArgs false
def atS : List Sp → Int → List Lc
  | [], _ => []
  | x :: l, pc => if x.From ≤ pc ∧ pc < x.To then x.At else atS l pc
theorem zbZ {l : List Lc} (h : l.length ≤ 1000000) : zq l = some l := by
  unfold zq
  rw [room_ok (by omega), Option.bind_some]
theorem At_loop (l : List Sp) (hs : smS l) (pc : Int) : ∀ (n i : Nat), i ≤ l.length → l.length - i < n → zv l pc n (i : Int) = some (atS (l.drop i) pc)
  | 0, i, _, h => by omega
  | n + 1, i, hi, h => by
    have hl := hs.1
    show zL _ l pc (i : Int) = _
    unfold zL
    by_cases hlt : i < l.length
    · have hr := hs.2 l[i] (List.getElem_mem hlt)
      rw [decT (by omega), if_pos rfl, getI_lt hlt, Option.bind_some, List.drop_eq_getElem_cons hlt, atS]
      by_cases hc : l[i].From ≤ pc ∧ pc < l[i].To
      · rw [if_pos hc, decT hc.1, decT hc.2, Bool.and_self, if_pos rfl, zbZ hr, Option.bind_some]
      · rw [if_neg hc, if_neg (by simpa using hc), i64_succ (by omega), At_loop l hs pc n (i + 1) (by omega) (by omega)]
    · rw [decF (by omega), if_neg (by simp), List.drop_of_length_le (by omega), atS]
theorem P_At {l : List Sp} (hs : smS l) (pc : Int) : zm l pc = some (atS l pc) := At_loop l hs pc big 0 (by omega) (big_gt (by have := hs.1; omega))
theorem atS_len {l : List Sp} (h : ∀ x ∈ l, x.At.length ≤ 16) (pc : Int) : (atS l pc).length ≤ 16 := by
  induction l with
  | nil => simp [atS]
  | cons x l ih =>
    rw [atS]
    split
    · exact h x (by simp)
    · exact ih fun y hy => h y (List.mem_cons_of_mem _ hy)
theorem zI {x : Sp} (h : x.At.length ≤ 1000000) : zo x = some x := by
  unfold zo
  rw [zbZ h, Option.bind_some]
theorem P_Y7 {x : Sp} {out : List Sp} (h : x.At.length ≤ 1000000) (ho : out.length ≤ 1000000) : zk x out = some (true, out ++ [x]) := by
  unfold zk
  rw [zI (x := ⟨x.From, x.To, x.At⟩) h, Option.bind_some, room_ok (by simp; omega), Option.bind_some]
def pc1 (f t : Int) (x : Sp) : List Sp := if x.From ≥ x.To then [] else (if x.From < minI x.To f then [⟨x.From, minI x.To f, x.At⟩] else []) ++ (if maxI x.From t < x.To then [⟨maxI x.From t, x.To, x.At⟩] else [])
theorem out_loop (l : List Sp) (hs : smS l) (f t : Int) : ∀ (n i : Nat) (acc : List Sp), i ≤ l.length → l.length - i < n → l.length ≤ 1000 → acc.length ≤ 2 * i → zt l f t n acc (i : Int) = some (acc ++ (l.drop i).flatMap (pc1 f t))
  | 0, i, _, _, h, _, _ => by omega
  | n + 1, i, acc, hi, h, hl, ha => by
    show zJ _ l f t acc (i : Int) = _
    unfold zJ
    by_cases hlt : i < l.length
    · have hr := hs.2 l[i] (List.getElem_mem hlt)
      have ih := fun acc' (ha' : acc'.length ≤ 2 * (i + 1)) => out_loop l hs f t n (i + 1) acc' (by omega) (by omega) hl ha'
      rw [decT (by omega), if_pos rfl, getI_lt hlt, Option.bind_some, List.drop_eq_getElem_cons hlt, List.flatMap_cons]
      by_cases h0 : l[i].From ≥ l[i].To
      · rw [decT h0, if_pos rfl, i64_succ (by omega), ih acc (by omega), pc1, if_pos h0, List.nil_append]
      · rw [decF h0, if_neg (by simp), pc1, if_neg h0]
        unfold z7
        by_cases h1 : l[i].From < minI l[i].To f
        · rw [decT h1, if_pos rfl, if_pos h1, P_Y7 (by simpa using hr) (by omega), Option.bind_some]
          simp only
          rw [Bool.not_true, if_neg (by simp)]
          by_cases h2 : maxI l[i].From t < l[i].To
          · rw [decT h2, if_pos rfl, if_pos h2, P_Y7 (by simpa using hr) (by simp; omega), Option.bind_some]
            simp only
            rw [Bool.not_true, if_neg (by simp), i64_succ (by omega), ih _ (by simp; omega)]
            simp
          · rw [decF h2, if_neg (by simp), if_neg h2, i64_succ (by omega), ih _ (by simp; omega)]
            simp
        · rw [decF h1, if_neg (by simp), if_neg h1, if_neg (by simp)]
          by_cases h2 : maxI l[i].From t < l[i].To
          · rw [decT h2, if_pos rfl, if_pos h2, P_Y7 (by simpa using hr) (by omega), Option.bind_some]
            simp only
            rw [Bool.not_true, if_neg (by simp), i64_succ (by omega), ih _ (by simp; omega)]
            simp
          · rw [decF h2, if_neg (by simp), if_neg h2, i64_succ (by omega), ih _ (by omega)]
            simp
    · rw [decF (by omega), if_neg (by simp), List.drop_of_length_le (by omega), List.flatMap_nil, List.append_nil]
theorem Cut_loop (l : List Sp) (hs : smS l) : ∀ (n i : Nat) (acc : List Sp), i ≤ l.length → l.length - i < n → acc.length ≤ i → zO l n acc (i : Int) = some (acc ++ l.drop i)
  | 0, i, _, _, h, _ => by omega
  | n + 1, i, acc, hi, h, ha => by
    have hl := hs.1
    show zU _ l acc (i : Int) = _
    unfold zU
    by_cases hlt : i < l.length
    · have hr := hs.2 l[i] (List.getElem_mem hlt)
      rw [decT (by omega), if_pos rfl, getI_lt hlt, Option.bind_some, zI (x := ⟨l[i].From, l[i].To, l[i].At⟩) hr, Option.bind_some, room_ok (by simp; omega), Option.bind_some, i64_succ (by omega), Cut_loop l hs n (i + 1) _ (by omega) (by omega) (by simp; omega), List.drop_eq_getElem_cons hlt, List.append_assoc]
      rfl
    · rw [decF (by omega), if_neg (by simp), List.drop_of_length_le (by omega), List.append_nil]
def cutS (f t : Int) (l : List Sp) : List Sp := if f ≥ t then l else l.flatMap (pc1 f t)
theorem zcG {l : List Sp} (hs : smS l) (hl : l.length ≤ 1000) (f t : Int) : zp l f t = some (cutS f t l) := by
  unfold zp cutS
  by_cases h : f ≥ t
  · rw [decT h, if_pos rfl, if_pos h]
    exact Cut_loop l hs big 0 [] (by omega) (big_gt (by omega)) (by simp)
  · rw [decF h, if_neg (by simp), if_neg h]
    exact out_loop l hs f t big 0 [] (by omega) (big_gt (by omega)) hl (by simp)
theorem min_cases (a b : Int) : minI a b = if b < a then b else a := rfl
theorem max_cases (a b : Int) : maxI a b = if a < b then b else a := rfl
theorem rtS_mk {last : Int} {x : Sp} {l : List Sp} (h1 : okS last x) (h2 : Rt x.At = true) (h3 : rtS x.To l = true) : rtS last (x :: l) = true := by
  simp only [rtS, decT h1, h2, h3, Bool.and_self]
theorem rtS_le : ∀ {l : List Sp} {a b : Int}, rtS a l = true → b ≤ a → rtS b l = true
  | [], _, _, _, _ => rfl
  | x :: l, a, b, h, hb => by
    obtain ⟨h1, h2, h3⟩ := rtS_cons h
    unfold okS at h1
    exact rtS_mk (by unfold okS; omega) h2 h3
theorem cut_rt {f t : Int} (hft : f < t) : ∀ {l : List Sp} {last : Int}, rtS last l = true → rtS last (l.flatMap (pc1 f t)) = true
  | [], _, _ => rfl
  | x :: l, last, h => by
    obtain ⟨h1, h2, h3⟩ := rtS_cons h
    have ih := cut_rt hft h3
    unfold okS at h1
    rw [List.flatMap_cons, pc1, if_neg (by omega)]
    have hmin := min_cases x.To f
    have hmax := max_cases x.From t
    by_cases g1 : x.From < minI x.To f <;> by_cases g2 : maxI x.From t < x.To
    · rw [if_pos g1, if_pos g2]
      refine rtS_mk (by unfold okS; simp only; split at hmin <;> omega) h2 (rtS_mk ?_ h2 ih)
      unfold okS
      simp only
      split at hmin <;> split at hmax <;> omega
    · rw [if_pos g1, if_neg g2]
      refine rtS_mk (by unfold okS; simp only; split at hmin <;> omega) h2 (rtS_le ih ?_)
      simp only
      split at hmin <;> omega
    · rw [if_neg g1, if_pos g2]
      refine rtS_mk ?_ h2 ih
      unfold okS
      simp only
      split at hmax <;> omega
    · rw [if_neg g1, if_neg g2]
      exact rtS_le ih (by omega)
theorem cut_len {f t : Int} (hft : f < t) : ∀ {l : List Sp} {last : Int}, rtS last l = true → (l.flatMap (pc1 f t)).length ≤ l.length + 1 ∧ (f ≤ last → (l.flatMap (pc1 f t)).length ≤ l.length)
  | [], _, _ => by simp
  | x :: l, last, h => by
    obtain ⟨h1, h2, h3⟩ := rtS_cons h
    obtain ⟨i1, i2⟩ := cut_len hft h3
    unfold okS at h1
    rw [List.flatMap_cons, List.length_append, List.length_cons, pc1, if_neg (by omega)]
    have hmin := min_cases x.To f
    have hmax := max_cases x.From t
    by_cases g1 : x.From < minI x.To f <;> by_cases g2 : maxI x.From t < x.To
    · rw [if_pos g1, if_pos g2]
      simp only [List.length_append, List.length_singleton]
      have : f ≤ x.To := by split at hmax <;> omega
      have := i2 this
      constructor
      · omega
      · intro hf; split at hmin <;> omega
    · rw [if_pos g1, if_neg g2]
      simp only [List.length_append, List.length_singleton, List.length_nil]
      constructor
      · omega
      · intro hf; split at hmin <;> omega
    · rw [if_neg g1, if_pos g2]
      simp only [List.length_append, List.length_singleton, List.length_nil]
      constructor
      · omega
      · intro hf; have := i2 (by omega); omega
    · rw [if_neg g1, if_neg g2]
      simp only [List.length_append, List.length_nil]
      constructor
      · omega
      · intro hf; have := i2 (by omega); omega
theorem cut_at {f t : Int} (hft : f < t) (pc : Int) : ∀ (l : List Sp), atS (l.flatMap (pc1 f t)) pc = if f ≤ pc ∧ pc < t then [] else atS l pc
  | [] => by simp [atS]
  | x :: l => by
    have ih := cut_at hft pc l
    have hmin := min_cases x.To f
    have hmax := max_cases x.From t
    rw [List.flatMap_cons, pc1]
    by_cases g0 : x.From ≥ x.To
    · rw [if_pos g0, List.nil_append, ih]
      split
      · rfl
      · rw [atS, if_neg (by omega)]
    rw [if_neg g0]
    have hb : ∀ r : List Sp, atS ((if maxI x.From t < x.To then [(⟨maxI x.From t, x.To, x.At⟩ : Sp)] else []) ++ r) pc = if t ≤ pc ∧ x.From ≤ pc ∧ pc < x.To then x.At else atS r pc := by
      intro r
      by_cases g2 : maxI x.From t < x.To
      · rw [if_pos g2, List.singleton_append, atS]
        simp only
        by_cases g3 : t ≤ pc ∧ x.From ≤ pc ∧ pc < x.To
        · rw [if_pos g3, if_pos (by split at hmax <;> omega)]
        · rw [if_neg g3, if_neg (by split at hmax <;> omega)]
      · rw [if_neg g2, List.nil_append, if_neg (by split at hmax <;> omega)]
    have ha : ∀ r : List Sp, atS ((if x.From < minI x.To f then [(⟨x.From, minI x.To f, x.At⟩ : Sp)] else []) ++ r) pc = if pc < f ∧ x.From ≤ pc ∧ pc < x.To then x.At else atS r pc := by
      intro r
      by_cases g1 : x.From < minI x.To f
      · rw [if_pos g1, List.singleton_append, atS]
        simp only
        by_cases g3 : pc < f ∧ x.From ≤ pc ∧ pc < x.To
        · rw [if_pos g3, if_pos (by split at hmin <;> omega)]
        · rw [if_neg g3, if_neg (by split at hmin <;> omega)]
      · rw [if_neg g1, List.nil_append, if_neg (by split at hmin <;> omega)]
    rw [List.append_assoc, ha, hb, ih, atS]
    by_cases g4 : f ≤ pc ∧ pc < t
    · rw [if_neg (by omega), if_neg (by omega), if_pos g4, if_pos g4]
    · rw [if_neg g4]
      by_cases g5 : x.From ≤ pc ∧ pc < x.To
      · rw [if_pos g5]
        by_cases g6 : pc < f
        · rw [if_pos ⟨g6, g5⟩, if_neg g4]
        · rw [if_neg (by omega), if_pos (by omega), if_neg g4]
      · rw [if_neg (by omega), if_neg (by omega), if_neg g5, if_neg g4]
theorem cutS_rt {f t : Int} {l : List Sp} (h : rtS 0 l = true) : rtS 0 (cutS f t l) = true := by
  unfold cutS
  split
  · exact h
  · exact cut_rt (by omega) h
theorem cutS_len {f t : Int} {l : List Sp} (h : rtS 0 l = true) : (cutS f t l).length ≤ l.length + 1 := by
  unfold cutS
  split
  · omega
  · exact (cut_len (by omega) h).1
theorem cutS_at {f t : Int} (l : List Sp) (pc : Int) : atS (cutS f t l) pc = if f ≤ pc ∧ pc < t then [] else atS l pc := by
  unfold cutS
  split
  · rw [if_neg (by omega)]
  · exact cut_at (by omega) pc l
theorem snoc_cases {α : Type} (l : List α) : l = [] ∨ ∃ a y, l = a ++ [y] := by
  rcases List.eq_nil_or_concat l with h | ⟨a, y, h⟩
  · exact .inl h
  · exact .inr ⟨a, y, by rw [h, List.concat_eq_append]⟩
def jn1 (acc : List Sp) (x : Sp) : List Sp := match acc.getLast? with
  | some y => if y.To = x.From ∧ y.At = x.At then acc.dropLast ++ [⟨y.From, x.To, y.At⟩] else acc ++ [x]
  | none => acc ++ [x]
theorem jn1_nil (x : Sp) : jn1 [] x = [x] := rfl
theorem jn1_snoc (a : List Sp) (y x : Sp) : jn1 (a ++ [y]) x = if y.To = x.From ∧ y.At = x.At then a ++ [⟨y.From, x.To, y.At⟩] else a ++ [y] ++ [x] := by
  unfold jn1
  simp
theorem EqualL_loop (l m : List Lc) (hl : l.length ≤ 1000000) (hlm : l.length = m.length) : ∀ (n i : Nat), i ≤ l.length → l.length - i < n → zT l m n (i : Int) = some (decide (l.drop i = m.drop i))
  | 0, i, _, h => by omega
  | n + 1, i, hi, h => by
    show zH _ l m (i : Int) = _
    unfold zH
    by_cases hlt : i < l.length
    · have hlt2 : i < m.length := by omega
      rw [decT (by omega), if_pos rfl, getI_lt hlt, Option.bind_some, getI_lt hlt2, Option.bind_some, lc_eq, List.drop_eq_getElem_cons hlt, List.drop_eq_getElem_cons hlt2]
      by_cases he : l[i] = m[i]
      · rw [decT he, if_neg (by simp), i64_succ (by omega), EqualL_loop l m hl hlm n (i + 1) (by omega) (by omega), he]
        congr 1
        rw [decide_eq_decide]
        exact ⟨fun h => by rw [h], fun h => by injection h⟩
      · rw [decF he, if_pos (by rfl), decF]
        intro h2
        injection h2 with h3 h4
        exact he h3
    · rw [decF (by omega), if_neg (by simp), List.drop_of_length_le (by omega), List.drop_of_length_le (by omega), decT rfl]
theorem zcp {l m : List Lc} (hl : l.length ≤ 1000000) : zZ l m = some (decide (l = m)) := by
  unfold zZ
  by_cases h : l.length = m.length
  · rw [bneF (by omega), if_neg (by simp)]
    exact EqualL_loop l m hl h big 0 (by omega) (big_gt (by omega))
  · rw [bneT (by omega), if_pos rfl, decF (fun e => h (by rw [e]))]
theorem Join_loop (l : List Sp) (hs : smS l) : ∀ (n i : Nat) (acc : List Sp), i ≤ l.length → l.length - i < n → acc.length ≤ i → (∀ x ∈ acc, x.At.length ≤ 1000000) → zi l n acc (i : Int) = some ((l.drop i).foldl jn1 acc)
  | 0, i, _, _, h, _, _ => by omega
  | n + 1, i, acc, hi, h, ha, hacc => by
    have hl := hs.1
    show zG _ l acc (i : Int) = _
    unfold zG
    by_cases hlt : i < l.length
    · have hr := hs.2 l[i] (List.getElem_mem hlt)
      rw [decT (by omega), if_pos rfl, getI_lt hlt, Option.bind_some, List.drop_eq_getElem_cons hlt, List.foldl_cons]
      rcases snoc_cases acc with h0 | ⟨a, y, h0⟩
      · subst h0
        rw [decF (by rw [wi64 (by simp)]; simp), if_neg (by simp), Option.bind_some, if_neg (by simp), Option.bind_some, if_neg (by simp), zI (x := ⟨l[i].From, l[i].To, l[i].At⟩) hr, Option.bind_some, room_ok (by simp), Option.bind_some, i64_succ (by omega), jn1_nil]
        refine Join_loop l hs n (i + 1) _ (by omega) (by omega) (by simp) ?_
        intro x hx
        rw [List.nil_append] at hx
        rw [List.mem_singleton.1 hx]
        exact hr
      · subst h0
        have hy : y.At.length ≤ 1000000 := hacc y (by simp)
        have hla : (a ++ [y]).length = a.length + 1 := by simp
        rw [hla] at ha
        have ew : IntKind.i64.wrap (((a ++ [y]).length : Int) - 1) = ((a.length : Nat) : Int) := by rw [hla, wi64 (by omega)]; omega
        have eg : getI (a ++ [y]) ((a.length : Nat) : Int) = some y := by rw [getI_cast, List.getElem?_append_right (by omega), Nat.sub_self]; rfl
        rw [ew, decT (by omega), if_pos rfl, eg, Option.bind_some, Option.bind_some, jn1_snoc]
        have fin : ∀ z : Sp, z.At.length ≤ 1000000 → zi l n (a ++ [z]) ((i + 1 : Nat) : Int) = some ((l.drop (i + 1)).foldl jn1 (a ++ [z])) := fun z hz => Join_loop l hs n (i + 1) _ (by omega) (by omega) (by simp; omega) fun x hx => by
          rcases List.mem_append.1 hx with hx | hx
          · exact hacc x (List.mem_append_left _ hx)
          · rw [List.mem_singleton.1 hx]; exact hz
        have fin2 : zi l n (a ++ [y] ++ [l[i]]) ((i + 1 : Nat) : Int) = some ((l.drop (i + 1)).foldl jn1 (a ++ [y] ++ [l[i]])) := Join_loop l hs n (i + 1) _ (by omega) (by omega) (by simp; omega) fun x hx => by
          rcases List.mem_append.1 hx with hx | hx
          · exact hacc x hx
          · rw [List.mem_singleton.1 hx]; exact hr
        by_cases h1 : y.To = l[i].From
        · rw [beqT h1, if_pos rfl, Option.bind_some, zcp hy, Option.bind_some, Option.bind_some]
          by_cases h2 : y.At = l[i].At
          · rw [decT h2, if_pos rfl, Option.bind_some, if_pos ⟨h1, h2⟩, i64_succ (by omega), Int.toNat_natCast]
            have es : (a ++ [y]).set a.length (⟨y.From, l[i].To, y.At⟩ : Sp) = a ++ [⟨y.From, l[i].To, y.At⟩] := by
              rw [List.set_append_right _ _ (by omega), Nat.sub_self]
              rfl
            rw [es]
            exact fin _ hy
          · rw [decF h2, if_neg (by simp), if_neg (fun h => h2 h.2), zI (x := ⟨l[i].From, l[i].To, l[i].At⟩) hr, Option.bind_some, room_ok (by omega), Option.bind_some, i64_succ (by omega)]
            exact fin2
        · rw [beqF h1, if_neg (by simp), Option.bind_some, if_neg (by simp), if_neg (fun h => h1 h.1), zI (x := ⟨l[i].From, l[i].To, l[i].At⟩) hr, Option.bind_some, room_ok (by omega), Option.bind_some, i64_succ (by omega)]
          exact fin2
    · rw [decF (by omega), if_neg (by simp), List.drop_of_length_le (by omega)]
      rfl
theorem zck {l : List Sp} (hs : smS l) : zC l = some (l.foldl jn1 []) := Join_loop l hs big 0 [] (by omega) (big_gt (by have := hs.1; omega)) (by simp) (by simp)
theorem join_rt {y x : Sp} {l : List Sp} (h1 : y.To = x.From) (h2 : y.At = x.At) : ∀ {a : List Sp} {r : Int}, rtS r (a ++ y :: x :: l) = true → rtS r (a ++ ⟨y.From, x.To, y.At⟩ :: l) = true
  | [], r, h => by
    obtain ⟨a1, a2, a3⟩ := rtS_cons h
    obtain ⟨b1, b2, b3⟩ := rtS_cons a3
    unfold okS at a1 b1
    exact rtS_mk (by unfold okS; simp only; omega) a2 b3
  | z :: a, r, h => by
    obtain ⟨a1, a2, a3⟩ := rtS_cons h
    exact rtS_mk a1 a2 (join_rt h1 h2 a3)
theorem join_at {y x : Sp} {l : List Sp} (h1 : y.To = x.From) (h2 : y.At = x.At) (pc : Int) : ∀ {a : List Sp} {r : Int}, rtS r (a ++ y :: x :: l) = true → atS (a ++ ⟨y.From, x.To, y.At⟩ :: l) pc = atS (a ++ y :: x :: l) pc
  | [], r, h => by
    obtain ⟨a1, a2, a3⟩ := rtS_cons h
    obtain ⟨b1, b2, b3⟩ := rtS_cons a3
    unfold okS at a1 b1
    simp only [List.nil_append, atS]
    by_cases g1 : y.From ≤ pc ∧ pc < y.To
    · rw [if_pos g1, if_pos (by omega)]
    · rw [if_neg g1]
      by_cases g2 : x.From ≤ pc ∧ pc < x.To
      · rw [if_pos g2, if_pos (by omega), h2]
      · rw [if_neg g2, if_neg (by omega)]
  | z :: a, r, h => by
    obtain ⟨a1, a2, a3⟩ := rtS_cons h
    rw [List.cons_append, List.cons_append, atS, atS, join_at h1 h2 pc a3]
theorem jn_prop : ∀ (l acc : List Sp), rtS 0 (acc ++ l) = true → rtS 0 (l.foldl jn1 acc) = true ∧ (l.foldl jn1 acc).length ≤ acc.length + l.length ∧ ∀ pc, atS (l.foldl jn1 acc) pc = atS (acc ++ l) pc
  | [], acc, h => by
    rw [List.append_nil] at h
    exact ⟨h, by simp, fun pc => by simp⟩
  | x :: l, acc, h => by
    rw [List.foldl_cons]
    have plain : jn1 acc x = acc ++ [x] → rtS 0 (l.foldl jn1 (jn1 acc x)) = true ∧ (l.foldl jn1 (jn1 acc x)).length ≤ acc.length + (x :: l).length ∧ ∀ pc, atS (l.foldl jn1 (jn1 acc x)) pc = atS (acc ++ x :: l) pc := by
      intro e
      rw [e]
      obtain ⟨i1, i2, i3⟩ := jn_prop l (acc ++ [x]) (by simpa using h)
      refine ⟨i1, by simp at i2 ⊢; omega, fun pc => ?_⟩
      rw [i3 pc]
      simp
    rcases snoc_cases acc with h0 | ⟨a, y, h0⟩
    · subst h0
      exact plain rfl
    · by_cases hj : y.To = x.From ∧ y.At = x.At
      · subst h0
        have e := jn1_snoc a y x
        rw [if_pos hj] at e
        rw [e]
        have h' : rtS 0 (a ++ y :: x :: l) = true := by simpa using h
        have h2 := join_rt hj.1 hj.2 h'
        obtain ⟨i1, i2, i3⟩ := jn_prop l (a ++ [⟨y.From, x.To, y.At⟩]) (by simpa using h2)
        refine ⟨i1, by simp at i2 ⊢; omega, fun pc => ?_⟩
        rw [i3 pc]
        have h3 := join_at hj.1 hj.2 pc h'
        simpa using h3
      · refine plain ?_
        subst h0
        rw [jn1_snoc, if_neg hj]
theorem rtS_sm {l : List Sp} (h : rtS 0 l = true) (hl : l.length ≤ 4000) : smS l ∧ St l = true ∧ ∀ x ∈ l, x.At.length ≤ 16 := by
  have hR := rtS_Rt h
  refine ⟨⟨by omega, fun x hx => ?_⟩, ?_, fun x hx => (Rt_ok (hR x hx)).2.1⟩
  · have := (Rt_ok (hR x hx)).2.1; omega
  · unfold St; rw [h, decT (by omega)]; rfl
theorem Cuts32 {l c j : List Sp} {f t : Int} (sl : smS l) (sc : smS c) (sj : smS j) (ll : ∀ x ∈ l, x.At.length ≤ 16) (hc : ∀ pc, atS c pc = if f ≤ pc ∧ pc < t then [] else atS l pc) (hj : ∀ pc, atS j pc = atS l pc) (p : List Int) (hp : p.length ≤ 1000000) : ∀ (n i : Nat), i ≤ p.length → p.length - i < n → zh l f t c j n p (i : Int) = some true
  | 0, i, _, h => by omega
  | n + 1, i, hi, h => by
    show zK _ l f t c j p (i : Int) = some true
    unfold zK
    by_cases hlt : i < p.length
    · have ih := Cuts32 sl sc sj ll hc hj p hp n (i + 1) (by omega) (by omega)
      have hk : zs (zh l f t c j n) j (i : Int) (atS l p[i]) p = some true := by
        unfold zs
        rw [getI_lt hlt, Option.bind_some, P_At sj, Option.bind_some, zb0 (by have := atS_len ll p[i]; omega), hj, decT rfl, Option.bind_some, Bool.not_true, if_neg (by simp), i64_succ (by omega)]
        exact ih
      rw [decT (by omega), if_pos rfl, getI_lt hlt]
      simp only [Option.bind_some, P_At sl, P_At sc]
      by_cases g : f ≤ p[i] ∧ p[i] < t
      · rw [decT g.1, if_pos rfl, decT g.2, Option.bind_some, if_pos rfl, hc, if_pos g, bneF (by simp), if_neg (by simp)]
        exact hk
      · have e : ((if decide (f ≤ p[i]) = true then some (decide (p[i] < t)) else some false) : Option Bool) = some false := by
          by_cases g1 : f ≤ p[i]
          · rw [decT g1, if_pos rfl, decF (fun h => g ⟨g1, h⟩)]
          · rw [decF g1, if_neg (by simp)]
        rw [e, Option.bind_some, if_neg (by simp), hc, if_neg g, zb0 (by have := atS_len ll p[i]; omega), decT rfl, Option.bind_some, Bool.not_true, if_neg (by simp)]
        exact hk
    · rw [decF (by omega), if_neg (by simp), zbM]
      rfl
theorem Cuts28 {l c j : List Sp} {f t : Int} (hl : l.length ≤ 500) (sl : smS l) (sc : smS c) (sj : smS j) (ll : ∀ x ∈ l, x.At.length ≤ 16) (hc : ∀ pc, atS c pc = if f ≤ pc ∧ pc < t then [] else atS l pc) (hj : ∀ pc, atS j pc = atS l pc) : ∀ (n i : Nat) (p : List Int), i ≤ l.length → l.length - i < n → p.length ≤ 100 + 4 * i → zE l f t c j n p (i : Int) = some true
  | 0, i, _, _, h, _ => by omega
  | n + 1, i, p, hi, h, hp => by
    show zX _ l f t c j p (i : Int) = some true
    unfold zX
    by_cases hlt : i < l.length
    · rw [decT (by omega), if_pos rfl, getI_lt hlt]
      simp only [Option.bind_some]
      rw [room_ok (by simp; omega), Option.bind_some, room_ok (by simp; omega), Option.bind_some, i64_succ (by omega)]
      exact Cuts28 hl sl sc sj ll hc hj n (i + 1) _ (by omega) (by omega) (by simp; omega)
    · rw [decF (by omega), if_neg (by simp), room_ok (by simp; omega), Option.bind_some, room_ok (by simp; omega), Option.bind_some]
      exact Cuts32 sl sc sj ll hc hj _ (by simp; omega) big 0 (by omega) (big_gt (by simp; omega))
theorem zcj (p0 : List Sp) (p1 p2 : Int) (p3 : List Int) (hm : p0.length ≤ maxLen) : zbs p0 p1 p2 p3 = some true := by
  unfold zbs
  obtain ⟨v, hv, hv2⟩ := zcI hm
  rw [hv, Option.bind_some]
  by_cases hb : (v = true ∨ (p3.length : Int) > 100) ∨ (p0.length : Int) > 500
  · rw [if_pos (by simpa using hb), Option.bind_some, if_pos rfl, zbM]; rfl
  · have hv0 : v = false := by
      cases v
      · rfl
      · exact absurd (.inl (.inl rfl)) hb
    obtain ⟨h5, h6⟩ := hv2 hv0
    have hs : smS p0 := ⟨by omega, fun x hx => by have := h6 x hx; omega⟩
    rw [if_neg (by simpa using hb), zbK hs, Option.bind_some, Option.bind_some]
    cases hu : St p0
    · rw [Bool.not_false, if_pos rfl, zbM]; rfl
    · have hu' := hu
      unfold St at hu'
      simp only [Bool.and_eq_true, decide_eq_true_eq] at hu'
      have hc1 := cutS_rt (f := p1) (t := p2) hu'.1
      have hc2 := cutS_len (f := p1) (t := p2) hu'.1
      obtain ⟨j1, j2, j3⟩ := jn_prop p0 [] (by simpa using hu'.1)
      rw [List.length_nil, Nat.zero_add] at j2
      obtain ⟨sc, tc, -⟩ := rtS_sm hc1 (by omega)
      obtain ⟨sj, tj, -⟩ := rtS_sm j1 (by omega)
      obtain ⟨-, -, ll⟩ := rtS_sm hu'.1 (by omega)
      rw [Bool.not_true, if_neg (by simp), zcx hs, Option.bind_some, zcG hs (by omega), Option.bind_some, Option.bind_some, zck hs, Option.bind_some, zbK sc, Option.bind_some, tc, Bool.not_true, if_neg (by simp), zbK sj, Option.bind_some, tj, Option.bind_some, Bool.not_true, i64_succ (by omega), decF (by omega), decF (by omega), Bool.or_self, Bool.or_self, if_neg (by simp)]
      exact Cuts28 (by omega) hs sc sj ll (fun pc => cutS_at p0 pc) (fun pc => by rw [j3 pc]; rfl) big 0 p3 (by omega) (big_gt (by omega)) (by omega)
end Go.Proofs.Ytjcehfjmmbbblaa
