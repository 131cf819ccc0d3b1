import Derived.Test.YtjcehfjmmbbblaaP_07c
namespace Go.Proofs.Ytjcehfjmmbbblaa
open Go.Ab Go.RowKit
set_option linter.unusedVariables false
set_option linter.unusedSimpArgs false
def atS : List Sp → Int → List Lc
 | [], _ => []
 | x :: l, pc => if x.From ≤ pc ∧ pc < x.To then x.At else atS l pc
theorem zhM {l : List Lc} (h : l.length ≤ 1000000) : zcy l = some l := by
 unfold zcy
 rw [zbv (by omega), Option.bind_some]
theorem zhJ (l : List Sp) (hs : smS l) (pc : Int) : ∀ (n i : Nat), i ≤ l.length → l.length - i < n → zdT l pc n (i : Int) = some (atS (l.drop i) pc)
 | 0, i, _, h => by omega
 | n + 1, i, hi, h => by
  have hl := hs.1
  show zd2 _ l pc (i : Int) = _
  unfold zd2
  by_cases hlt : i < l.length
  ·have hr := hs.2 l[i] (List.getElem_mem hlt)
   rw [zK (by omega), if_pos rfl, zbd hlt, Option.bind_some, List.drop_eq_getElem_cons hlt, atS]
   by_cases hc : l[i].From ≤ pc ∧ pc < l[i].To
   ·rw [if_pos hc, zK hc.1, zK hc.2, Bool.and_self, if_pos rfl, zhM hr, Option.bind_some]
   ·rw [if_neg hc, if_neg (by simpa using hc), z5 (by omega), zhJ l hs pc n (i + 1) (by omega) (by omega)]
  ·rw [zX (by omega), if_neg (by simp), List.drop_of_length_le (by omega), atS]
theorem zio {l : List Sp} (hs : smS l) (pc : Int) : zdA l pc = some (atS l pc) := zhJ l hs pc big 0 (by omega) (zbk (by have := hs.1; omega))
theorem zd7 {x : Sp} (h : x.At.length ≤ 1000000) : zcD x = some x := by
 unfold zcD
 rw [zhM h, Option.bind_some]
theorem zf2 {x : Sp} {out : List Sp} (h : x.At.length ≤ 1000000) (ho : out.length ≤ 1000000) : zcw x out = some (true, out ++ [x]) := by
 unfold zcw
 rw [zd7 (x := ⟨x.From, x.To, x.At⟩) h, Option.bind_some, zbv (by simp; omega), Option.bind_some]
def pc1 (f t : Int) (x : Sp) : List Sp := if x.From ≥ x.To then [] else (if x.From < zW x.To f then [⟨x.From, zW x.To f, x.At⟩] else []) ++ (if zS x.From t < x.To then [⟨zS x.From t, x.To, x.At⟩] else [])
theorem zg3 (l : List Sp) (hs : smS l) (f t : Int) : ∀ (n i : Nat) (acc : List Sp), i ≤ l.length → l.length - i < n → l.length ≤ 100000 → acc.length ≤ 2 * i → zca l f t n acc (i : Int) = some (acc ++ (l.drop i).flatMap (pc1 f t))
 | 0, i, _, _, h, _, _ => by omega
 | n + 1, i, acc, hi, h, hl, ha => by
  show zc9 _ l f t acc (i : Int) = _
  unfold zc9
  by_cases hlt : i < l.length
  ·have hr := hs.2 l[i] (List.getElem_mem hlt)
   have ih := fun acc' (ha' : acc'.length ≤ 2 * (i + 1)) => zg3 l hs f t n (i + 1) acc' (by omega) (by omega) hl ha'
   rw [zK (by omega), if_pos rfl, zbd hlt, Option.bind_some, List.drop_eq_getElem_cons hlt, List.flatMap_cons]
   by_cases h0 : l[i].From ≥ l[i].To
   ·rw [zK h0, if_pos rfl, z5 (by omega), ih acc (by omega), pc1, if_pos h0, List.nil_append]
   ·rw [zX h0, if_neg (by simp), pc1, if_neg h0]
    unfold zeW
    by_cases h1 : l[i].From < zW l[i].To f
    ·rw [zK h1, if_pos rfl, if_pos h1, zf2 (by simpa using hr) (by omega), Option.bind_some]
     simp only
     rw [Bool.not_true, if_neg (by simp)]
     by_cases h2 : zS l[i].From t < l[i].To
     ·rw [zK h2, if_pos rfl, if_pos h2, zf2 (by simpa using hr) (by simp; omega), Option.bind_some]
      simp only
      rw [Bool.not_true, if_neg (by simp), z5 (by omega), ih _ (by simp; omega)]
      simp
     ·rw [zX h2, if_neg (by simp), if_neg h2, z5 (by omega), ih _ (by simp; omega)]
      simp
    ·rw [zX h1, if_neg (by simp), if_neg h1, if_neg (by simp)]
     by_cases h2 : zS l[i].From t < l[i].To
     ·rw [zK h2, if_pos rfl, if_pos h2, zf2 (by simpa using hr) (by omega), Option.bind_some]
      simp only
      rw [Bool.not_true, if_neg (by simp), z5 (by omega), ih _ (by simp; omega)]
      simp
     ·rw [zX h2, if_neg (by simp), if_neg h2, z5 (by omega), ih _ (by omega)]
      simp
  ·rw [zX (by omega), if_neg (by simp), List.drop_of_length_le (by omega), List.flatMap_nil, List.append_nil]
theorem zhd (l : List Sp) (hs : smS l) : ∀ (n i : Nat) (acc : List Sp), i ≤ l.length → l.length - i < n → acc.length ≤ i → zcG l n acc (i : Int) = some (acc ++ l.drop i)
 | 0, i, _, _, h, _ => by omega
 | n + 1, i, acc, hi, h, ha => by
  have hl := hs.1
  show zc8 _ l acc (i : Int) = _
  unfold zc8
  by_cases hlt : i < l.length
  ·have hr := hs.2 l[i] (List.getElem_mem hlt)
   rw [zK (by omega), if_pos rfl, zbd hlt, Option.bind_some, zd7 (x := ⟨l[i].From, l[i].To, l[i].At⟩) hr, Option.bind_some, zbv (by simp; omega), Option.bind_some, z5 (by omega), zhd l hs n (i + 1) _ (by omega) (by omega) (by simp; omega), List.drop_eq_getElem_cons hlt, List.append_assoc]
   rfl
  ·rw [zX (by omega), if_neg (by simp), List.drop_of_length_le (by omega), List.append_nil]
def zcR (f t : Int) (l : List Sp) : List Sp := if f ≥ t then l else l.flatMap (pc1 f t)
theorem ziV {l : List Sp} (hs : smS l) (hl : l.length ≤ 100000) (f t : Int) : zcO l f t = some (zcR f t l) := by
 unfold zcO zcR
 by_cases h : f ≥ t
 ·rw [zK h, if_pos rfl, if_pos h]
  exact zhd l hs big 0 [] (by omega) (zbk (by omega)) (by simp)
 ·rw [zX h, if_neg (by simp), if_neg h]
  exact zg3 l hs f t big 0 [] (by omega) (zbk (by omega)) hl (by simp)
theorem zgl {α : Type} (l : List α) : l = [] ∨ ∃ a y, l = a ++ [y] := by
 rcases List.eq_nil_or_concat l with h | ⟨a, y, h⟩
 ·exact .inl h
 ·exact .inr ⟨a, y, by rw [h, List.concat_eq_append]⟩
def jn1 (acc : List Sp) (x : Sp) : List Sp := match acc.getLast? with
 | some y => if y.To = x.From ∧ y.At = x.At then acc.dropLast ++ [⟨y.From, x.To, y.At⟩] else acc ++ [x]
 | none => acc ++ [x]
theorem zgJ (x : Sp) : jn1 [] x = [x] := rfl
theorem zfK (a : List Sp) (y x : Sp) : jn1 (a ++ [y]) x = if y.To = x.From ∧ y.At = x.At then a ++ [⟨y.From, x.To, y.At⟩] else a ++ [y] ++ [x] := by
 unfold jn1
 simp
theorem zhZ (l m : List Lc) (hl : l.length ≤ 1000000) (hlm : l.length = m.length) : ∀ (n i : Nat), i ≤ l.length → l.length - i < n → zdU l m n (i : Int) = some (decide (l.drop i = m.drop i))
 | 0, i, _, h => by omega
 | n + 1, i, hi, h => by
  show zdr _ l m (i : Int) = _
  unfold zdr
  by_cases hlt : i < l.length
  ·have hlt2 : i < m.length := by omega
   rw [zK (by omega), if_pos rfl, zbd hlt, Option.bind_some, zbd hlt2, Option.bind_some, zhY, List.drop_eq_getElem_cons hlt, List.drop_eq_getElem_cons hlt2]
   by_cases he : l[i] = m[i]
   ·rw [zK he, if_neg (by simp), z5 (by omega), zhZ l m hl hlm n (i + 1) (by omega) (by omega), he]
    congr 1
    rw [decide_eq_decide]
    exact ⟨fun h => by rw [h], fun h => by injection h⟩
   ·rw [zX he, if_pos (by rfl), zX]
    intro h2
    injection h2 with h3 h4
    exact he h3
  ·rw [zX (by omega), if_neg (by simp), List.drop_of_length_le (by omega), List.drop_of_length_le (by omega), zK rfl]
theorem zjo {l m : List Lc} (hl : l.length ≤ 1000000) : zcZ l m = some (decide (l = m)) := by
 unfold zcZ
 by_cases h : l.length = m.length
 ·rw [zec (by omega), if_neg (by simp)]
  exact zhZ l m hl h big 0 (by omega) (zbk (by omega))
 ·rw [zdt (by omega), if_pos rfl, zX (fun e => h (by rw [e]))]
theorem zed (l : List Sp) (hs : smS l) : ∀ (n i : Nat) (acc : List Sp), i ≤ l.length → l.length - i < n → acc.length ≤ i → (∀ x ∈ acc, x.At.length ≤ 1000000) → zb3 l n acc (i : Int) = some ((l.drop i).foldl jn1 acc)
 | 0, i, _, _, h, _, _ => by omega
 | n + 1, i, acc, hi, h, ha, hacc => by
  have hl := hs.1
  show zcX _ l acc (i : Int) = _
  unfold zcX
  by_cases hlt : i < l.length
  ·have hr := hs.2 l[i] (List.getElem_mem hlt)
   rw [zK (by omega), if_pos rfl, zbd hlt, Option.bind_some, List.drop_eq_getElem_cons hlt, List.foldl_cons]
   rcases zgl acc with h0 | ⟨a, y, h0⟩
   ·subst h0
    rw [zX (by rw [zdb (by simp)]; simp), if_neg (by simp), Option.bind_some, if_neg (by simp), Option.bind_some, if_neg (by simp), zd7 (x := ⟨l[i].From, l[i].To, l[i].At⟩) hr, Option.bind_some, zbv (by simp), Option.bind_some, z5 (by omega), zgJ]
    refine zed l hs n (i + 1) _ (by omega) (by omega) (by simp) ?_
    intro x hx
    rw [List.nil_append] at hx
    rw [List.mem_singleton.1 hx]
    exact hr
   ·subst h0
    have hy : y.At.length ≤ 1000000 := hacc y (by simp)
    have hla : (a ++ [y]).length = a.length + 1 := by simp
    rw [hla] at ha
    have ew : IntKind.i64.wrap (((a ++ [y]).length : Int) - 1) = ((a.length : Nat) : Int) := by rw [hla, zdb (by omega)]; omega
    have eg : zn (a ++ [y]) ((a.length : Nat) : Int) = some y := by rw [zfk, List.getElem?_append_right (by omega), Nat.sub_self]; rfl
    rw [ew, zK (by omega), if_pos rfl, eg, Option.bind_some, Option.bind_some, zfK]
    have fin : ∀ z : Sp, z.At.length ≤ 1000000 → zb3 l n (a ++ [z]) ((i + 1 : Nat) : Int) = some ((l.drop (i + 1)).foldl jn1 (a ++ [z])) := fun z hz => zed l hs n (i + 1) _ (by omega) (by omega) (by simp; omega) fun x hx => by
     rcases List.mem_append.1 hx with hx | hx
     ·exact hacc x (List.mem_append_left _ hx)
     ·rw [List.mem_singleton.1 hx]; exact hz
    have fin2 : zb3 l n (a ++ [y] ++ [l[i]]) ((i + 1 : Nat) : Int) = some ((l.drop (i + 1)).foldl jn1 (a ++ [y] ++ [l[i]])) := zed l hs n (i + 1) _ (by omega) (by omega) (by simp; omega) fun x hx => by
     rcases List.mem_append.1 hx with hx | hx
     ·exact hacc x hx
     ·rw [List.mem_singleton.1 hx]; exact hr
    by_cases h1 : y.To = l[i].From
    ·rw [zhD h1, if_pos rfl, Option.bind_some, zjo hy, Option.bind_some, Option.bind_some]
     by_cases h2 : y.At = l[i].At
     ·rw [zK h2, if_pos rfl, Option.bind_some, if_pos ⟨h1, h2⟩, z5 (by omega), Int.toNat_natCast]
      have es : (a ++ [y]).set a.length (⟨y.From, l[i].To, y.At⟩ : Sp) = a ++ [⟨y.From, l[i].To, y.At⟩] := by
       rw [List.set_append_right _ _ (by omega), Nat.sub_self]
       rfl
      rw [es]
      exact fin _ hy
     ·rw [zX h2, if_neg (by simp), if_neg (fun h => h2 h.2), zd7 (x := ⟨l[i].From, l[i].To, l[i].At⟩) hr, Option.bind_some, zbv (by omega), Option.bind_some, z5 (by omega)]
      exact fin2
    ·rw [zhc h1, if_neg (by simp), Option.bind_some, if_neg (by simp), if_neg (fun h => h1 h.1), zd7 (x := ⟨l[i].From, l[i].To, l[i].At⟩) hr, Option.bind_some, zbv (by omega), Option.bind_some, z5 (by omega)]
     exact fin2
  ·rw [zX (by omega), if_neg (by simp), List.drop_of_length_le (by omega)]
   rfl
theorem zjd {l : List Sp} (hs : smS l) : zc4 l = some (l.foldl jn1 []) := zed l hs big 0 [] (by omega) (zbk (by have := hs.1; omega)) (by simp) (by simp)
end Go.Proofs.Ytjcehfjmmbbblaa
