import Derived.Test.YtjcehfjmmbbblaaP_07d
namespace Go.Proofs.Ytjcehfjmmbbblaa
open Go.Ab Go.RowKit
set_option linter.unusedVariables false
set_option linter.unusedSimpArgs false
theorem zgL (l : List Sp) (f t : Int) : ∀ (n : Nat), zcz l f t n = zca l f t n
 | 0 => rfl
 | n + 1 => by
  funext acc i
  show zff (zcz l f t n) l f t acc i = zc9 (zca l f t n) l f t acc i
  rw [zgL l f t n]
  rfl
theorem zgY (l : List Sp) : ∀ (n : Nat), zc0 l n = zcG l n
 | 0 => rfl
 | n + 1 => by
  funext acc i
  show zeP (zc0 l n) l acc i = zc8 (zcG l n) l acc i
  rw [zgY l n]
  rfl
theorem zic (l : List Sp) (f t : Int) : zdF l f t = zcO l f t := by
 unfold zdF zcO zer zeS
 rw [zgL, zgY]
theorem zh7 (l : List Sp) : ∀ (n : Nat), zdg l n = zb3 l n
 | 0 => rfl
 | n + 1 => by
  funext acc i
  show zew (zdg l n) l acc i = zcX (zb3 l n) l acc i
  rw [zh7 l n]
  rfl
theorem zjG (l : List Sp) : zdx l = zc4 l := by
 unfold zdx zc4
 rw [zh7]
theorem zgX (l : List Sp) (hs : smS l) : ∀ (n i : Nat) (acc : List Sp), i ≤ l.length → l.length - i < n → acc.length ≤ i → zdk l n acc (i : Int) = some (acc ++ l.drop i)
 | 0, i, _, _, h, _ => by omega
 | n + 1, i, acc, hi, h, ha => by
  have hl := hs.1
  show zdm _ l acc (i : Int) = _
  unfold zdm
  by_cases hlt : i < l.length
  ·have hr := hs.2 l[i] (List.getElem_mem hlt)
   rw [zK (by omega), if_pos rfl, zbd hlt]
   simp only [Option.bind_some]
   rw [zdc (by omega), Option.bind_some, zbv (by omega), Option.bind_some, z5 (by omega), zgX l hs n (i + 1) _ (by omega) (by omega) (by simp; omega), List.drop_eq_getElem_cons hlt, List.append_assoc]
   rfl
  ·rw [zX (by omega), if_neg (by simp), List.drop_of_length_le (by omega), List.append_nil]
theorem ziy {l : List Sp} (hs : smS l) : ze9 l = some l := zgX l hs big 0 [] (by omega) (zbk (by have := hs.1; omega)) (by simp)
theorem zfC (l : List Sp) (hs : smS l) (pc : Int) : ∀ (n i : Nat), i ≤ l.length → l.length - i < n → zdD l pc n (i : Int) = some (atS (l.drop i) pc)
 | 0, i, _, h => by omega
 | n + 1, i, hi, h => by
  have hl := hs.1
  show zdQ _ l pc (i : Int) = _
  unfold zdQ
  by_cases hlt : i < l.length
  ·have hr := hs.2 l[i] (List.getElem_mem hlt)
   rw [zK (by omega), if_pos rfl, zbd hlt, Option.bind_some, List.drop_eq_getElem_cons hlt, atS]
   by_cases h1 : l[i].From ≤ pc
   ·rw [zK h1, if_pos rfl, Option.bind_some, Option.bind_some]
    by_cases h2 : pc < l[i].To
    ·rw [zK h2, if_pos rfl, if_pos ⟨h1, h2⟩, Option.bind_some, zdc (by omega), Option.bind_some]
    ·rw [zX h2, if_neg (by simp), if_neg (fun h => h2 h.2), z5 (by omega), zfC l hs pc n (i + 1) (by omega) (by omega)]
   ·rw [zX h1, if_neg (by simp), Option.bind_some, if_neg (by simp), if_neg (fun h => h1 h.1), z5 (by omega), zfC l hs pc n (i + 1) (by omega) (by omega)]
  ·rw [zX (by omega), if_neg (by simp), List.drop_of_length_le (by omega), atS]
theorem zjx {l : List Sp} (hs : smS l) (pc : Int) : zek l pc = some (atS l pc) := zfC l hs pc big 0 (by omega) (zbk (by have := hs.1; omega))
theorem zhK (l : List Sp) (hs : smS l) (f t : Int) : ∀ (n i : Nat) (acc : List Sp), i ≤ l.length → l.length - i < n → l.length ≤ 100000 → acc.length ≤ 2 * i → (∀ x ∈ acc, x.At.length ≤ 1000000) → zcQ l f t n acc (i : Int) = some (acc ++ (l.drop i).flatMap (pc1 f t))
 | 0, i, _, _, h, _, _, _ => by omega
 | n + 1, i, acc, hi, h, hl, ha, hacc => by
  show zdM _ l f t acc (i : Int) = _
  unfold zdM
  by_cases hlt : i < l.length
  ·have hr := hs.2 l[i] (List.getElem_mem hlt)
   have ih := fun acc' (ha' : acc'.length ≤ 2 * (i + 1)) (hacc' : ∀ x ∈ acc', x.At.length ≤ 1000000) => zhK l hs f t n (i + 1) acc' (by omega) (by omega) hl ha' hacc'
   have add : ∀ (acc' : List Sp) (x : Sp), (∀ x ∈ acc', x.At.length ≤ 1000000) → x.At.length ≤ 1000000 → ∀ y ∈ acc' ++ [x], y.At.length ≤ 1000000 := fun acc' x h1 h2 y hy => by
    rcases List.mem_append.1 hy with hy | hy
    ·exact h1 y hy
    ·rw [List.mem_singleton.1 hy]; exact h2
   have k11 : ∀ (acc' : List Sp), acc'.length ≤ 2 * i + 1 → (∀ x ∈ acc', x.At.length ≤ 1000000) → zde (zcQ l f t n) t (i : Int) l[i] acc' = some (acc' ++ (if l[i].From < l[i].To ∧ zS l[i].From t < l[i].To then [⟨zS l[i].From t, l[i].To, l[i].At⟩] else []) ++ (l.drop (i + 1)).flatMap (pc1 f t)) := fun acc' h1 h2 => by
    unfold zde
    by_cases h3 : l[i].From < l[i].To ∧ l[i].To > t
    ·have h4 : zS l[i].From t < l[i].To := by unfold zS; split <;> omega
     rw [zK h3.1, zK h3.2, Bool.and_self, if_pos rfl, if_pos ⟨h3.1, h4⟩, zbv (by omega), Option.bind_some, z5 (by omega), ih _ (by simp; omega) (add _ (⟨zS l[i].From t, l[i].To, l[i].At⟩ : Sp) h2 hr)]
    ·have h4 : ¬ (l[i].From < l[i].To ∧ zS l[i].From t < l[i].To) := by unfold zS; split <;> omega
     rw [if_neg (by simpa using h3), if_neg h4, z5 (by omega), ih _ (by omega) h2, List.append_nil]
   rw [zK (by omega), if_pos rfl, zbd hlt, Option.bind_some, List.drop_eq_getElem_cons hlt, List.flatMap_cons, pc1]
   by_cases h1 : l[i].From < l[i].To ∧ l[i].From < f
   ·have h4 : l[i].From < zW l[i].To f := by unfold zW; split <;> omega
    rw [zK h1.1, zK h1.2, Bool.and_self, if_pos rfl, zbv (by omega), Option.bind_some, k11 _ (by simp; omega) (add _ (⟨l[i].From, zW l[i].To f, l[i].At⟩ : Sp) hacc hr), if_neg (show ¬ l[i].From ≥ l[i].To by omega), if_pos h4]
    simp only [h1.1, true_and, List.append_assoc]
   ·rw [if_neg (by simpa using h1), k11 _ (by omega) hacc]
    by_cases h2 : l[i].From ≥ l[i].To
    ·rw [if_pos h2, if_neg (fun h => by omega), List.append_nil, List.nil_append]
    ·have h4 : ¬ l[i].From < zW l[i].To f := by unfold zW; split <;> omega
     rw [if_neg h2, if_neg h4, List.nil_append, List.append_assoc]
     simp only [show l[i].From < l[i].To from by omega, true_and]
  ·have hsa : smS acc := ⟨by omega, hacc⟩
   rw [zX (by omega), if_neg (by simp), List.drop_of_length_le (by omega), zhb hsa, List.flatMap_nil, List.append_nil]
   rfl
theorem ziA {l : List Sp} (hs : smS l) (hl : l.length ≤ 100000) (f t : Int) : zeb l f t = some (zcR f t l) := by
 unfold zeb zcR
 by_cases h : f ≥ t
 ·rw [zK h, if_pos rfl, if_pos h, zhb hs]
  rfl
 ·rw [zX h, if_neg (by simp), if_neg h]
  exact zhK l hs f t big 0 [] (by omega) (zbk (by omega)) hl (by simp) (by simp)
theorem zeg (l : List Sp) (hs : smS l) : ∀ (n i : Nat) (acc : List Sp), i ≤ l.length → l.length - i < n → acc.length ≤ i → (∀ x ∈ acc, x.At.length ≤ 1000000) → zcA l n acc (i : Int) = some ((l.drop i).foldl jn1 acc)
 | 0, i, _, _, h, _, _ => by omega
 | n + 1, i, acc, hi, h, ha, hacc => by
  have hl := hs.1
  show zd4 _ l acc (i : Int) = _
  unfold zd4
  by_cases hlt : i < l.length
  ·have hr := hs.2 l[i] (List.getElem_mem hlt)
   rw [zK (by omega), if_pos rfl, zbd hlt]
   simp only [Option.bind_some]
   rw [List.drop_eq_getElem_cons hlt, List.foldl_cons]
   rcases zgl acc with h0 | ⟨a, y, h0⟩
   ·subst h0
    rw [zX (by rw [zdb (by simp)]; simp), if_neg (by simp), Option.bind_some, if_neg (by simp), Option.bind_some, if_neg (by simp), zdc (by omega), Option.bind_some, zbv (by simp), Option.bind_some, z5 (by omega), zgJ]
    refine zeg l hs n (i + 1) _ (by omega) (by omega) (by simp) ?_
    intro x hx
    rw [List.nil_append] at hx
    rw [List.mem_singleton.1 hx]
    exact hr
   ·subst h0
    have hy : y.At.length ≤ 1000000 := hacc y (by simp)
    have hla : (a ++ [y]).length = a.length + 1 := by simp
    rw [hla] at ha
    have ew : IntKind.i64.wrap (((a ++ [y]).length : Int) - 1) = ((a.length : Nat) : Int) := by rw [hla, zdb (by omega)]; omega
    have eg : zn (a ++ [y]) ((a.length : Nat) : Int) = some y := by rw [zfk, List.getElem?_append_right (by omega), Nat.sub_self]; rfl
    rw [ew, zK (by omega), if_pos rfl, eg]
    simp only [Option.bind_some]
    rw [zfK]
    have fin : ∀ z : Sp, z.At.length ≤ 1000000 → zcA l n (a ++ [z]) ((i + 1 : Nat) : Int) = some ((l.drop (i + 1)).foldl jn1 (a ++ [z])) := fun z hz => zeg l hs n (i + 1) _ (by omega) (by omega) (by simp; omega) fun x hx => by
     rcases List.mem_append.1 hx with hx | hx
     ·exact hacc x (List.mem_append_left _ hx)
     ·rw [List.mem_singleton.1 hx]; exact hz
    have fin2 : zcA l n (a ++ [y] ++ [l[i]]) ((i + 1 : Nat) : Int) = some ((l.drop (i + 1)).foldl jn1 (a ++ [y] ++ [l[i]])) := zeg l hs n (i + 1) _ (by omega) (by omega) (by simp; omega) fun x hx => by
     rcases List.mem_append.1 hx with hx | hx
     ·exact hacc x hx
     ·rw [List.mem_singleton.1 hx]; exact hr
    by_cases h1 : y.To = l[i].From
    ·rw [zhD h1, if_pos rfl, zgg hy]
     simp only [Option.bind_some]
     by_cases h2 : y.At = l[i].At
     ·rw [zK h2, if_pos rfl, if_pos ⟨h1, h2⟩, z5 (by omega), Int.toNat_natCast]
      have es : (a ++ [y]).set a.length (⟨y.From, l[i].To, y.At⟩ : Sp) = a ++ [⟨y.From, l[i].To, y.At⟩] := by
       rw [List.set_append_right _ _ (by omega), Nat.sub_self]
       rfl
      rw [es]
      exact fin _ hy
     ·rw [zX h2, if_neg (by simp), if_neg (fun h => h2 h.2), zdc (by omega), Option.bind_some, zbv (by omega), Option.bind_some, z5 (by omega)]
      exact fin2
    ·rw [zhc h1, if_neg (by simp), Option.bind_some, if_neg (by simp), if_neg (fun h => h1 h.1), zdc (by omega), Option.bind_some, zbv (by omega), Option.bind_some, z5 (by omega)]
     exact fin2
  ·rw [zX (by omega), if_neg (by simp), List.drop_of_length_le (by omega)]
   rfl
theorem ziY {l : List Sp} (hs : smS l) : ze5 l = some (l.foldl jn1 []) := zeg l hs big 0 [] (by omega) (zbk (by have := hs.1; omega)) (by simp) (by simp)
theorem zfh {l : List Sp} {i : Nat} (hi : i < l.length) (v : Sp) (hv : v.At.length ≤ 1000000) (hl : ∀ x ∈ l, x.At.length ≤ 1000000) : (l.set i v).length = l.length ∧ (∀ x ∈ l.set i v, x.At.length ≤ 1000000) ∧ (l.set i v)[i]'(by simpa using hi) = v := by
 refine ⟨List.length_set, fun x hx => ?_, List.getElem_set_self _⟩
 rcases List.mem_or_eq_of_mem_set hx with h | h
 ·exact hl x h
 ·rw [h]; exact hv
theorem zhm (rec : List Sp → Int → Option Bool) (i : Nat) (hi2 : i < 9000000) : ∀ (n k : Nat) (j : List Sp) (hi : i < j.length), k ≤ j[i].At.length → j[i].At.length - k < n → (∀ x ∈ j, x.At.length ≤ 1000000) →
  ∃ j', j'.length = j.length ∧ (∀ x ∈ j', x.At.length ≤ 1000000) ∧ zdh rec (i : Int) n j (k : Int) = rec j' ((i + 1 : Nat) : Int)
 | 0, k, j, hi, _, h, _ => by omega
 | n + 1, k, j, hi, hk, h, hj => by
  have ha := hj _ (List.getElem_mem hi)
  show ∃ j', _ ∧ _ ∧ zdj _ rec (i : Int) j (k : Int) = _
  unfold zdj
  rw [zbd hi, Option.bind_some]
  by_cases hlt : k < j[i].At.length
  ·rw [zK (by omega), if_pos rfl, Option.bind_some, zbd hlt, Option.bind_some, Option.bind_some, z5 (by omega), Int.toNat_natCast, Int.toNat_natCast]
   obtain ⟨s1, s2, s3⟩ := zfh hi (⟨j[i].From, j[i].To, j[i].At.set k ⟨j[i].At[k].Kind, IntKind.i64.wrap (j[i].At[k].N + 1)⟩⟩ : Sp) (by simpa using ha) hj
   obtain ⟨j', h1, h2, h3⟩ := zhm rec i hi2 n (k + 1) _ (by rw [s1]; exact hi) (by rw [s3]; simp; omega) (by rw [s3]; simp; omega) s2
   exact ⟨j', h1.trans s1, h2, h3⟩
  ·rw [zX (by omega), if_neg (by simp), z5 (by omega)]
   exact ⟨j, rfl, hj, rfl⟩
theorem zhn (rec : List Sp → List Sp → Int → Option Bool) (d : List Sp) (i : Nat) (hi2 : i < 9000000) : ∀ (n k : Nat) (j : List Sp) (hi : i < j.length), k ≤ j[i].At.length → j[i].At.length - k < n → (∀ x ∈ j, x.At.length ≤ 1000000) →
  ∃ j', j'.length = j.length ∧ (∀ x ∈ j', x.At.length ≤ 1000000) ∧ zdO rec (i : Int) n j d (k : Int) = rec j' d ((i + 1 : Nat) : Int)
 | 0, k, j, hi, _, h, _ => by omega
 | n + 1, k, j, hi, hk, h, hj => by
  have ha := hj _ (List.getElem_mem hi)
  show ∃ j', _ ∧ _ ∧ zdy _ rec (i : Int) j d (k : Int) = _
  unfold zdy
  rw [zbd hi, Option.bind_some]
  by_cases hlt : k < j[i].At.length
  ·rw [zK (by omega), if_pos rfl, Option.bind_some, zbd hlt, Option.bind_some, Option.bind_some, z5 (by omega), Int.toNat_natCast, Int.toNat_natCast]
   obtain ⟨s1, s2, s3⟩ := zfh hi (⟨j[i].From, j[i].To, j[i].At.set k ⟨j[i].At[k].Kind, IntKind.i64.wrap (j[i].At[k].N + 1)⟩⟩ : Sp) (by simpa using ha) hj
   obtain ⟨j', h1, h2, h3⟩ := zhn rec d i hi2 n (k + 1) _ (by rw [s1]; exact hi) (by rw [s3]; simp; omega) (by rw [s3]; simp; omega) s2
   exact ⟨j', h1.trans s1, h2, h3⟩
  ·rw [zX (by omega), if_neg (by simp), z5 (by omega)]
   exact ⟨j, rfl, hj, rfl⟩
theorem zhQ {p c : List Sp} (hS : zbI c p = some true) : ∀ (n i : Nat) (j : List Sp), j.length ≤ 1000000 → i ≤ j.length → j.length - i < n → (∀ x ∈ j, x.At.length ≤ 1000000) → zb2 p c n j (i : Int) = some true
 | 0, i, j, _, _, h, _ => by omega
 | n + 1, i, j, hl, hi, h, hj => by
  show zd1 _ p c j (i : Int) = _
  unfold zd1
  by_cases hlt : i < j.length
  ·have ha := hj _ (List.getElem_mem hlt)
   rw [zK (by omega), if_pos rfl, zbd hlt, Option.bind_some, Option.bind_some, Int.toNat_natCast]
   obtain ⟨s1, s2, s3⟩ := zfh hlt (⟨IntKind.i64.wrap (j[i].From + 1), j[i].To, j[i].At⟩ : Sp) ha hj
   obtain ⟨j', h1, h2, h3⟩ := zhm (zb2 p c n) i (by omega) big 0 _ (by rw [s1]; exact hlt) (Nat.zero_le _) (zbk (by rw [s3]; simp; omega)) s2
   rw [show ((0 : Nat) : Int) = 0 from rfl] at h3
   rw [h3]
   exact zhQ hS n (i + 1) j' (by omega) (by omega) (by omega) h2
  ·rw [zX (by omega), if_neg (by simp), hS, Option.bind_some, if_pos rfl, zgV]
   rfl
theorem zhz {p c d : List Sp} (hS : zbI c p = some true) (hd : d.length ≤ 1000000) (hda : ∀ x ∈ d, x.At.length ≤ 1000000) : ∀ (n i : Nat) (j : List Sp), j.length ≤ 1000000 → i ≤ j.length → j.length - i < n → (∀ x ∈ j, x.At.length ≤ 1000000) → zb8 p c n j d (i : Int) = some true
 | 0, i, j, _, _, h, _ => by omega
 | n + 1, i, j, hl, hi, h, hj => by
  show zdE _ p c j d (i : Int) = _
  unfold zdE
  by_cases hlt : i < j.length
  ·have ha := hj _ (List.getElem_mem hlt)
   rw [zK (by omega), if_pos rfl, zbd hlt, Option.bind_some, Option.bind_some, Int.toNat_natCast]
   obtain ⟨s1, s2, s3⟩ := zfh hlt (⟨IntKind.i64.wrap (j[i].From + 1), j[i].To, j[i].At⟩ : Sp) ha hj
   obtain ⟨j', h1, h2, h3⟩ := zhn (zb8 p c n) d i (by omega) big 0 _ (by rw [s1]; exact hlt) (Nat.zero_le _) (zbk (by rw [s3]; simp; omega)) s2
   rw [show ((0 : Nat) : Int) = 0 from rfl] at h3
   rw [h3]
   exact zhz hS hd hda n (i + 1) j' (by omega) (by omega) (by omega) h2
  ·rw [zX (by omega), if_neg (by simp)]
   exact zhQ hS big 0 d hd (Nat.zero_le _) (zbk (by omega)) hda
theorem zh0 {p c d j : List Sp} (hS : zbI c p = some true) (hd : d.length ≤ 1000000) (hda : ∀ x ∈ d, x.At.length ≤ 1000000) (hj : j.length ≤ 1000000) (hja : ∀ x ∈ j, x.At.length ≤ 1000000) : ∀ (n i : Nat) (a : List Lc), a.length ≤ 1000000 → i ≤ a.length → a.length - i < n → zdZ p c n a j d (i : Int) = some true
 | 0, i, a, _, _, h => by omega
 | n + 1, i, a, hl, hi, h => by
  show zdn _ p c a j d (i : Int) = _
  unfold zdn
  by_cases hlt : i < a.length
  ·rw [zK (by omega), if_pos rfl, zbd hlt, Option.bind_some, Option.bind_some, z5 (by omega)]
   exact zh0 hS hd hda hj hja n (i + 1) _ (by simpa using hl) (by simp; omega) (by simp; omega)
  ·rw [zX (by omega), if_neg (by simp)]
   exact zhz hS hd hda big 0 j hj (Nat.zero_le _) (zbk (by omega)) hja
theorem zir {f t : Int} {x y : Sp} (h : y ∈ pc1 f t x) : y.At = x.At := by
 unfold pc1 at h
 split at h
 ·simp at h
 ·rcases List.mem_append.1 h with h | h
  ·split at h
   ·rw [List.mem_singleton.1 h]
   ·simp at h
  ·split at h
   ·rw [List.mem_singleton.1 h]
   ·simp at h
theorem zjr (f t : Int) (x : Sp) : (pc1 f t x).length ≤ 2 := by
 unfold pc1
 split
 ·simp
 ·rw [List.length_append]
  have h1 : (if x.From < zW x.To f then [(⟨x.From, zW x.To f, x.At⟩ : Sp)] else []).length ≤ 1 := by split <;> simp
  have h2 : (if zS x.From t < x.To then [(⟨zS x.From t, x.To, x.At⟩ : Sp)] else []).length ≤ 1 := by split <;> simp
  omega
theorem zhs (f t : Int) : ∀ (l : List Sp), (l.flatMap (pc1 f t)).length ≤ 2 * l.length
 | [] => by simp
 | x :: l => by
  have h1 := zjr f t x
  have h2 := zhs f t l
  rw [List.flatMap_cons, List.length_append, List.length_cons]
  omega
theorem ziS {f t : Int} {l : List Sp} (hl : l.length ≤ 100000) (hs : smS l) : smS (zcR f t l) := by
 unfold zcR
 split
 ·exact hs
 ·refine ⟨by have := zhs f t l; omega, fun x hx => ?_⟩
  obtain ⟨y, hy, h⟩ := List.mem_flatMap.1 hx
  rw [zir h]
  exact hs.2 y hy
theorem zhj : ∀ (l acc : List Sp), (∀ x ∈ l, x.At.length ≤ 1000000) → (∀ x ∈ acc, x.At.length ≤ 1000000) → (l.foldl jn1 acc).length ≤ acc.length + l.length ∧ ∀ x ∈ l.foldl jn1 acc, x.At.length ≤ 1000000
 | [], acc, _, ha => ⟨by simp, ha⟩
 | x :: l, acc, hl, ha => by
  have hx := hl x (by simp)
  have hj : (jn1 acc x).length ≤ acc.length + 1 ∧ ∀ y ∈ jn1 acc x, y.At.length ≤ 1000000 := by
   rcases zgl acc with h0 | ⟨a, y, h0⟩
   ·subst h0
    rw [zgJ]
    exact ⟨by simp, fun z hz => by rw [List.mem_singleton.1 hz]; exact hx⟩
   ·subst h0
    rw [zfK]
    have hy := ha y (by simp)
    split
    ·refine ⟨by simp, fun z hz => ?_⟩
     rcases List.mem_append.1 hz with hz | hz
     ·exact ha z (List.mem_append_left _ hz)
     ·rw [List.mem_singleton.1 hz]; exact hy
    ·refine ⟨by simp, fun z hz => ?_⟩
     rcases List.mem_append.1 hz with hz | hz
     ·exact ha z hz
     ·rw [List.mem_singleton.1 hz]; exact hx
  obtain ⟨h1, h2⟩ := zhj l (jn1 acc x) (fun y hy => hl y (List.mem_cons_of_mem _ hy)) hj.2
  rw [List.foldl_cons, List.length_cons]
  exact ⟨by omega, h2⟩
theorem zgj {l : List Sp} (h : ∀ x ∈ l, x.At.length ≤ 1000000) (pc : Int) : (atS l pc).length ≤ 1000000 := by
 induction l with
 | nil => simp [atS]
 | cons x l ih =>
  rw [atS]
  split
  ·exact h x (by simp)
  ·exact ih fun y hy => h y (List.mem_cons_of_mem _ hy)
theorem zjW (p0 : List Sp) (p1 p2 p3 : Int) (hm : p0.length ≤ maxLen) : zeQ p0 p1 p2 p3 = some true := by
 unfold zeQ
 obtain ⟨v, hv, hv2⟩ := zjn hm
 rw [hv, Option.bind_some]
 cases v with
 | true => rw [if_pos rfl, zgV]; rfl
 | false =>
  obtain ⟨h5, h6⟩ := hv2 rfl
  have hs : smS p0 := ⟨by omega, fun x hx => by have := h6 x hx; omega⟩
  have hc := ziS (f := p2) (t := p3) (by omega) hs
  obtain ⟨j1, j2⟩ := zhj p0 [] hs.2 (by simp)
  rw [List.length_nil, Nat.zero_add] at j1
  have hj : smS (p0.foldl jn1 []) := ⟨by have := hs.1; omega, j2⟩
  rw [if_neg (by simp), ziy hs, Option.bind_some, zio hs, Option.bind_some, zic, ziV hs (by omega), Option.bind_some, zjG, zjd hs, Option.bind_some, zjx hs, Option.bind_some, zgg (zgj hs.2 p1), Option.bind_some, zK rfl, Bool.not_true, if_neg (by simp), ziA hs (by omega), Option.bind_some, zgB hc, Option.bind_some, Option.bind_some, zK rfl, Bool.not_true, if_neg (by simp), ziY hs, Option.bind_some, zgB hj, Option.bind_some, Option.bind_some, zK rfl, Bool.not_true, if_neg (by simp)]
  exact zh0 (by rw [zgB hs, zK rfl]) hj.1 hj.2 hc.1 hc.2 big 0 _ (zgj hs.2 p1) (Nat.zero_le _) (zbk (by have := zgj hs.2 p1; omega))
end Go.Proofs.Ytjcehfjmmbbblaa
