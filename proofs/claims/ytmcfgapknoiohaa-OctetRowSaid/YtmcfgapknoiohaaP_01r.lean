import Derived.Test.YtmcfgapknoiohaaAd
import Derived.Test.YtmcfgapknoiohaaF
import Derived.Test.YtmcfgapknoiohaaPL
import Derived.Test.YtmcfgapknoiohaaP_01
namespace Go.Proofs.Ytmcfgapknoiohaa
open Go.Ab Go.RowKit
set_option linter.unusedVariables false
set_option linter.unusedSimpArgs false
theorem mnat_loop (l : List UInt8) (hl : l.length ≤ 1099511627776) : ∀ (n i : Nat), i ≤ l.length → l.length - i < n → zu l n (l.take i ++ List.replicate (l.length - i) 0) (i : Int) = some l
  | 0, i, _, h => by omega
  | n + 1, i, hi, h => by
    show zw _ l _ (i : Int) = some l
    unfold zw
    by_cases hlt : i < l.length
    · have hx : i < (l.take i ++ List.replicate (l.length - i) (0 : UInt8)).length := by simp; omega
      rw [decT (by omega), if_pos rfl, getI_lt hlt, Option.bind_some, getI_lt hx, Option.bind_some, i64_succ (by omega), Int.toNat_natCast]
      have e : (l.take i ++ List.replicate (l.length - i) (0 : UInt8)).set i l[i] = l.take (i + 1) ++ List.replicate (l.length - (i + 1)) 0 := by
        obtain ⟨m, hm⟩ : ∃ m, l.length - i = m + 1 := ⟨l.length - i - 1, by omega⟩
        have ht : l.take (i + 1) = l.take i ++ [l[i]] := by simp
        rw [ht, hm, List.replicate_succ, show l.length - (i + 1) = m by omega, List.set_append_right _ _ (by simp; omega), List.append_assoc]
        have hi0 : i - (l.take i).length = 0 := by rw [List.length_take]; omega
        rw [hi0]
        rfl
      rw [e]
      exact mnat_loop l hl n (i + 1) (by omega) (by omega)
    · rw [decF (by omega), if_neg (by simp), show l.length - i = 0 by omega, List.take_of_length_le (by omega)]
      simp
theorem zbe {l : List UInt8} (hl : l.length ≤ 1099511000000) : zB l = some l := by
  unfold zB
  have e : mkI (0 : UInt8) (l.length : Int) (IntKind.i64.wrap ((l.length : Int) + 40)) = some (List.replicate l.length 0) := by
    rw [wi64 (by omega)]
    unfold mkI
    rw [if_pos (by omega), Int.toNat_natCast]
  rw [e, Option.bind_some]
  have := mnat_loop l (by omega) big 0 (by omega) (big_gt (by omega))
  simpa using this
def good (t : za) : Prop := if t.Kind.toNat % 3 = 0 then (0 ≤ t.High ∧ t.High < 16 ∧ 0 ≤ t.Low ∧ t.Low < 16) else if t.Kind.toNat % 3 = 1 then (0 ≤ t.Place ∧ t.Place < 16777216) else t.Text.size ≤ 255
def tenc (t : za) : List UInt8 := if t.Kind.toNat % 3 = 0 then [UInt8.ofNat (16 * t.High + t.Low).toNat] else if t.Kind.toNat % 3 = 1 then pb t.Place else UInt8.ofNat t.Text.size :: t.Text.data.toList
theorem tenc_len {t : za} (h : good t) : 0 < (tenc t).length ∧ (tenc t).length ≤ 256 := by
  unfold good at h
  unfold tenc
  split <;> rename_i h0
  · simp
  · rw [if_neg h0] at h
    split <;> rename_i h1
    · simp [pb]
    · rw [if_neg h1] at h
      have : t.Text.data.toList.length = t.Text.size := rfl
      simp only [List.length_cons, this]
      omega
theorem kmod (t : za) : Int.tmod (t.Kind.toNat : Int) 3 = ((t.Kind.toNat % 3 : Nat) : Int) := rfl
theorem put_ok {l : List UInt8} (t : za) (hl : l.length ≤ 1099511000000) : ∃ r, zn l t = some r ∧ ((r.2 = true ∧ good t ∧ r.1 = l ++ tenc t) ∨ r.2 = false) := by
  unfold zn good tenc
  rw [kmod]
  by_cases h0 : t.Kind.toNat % 3 = 0
  · rw [beqT (by omega), if_pos rfl, if_pos h0, if_pos h0, zO, Option.bind_some]
    split <;> rename_i hg
    · obtain ⟨v, hv⟩ : ∃ v : Nat, 16 * t.High + t.Low = v := ⟨(16 * t.High + t.Low).toNat, by omega⟩
      refine ⟨(l ++ [UInt8.ofNat v], true), ?_, .inl ⟨rfl, ⟨hg.1, hg.2.1, hg.2.2.1, hg.2.2.2⟩, by rw [hv, Int.toNat_natCast]⟩⟩
      rw [hv, u8o_nat (by omega), Option.bind_some, room_ok (by omega), Option.bind_some]
    · refine ⟨(l ++ [UInt8.ofNat 0], false), ?_, .inr rfl⟩
      rw [show u8o 0 = some (UInt8.ofNat 0) from rfl, Option.bind_some, room_ok (by omega), Option.bind_some]
  · rw [beqF (by omega), if_neg (by simp), if_neg h0, if_neg h0]
    by_cases h1 : t.Kind.toNat % 3 = 1
    · rw [beqT (by omega), if_pos rfl, if_pos h1, if_pos h1, zR hl, Option.bind_some]
      split <;> rename_i hg
      · exact ⟨_, rfl, .inr rfl⟩
      · exact ⟨_, rfl, .inl ⟨rfl, by omega, rfl⟩⟩
    · rw [beqF (by omega), if_neg (by simp), if_neg h1, if_neg h1, zQ hl, Option.bind_some]
      split <;> rename_i hg
      · exact ⟨_, rfl, .inr rfl⟩
      · exact ⟨_, rfl, .inl ⟨rfl, by omega, by simp⟩⟩
theorem pl3_pb {x : Int} (h : 0 ≤ x ∧ x < 16777216) : (pl3 (UInt8.ofNat (x / 65536 % 256).toNat) (UInt8.ofNat (x / 256 % 256).toNat) (UInt8.ofNat (x % 256).toNat) : Int) = x := by
  have k : ∀ x : Int, (UInt8.ofNat (x % 256).toNat).toNat = (x % 256).toNat := fun x => by rw [UInt8.toNat_ofNat']; omega
  unfold pl3
  rw [k, k, k]
  omega
theorem got_put {t : za} (hg : good t) (p r : List UInt8) (hl : (p ++ tenc t ++ r).length ≤ 1099511627776) : ze (p ++ tenc t ++ r) (p.length : Int) t = some (((p ++ tenc t).length : Int), true) := by
  unfold ze
  unfold good at hg
  rw [kmod]
  by_cases h0 : t.Kind.toNat % 3 = 0
  · rw [if_pos h0] at hg
    obtain ⟨v, hv⟩ : ∃ v : Nat, 16 * t.High + t.Low = v := ⟨(16 * t.High + t.Low).toNat, by omega⟩
    have et : tenc t = [UInt8.ofNat v] := by unfold tenc; rw [if_pos h0, hv, Int.toNat_natCast]
    rw [et] at hl ⊢
    have hk : p.length < (p ++ [UInt8.ofNat v] ++ r).length := by simp
    have hget : (p ++ [UInt8.ofNat v] ++ r)[p.length] = UInt8.ofNat v := by simp
    have hv' : (UInt8.ofNat v).toNat = v := by rw [UInt8.toNat_ofNat']; omega
    rw [beqT (by omega), if_pos rfl, OneC hl hk, Option.bind_some, hget, hv']
    simp only
    rw [zL (by omega), Option.bind_some]
    simp only
    rw [beqT (show ((v / 16 : Nat) : Int) = t.High by omega), beqT (show ((v % 16 : Nat) : Int) = t.Low by omega)]
    simp
  · rw [if_neg h0] at hg
    rw [beqF (by omega), if_neg (by simp)]
    by_cases h1 : t.Kind.toNat % 3 = 1
    · rw [if_pos h1] at hg
      have et : tenc t = pb t.Place := by unfold tenc; rw [if_neg h0, if_pos h1]
      have h3 : (pb t.Place).length = 3 := rfl
      rw [et] at hl ⊢
      have hk : p.length + 3 ≤ (p ++ pb t.Place ++ r).length := by simp only [List.length_append]; omega
      rw [beqT (by omega), if_pos rfl, PlaceC hl hk, Option.bind_some]
      have e : (pl3 (p ++ pb t.Place ++ r)[p.length] (p ++ pb t.Place ++ r)[p.length + 1] (p ++ pb t.Place ++ r)[p.length + 2] : Int) = t.Place := by
        have e0 : (p ++ pb t.Place ++ r)[p.length] = UInt8.ofNat (t.Place / 65536 % 256).toNat := by simp [pb]
        have e1 : (p ++ pb t.Place ++ r)[p.length + 1] = UInt8.ofNat (t.Place / 256 % 256).toNat := by simp [pb, List.getElem_append_right]
        have e2 : (p ++ pb t.Place ++ r)[p.length + 2] = UInt8.ofNat (t.Place % 256).toNat := by simp [pb, List.getElem_append_right]
        rw [e0, e1, e2]
        exact pl3_pb hg
      simp only
      rw [e, beqT (a := t.Place) rfl, List.length_append, h3]
      simp
    · rw [if_neg h1] at hg
      have et : tenc t = UInt8.ofNat t.Text.size :: t.Text.data.toList := by unfold tenc; rw [if_neg h0, if_neg h1]
      have hs : t.Text.data.toList.length = t.Text.size := rfl
      rw [et] at hl ⊢
      have hk : p.length < (p ++ UInt8.ofNat t.Text.size :: t.Text.data.toList ++ r).length := by simp
      have hget : (p ++ UInt8.ofNat t.Text.size :: t.Text.data.toList ++ r)[p.length] = UInt8.ofNat t.Text.size := by simp
      have hv' : (UInt8.ofNat t.Text.size).toNat = t.Text.size := by rw [UInt8.toNat_ofNat']; omega
      have hT := TextC hl hk (by rw [hget, hv']; simp only [List.length_append, List.length_cons, hs]; omega)
      rw [beqF (by omega), if_neg (by simp), hT, Option.bind_some]
      simp only [hget, hv']
      have e : txt (p ++ UInt8.ofNat t.Text.size :: t.Text.data.toList ++ r) (p.length + 1) t.Text.size = t.Text := by
        unfold txt
        have : ((p ++ UInt8.ofNat t.Text.size :: t.Text.data.toList ++ r).drop (p.length + 1)).take t.Text.size = t.Text.data.toList := by
          rw [List.append_assoc, List.drop_append, List.drop_of_length_le (show p.length ≤ p.length + 1 by omega), List.nil_append, show p.length + 1 - p.length = 1 by omega]
          simp only [List.cons_append, List.drop_succ_cons, List.drop_zero]
          rw [List.take_append_of_le_length (by omega), List.take_of_length_le (by omega)]
        rw [this]
      rw [e, strEq_eq, decT rfl]
      simp only [List.length_append, List.length_cons, hs]
      simp
      omega
theorem got_cut {t : za} (hg : good t) (p : List UInt8) (hl : (p ++ tenc t).length ≤ 1099511627776) : ∃ c, ze ((p ++ tenc t).take ((p ++ tenc t).length - 1)) (p.length : Int) t = some (c, false) := by
  have hn := tenc_len hg
  have e : (p ++ tenc t).take ((p ++ tenc t).length - 1) = p ++ (tenc t).take ((tenc t).length - 1) := by
    rw [List.length_append, List.take_append, List.take_of_length_le (by omega), show p.length + (tenc t).length - 1 - p.length = (tenc t).length - 1 by omega]
  rw [e]
  rw [List.length_append] at hl
  unfold ze
  unfold good at hg
  rw [kmod]
  by_cases h0 : t.Kind.toNat % 3 = 0
  · have et : tenc t = [UInt8.ofNat (16 * t.High + t.Low).toNat] := by unfold tenc; rw [if_pos h0]
    rw [et, beqT (by omega), if_pos rfl, OneB (by simp), Option.bind_some]
    simp only
    rw [show (0 : Int) = ((0 : Nat) : Int) from rfl, zL (by omega), Option.bind_some]
    exact ⟨_, rfl⟩
  · rw [beqF (by omega), if_neg (by simp)]
    by_cases h1 : t.Kind.toNat % 3 = 1
    · have et : tenc t = pb t.Place := by unfold tenc; rw [if_neg h0, if_pos h1]
      rw [et, beqT (by omega), if_pos rfl, PlaceB (by simp) (by simp [pb]), Option.bind_some]
      exact ⟨_, rfl⟩
    · rw [if_neg h0, if_neg h1] at hg
      have et : tenc t = UInt8.ofNat t.Text.size :: t.Text.data.toList := by unfold tenc; rw [if_neg h0, if_neg h1]
      have hs : t.Text.data.toList.length = t.Text.size := rfl
      rw [et] at hl ⊢
      rw [beqF (by omega), if_neg (by simp)]
      simp only [List.length_cons, hs, Nat.add_sub_cancel] at hl ⊢
      by_cases hz : t.Text.size = 0
      · rw [hz, List.take_zero, List.append_nil, TextB rfl, Option.bind_some]
        exact ⟨_, rfl⟩
      · obtain ⟨m, hm⟩ : ∃ m, t.Text.size = m + 1 := ⟨t.Text.size - 1, by omega⟩
        have hv' : (UInt8.ofNat t.Text.size).toNat = t.Text.size := by rw [UInt8.toNat_ofNat']; omega
        have e2 : (UInt8.ofNat t.Text.size :: t.Text.data.toList).take t.Text.size = UInt8.ofNat t.Text.size :: t.Text.data.toList.take m := by
          conv => lhs; arg 1; rw [hm]
          rw [List.take_succ_cons]
        rw [e2]
        have hk : p.length < (p ++ UInt8.ofNat t.Text.size :: t.Text.data.toList.take m).length := by simp
        have hget : (p ++ UInt8.ofNat t.Text.size :: t.Text.data.toList.take m)[p.length] = UInt8.ofNat t.Text.size := by simp
        have hT := TextD (by simp only [List.length_append, List.length_cons, List.length_take, hs]; omega) hk (by rw [hget, hv']; simp only [List.length_append, List.length_cons, List.length_take, hs]; omega)
        rw [hT, Option.bind_some]
        exact ⟨_, rfl⟩
theorem flat_le {ks : List za} (h : ∀ t ∈ ks, good t) : (ks.flatMap tenc).length ≤ 256 * ks.length := by
  induction ks with
  | nil => simp
  | cons a ks ih =>
    have := tenc_len (h a (by simp))
    have ih := ih fun t ht => h t (List.mem_cons_of_mem _ ht)
    rw [List.flatMap_cons, List.length_append, List.length_cons]
    omega
theorem Row_l19 {ks : List za} (hk : ks.length ≤ 60) (hg : ∀ t ∈ ks, good t) {last : Int} (hlast : last = ((ks.dropLast.flatMap tenc).length : Nat)) : ∀ (n i : Nat), i ≤ ks.length → ks.length - i < n → zs (ks.flatMap tenc) last n ks (((ks.take i).flatMap tenc).length : Nat) (i : Int) = some true
  | 0, i, _, h => by omega
  | n + 1, i, hi, h => by
    show zp _ _ _ _ _ _ = some true
    unfold zp
    have hf := flat_le hg
    by_cases hlt : i < ks.length
    · have e : ks.flatMap tenc = (ks.take i).flatMap tenc ++ tenc ks[i] ++ (ks.drop (i + 1)).flatMap tenc := by
        conv => lhs; rw [← List.take_append_drop i ks, List.drop_eq_getElem_cons hlt, List.flatMap_append, List.flatMap_cons]
        simp
      have hgi := hg ks[i] (List.getElem_mem _)
      have hn := tenc_len hgi
      rw [decT (by omega), if_pos rfl, getI_lt hlt, Option.bind_some]
      conv => lhs; rw [e]
      rw [show ze _ _ _ = _ from got_put hgi ((ks.take i).flatMap tenc) _ (by rw [← e]; omega), Option.bind_some, ← e]
      have e2 : (ks.take i).flatMap tenc ++ tenc ks[i] = (ks.take (i + 1)).flatMap tenc := by
        rw [List.take_succ_eq_append_getElem hlt, List.flatMap_append]
        simp
      simp only
      rw [if_neg (by rw [Bool.not_true, Bool.false_or, decide_eq_true_eq, List.length_append]; omega), i64_succ (by omega), e2]
      exact Row_l19 hk hg hlast n (i + 1) (by omega) (by omega)
    · rw [List.take_of_length_le (by omega), decF (by omega), if_neg (by simp), bneF rfl, if_neg (by simp)]
      by_cases h0 : ks = []
      · subst h0
        rw [if_neg (by simp), zD]
        rfl
      · have hpos : 0 < ks.length := List.length_pos_iff.2 h0
        obtain ⟨q, t, rfl⟩ : ∃ q t, ks = q ++ [t] := ⟨_, _, (List.dropLast_concat_getLast h0).symm⟩
        have hgt := hg t (by simp)
        have hn := tenc_len hgt
        have e : (q ++ [t]).flatMap tenc = q.flatMap tenc ++ tenc t := by simp
        rw [List.dropLast_concat] at hlast
        rw [e] at hf ⊢
        have hlen : (q.flatMap tenc ++ tenc t).length = (q.flatMap tenc).length + (tenc t).length := List.length_append
        rw [decT (by omega), if_pos rfl, show IntKind.i64.wrap (((q.flatMap tenc ++ tenc t).length : Int) - 1) = (((q.flatMap tenc ++ tenc t).length - 1 : Nat) : Int) by rw [wi64 (by omega)]; omega, show (0 : Int) = ((0 : Nat) : Int) from rfl, cutI_ok (by omega) (by omega), Option.bind_some, List.drop_zero,
          show IntKind.i64.wrap (((q ++ [t]).length : Int) - 1) = ((q.length : Nat) : Int) by rw [wi64 (by omega)]; simp, getI_cast, List.getElem?_append_right (by omega), Nat.sub_self, List.getElem?_cons_zero, Option.bind_some, hlast]
        obtain ⟨c, hc⟩ := got_cut hgt (q.flatMap tenc) (by omega)
        rw [show ze _ _ _ = _ from hc, Option.bind_some, zD]
        rfl
theorem Row_l17 {p0 : List za} (hp : p0.length ≤ 60) : ∀ (n i : Nat) (ks : List za) (last : Int), i ≤ p0.length → p0.length - i < n → ks.length ≤ i → (∀ t ∈ ks, good t) → last = ((ks.dropLast.flatMap tenc).length : Nat) → zA p0 n (ks.flatMap tenc) ks last (i : Int) = some true
  | 0, i, _, _, _, h, _, _, _ => by omega
  | n + 1, i, ks, last, hi, h, hk, hg, hlast => by
    show zz _ _ _ _ _ _ = some true
    unfold zz
    have hf := flat_le hg
    by_cases hlt : i < p0.length
    · rw [decT (by omega), if_pos rfl, getI_lt hlt, Option.bind_some]
      by_cases hbig : (p0[i].Text.size : Int) > 1000
      · rw [decT hbig, if_pos rfl, zD]
        rfl
      · obtain ⟨r, hr, hr2⟩ := put_ok (l := ks.flatMap tenc) p0[i] (by omega)
        rw [decF hbig, if_neg (by simp), Option.bind_some, zbe (by omega), Option.bind_some, show zn _ _ = _ from hr, Option.bind_some, i64_succ (by omega)]
        rcases hr2 with ⟨h1, h2, h3⟩ | h1
        · rw [if_pos h1, Option.bind_some, room_ok (by omega), Option.bind_some, h3]
          have ih := Row_l17 hp n (i + 1) (ks ++ [p0[i]]) ((ks.flatMap tenc).length : Nat) (by omega) (by omega) (by simp; omega) (by
            intro t ht
            rcases List.mem_append.1 ht with ht | ht
            · exact hg t ht
            · rw [List.mem_singleton.1 ht]; exact h2) (by rw [List.dropLast_concat])
          rw [List.flatMap_append] at ih
          simp only [List.flatMap_cons, List.flatMap_nil, List.append_nil] at ih
          exact ih
        · rw [if_neg (by rw [h1]; simp)]
          exact Row_l17 hp n (i + 1) ks last (by omega) (by omega) (by omega) hg hlast
    · rw [decF (by omega), if_neg (by simp)]
      have := Row_l19 (show ks.length ≤ 60 by omega) hg hlast big 0 (by omega) (big_gt (by omega))
      simpa using this
theorem z6 (p0 : List za) : zI p0 = some true := by
  unfold zI
  by_cases hb : (p0.length : Int) > 60
  · rw [decT hb, if_pos rfl, zD]; rfl
  · rw [decF hb, if_neg (by simp)]
    exact Row_l17 (by omega) big 0 [] 0 (by omega) (big_gt (by omega)) (by simp) (by simp) (by simp)
end Go.Proofs.Ytmcfgapknoiohaa
