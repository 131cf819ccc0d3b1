import Derived.Test.YtnaafaopdefigaaAd
import Derived.Test.YtnaafaopdefigaaF
import Derived.Test.YtnaafaopdefigaaPL
import Derived.Test.YtnaafaopdefigaaP_02
import Derived.Test.YtnaafaopdefigaaP_01
import Derived.Test.YtnaafaopdefigaaP_03
import Derived.Test.YtnaafaopdefigaaP_03b
import Derived.Test.YtnaafaopdefigaaP_03c
import Derived.KernelRfl
namespace Go.Proofs.Ytnaafaopdefigaa
open Go.Ab Go.RowKit
set_option linter.unusedVariables false
set_option linter.unusedSimpArgs false
def wx3 : Ins := ⟨8, 0, 1, 2, 3, -2, 4⟩
theorem P_works03 : F_law03_works = some true := by
  have hi : rgI wx3 := by unfold rgI wx3; simp
  have hR : Rti wx3 = true := by decide
  have he : encI wx3 = [8, 18, 3, 126, 4] := by
    have h1 : encS (-2) = [126] := by rw [encS_small (by omega)]; rfl
    have h2 : encU 4 = [4] := by rw [encU_small (by omega)]; rfl
    have hp : prts ((wx3.Kind.toNat : Int)) = some [.c_both_1, .c_third_1, .c_within, .c_bound_1] := rfl
    unfold encI bdy
    rw [hp]
    simp only [puAll, List.flatMap_cons, List.flatMap_nil, enP]
    have e1 : encS wx3.N = [126] := h1
    have e2 : encU wx3.M.toNat = [4] := h2
    rw [e1, e2]
    rfl
  have h1 := P_IPut (b := [255]) hi (by simp)
  rw [if_pos hR, he] at h1
  have h2 := P_IGet_put hi hR (q := [255]) (r := []) (by rw [he]; simp)
  rw [he] at h2
  have h2 : F_isa_Get [255, 8, 18, 3, 126, 4] 1 = some (wx3, 6, 0) := h2
  have h3 := P_IRight hi
  rw [hR] at h3
  have h4 : F_isa_Right ⟨0, 0, 0, 0, 0, 0, 0⟩ = some false := by rw [P_IRight (by unfold rgI; simp)]; rfl
  have h5 : F_isa_Size wx3 = some 5 := by
    unfold F_isa_Size
    have := P_IPut (b := []) hi (by simp)
    rw [if_pos hR, he] at this
    have this : F_isa_Put [] ⟨wx3.Kind, wx3.Op, wx3.R, wx3.S, wx3.T, wx3.N, wx3.M⟩ = _ := this
    rw [this]
    rfl
  unfold F_law03_works
  have h1 : F_isa_Put [255] ⟨8, 0, 1, 2, 3, -2, 4⟩ = some [255, 8, 18, 3, 126, 4] := h1
  have h3 : F_isa_Right ⟨8, 0, 1, 2, 3, -2, 4⟩ = some true := h3
  have h5 : F_isa_Size ⟨8, 0, 1, 2, 3, -2, 4⟩ = some 5 := h5
  rw [h1, Option.bind_some, h2, Option.bind_some, h3, Option.bind_some, h4, h5]
  rfl
theorem P_Size {i : Ins} (hi : rgI i) : F_isa_Size i = some (if Rti i = true then ((encI i).length : Int) else 0) := by
  unfold F_isa_Size
  have := P_IPut (b := []) hi (by simp)
  have this : F_isa_Put [] ⟨i.Kind, i.Op, i.R, i.S, i.T, i.N, i.M⟩ = _ := this
  rw [this, Option.bind_some]
  cases Rti i <;> simp
def catI (l : List Ins) : List UInt8 := l.flatMap encI
theorem IRow13 (l : List Ins) (hl : l.length ≤ 100) (hr : ∀ x ∈ l, rgI x) : ∀ (n k : Nat) (b : List UInt8) (w : List Ins), k ≤ l.length → l.length - k < n → b.length ≤ 1000 + 41 * k → w.length ≤ k →
    F_law03_IsaRow_l13 l n b w (k : Int) = F_law03_IsaRow_l15 (b ++ catI ((l.drop k).filter Rti)) big (w ++ (l.drop k).filter Rti) 0 0
  | 0, k, _, _, _, h, _, _ => by omega
  | n + 1, k, b, w, hk, h, hb, hw => by
    show F_law03_IsaRow_l13B _ l b w (k : Int) = _
    unfold F_law03_IsaRow_l13B
    by_cases hlt : k < l.length
    · have hi := hr l[k] (List.getElem_mem hlt)
      have hR : F_isa_Right ⟨l[k].Kind, l[k].Op, l[k].R, l[k].S, l[k].T, l[k].N, l[k].M⟩ = _ := P_IRight hi
      have hP : F_isa_Put b ⟨l[k].Kind, l[k].Op, l[k].R, l[k].S, l[k].T, l[k].N, l[k].M⟩ = _ := P_IPut (b := b) hi (by omega)
      rw [decT (by omega), if_pos rfl, getI_lt hlt, Option.bind_some, hR, Option.bind_some, List.drop_eq_getElem_cons hlt]
      cases h1 : Rti l[k]
      · rw [if_neg (by simp), i64_succ (by omega), IRow13 l hl hr n (k + 1) b w (by omega) (by omega) (by omega) (by omega), List.filter_cons_of_neg (by rw [h1]; simp)]
      · have hlen := encI_len hi h1
        rw [if_pos rfl, Option.bind_some, room_ok (by omega), Option.bind_some, Option.bind_some, hP, h1, if_pos rfl, Option.bind_some, i64_succ (by omega)]
        have := IRow13 l hl hr n (k + 1) (b ++ encI l[k]) (w ++ [l[k]]) (by omega) (by omega) (by rw [List.length_append]; omega) (by simp; omega)
        refine Eq.trans this ?_
        rw [List.filter_cons_of_pos h1]
        simp only [catI, List.flatMap_cons, List.append_assoc, List.singleton_append]
    · rw [decF (by omega), if_neg (by simp), List.drop_of_length_le (by omega)]
      simp [catI]
theorem catI_len : ∀ (l : List Ins), (∀ x ∈ l, rgI x ∧ Rti x = true) → (catI l).length ≤ 41 * l.length
  | [], _ => by simp [catI]
  | x :: l, h => by
    have h1 := encI_len (h x (List.mem_cons_self ..)).1 (h x (List.mem_cons_self ..)).2
    have h2 := catI_len l fun y hy => h y (List.mem_cons_of_mem _ hy)
    unfold catI at h2 ⊢
    simp only [List.flatMap_cons, List.length_append, List.length_cons]
    omega
theorem IRow15 (W : List Ins) (hW : ∀ x ∈ W, rgI x ∧ Rti x = true) (hl : W.length ≤ 100) : ∀ (n k : Nat), k ≤ W.length → W.length - k < n → F_law03_IsaRow_l15 (catI W) n W ((catI (W.take k)).length : Int) (k : Int) = some true
  | 0, k, _, h => by omega
  | n + 1, k, hk, h => by
    have hcl := catI_len W hW
    show F_law03_IsaRow_l15B _ (catI W) W ((catI (W.take k)).length : Int) (k : Int) = _
    unfold F_law03_IsaRow_l15B
    by_cases hlt : k < W.length
    · obtain ⟨hi, h1⟩ := hW W[k] (List.getElem_mem hlt)
      have hlen := encI_len hi h1
      have e1 : catI W = catI (W.take k) ++ encI W[k] ++ catI (W.drop (k + 1)) := by
        have : W = W.take k ++ (W[k] :: W.drop (k + 1)) := by rw [← List.drop_eq_getElem_cons hlt, List.take_append_drop]
        have h3 : catI W = catI (W.take k ++ (W[k] :: W.drop (k + 1))) := congrArg catI this
        rw [h3]
        unfold catI
        rw [List.flatMap_append, List.flatMap_cons, List.append_assoc]
      have e2 : catI (W.take (k + 1)) = catI (W.take k) ++ encI W[k] := by
        rw [List.take_succ_eq_append_getElem hlt]
        unfold catI
        rw [List.flatMap_append, List.flatMap_cons, List.flatMap_nil, List.append_nil]
      have hg := P_IGet_put hi h1 (q := catI (W.take k)) (r := catI (W.drop (k + 1))) (by rw [← e1]; omega)
      rw [← e1, ← e2] at hg
      have hS : F_isa_Size ⟨W[k].Kind, W[k].Op, W[k].R, W[k].S, W[k].T, W[k].N, W[k].M⟩ = _ := P_Size hi
      have hle : (catI (W.take (k + 1))).length ≤ (catI W).length := by rw [e1, e2]; simp
      have hww : IntKind.i64.wrap (((catI (W.take k)).length : Int) + ((encI W[k]).length : Int)) = ((catI (W.take (k + 1))).length : Int) := by
        rw [e2, List.length_append] at hle ⊢
        rw [wi64 (by omega)]
        omega
      rw [decT (by omega), if_pos rfl, hg, Option.bind_some, bneF rfl, if_neg (by simp), getI_lt hlt, Option.bind_some, ins_eq, decT rfl, Option.bind_some, Bool.not_true, if_neg (by simp), hS, h1, if_pos rfl, Option.bind_some, Option.bind_some]
      simp only
      rw [hww, bneF rfl, if_neg (by simp), i64_succ (by omega)]
      exact IRow15 W hW hl n (k + 1) (by omega) (by omega)
    · rw [decF (by omega), if_neg (by simp), List.take_of_length_le (by omega), beqT rfl, if_pos rfl, P_works03]
      rfl
theorem P_IsaRow (p0 : List Ins) (hr : ∀ x ∈ p0, rgI x) : F_law03_IsaRow p0 = some true := by
  unfold F_law03_IsaRow
  by_cases hb : (p0.length : Int) > 100
  · rw [decT hb, if_pos rfl, P_works03]; rfl
  · rw [decF hb, if_neg (by simp)]
    have h := IRow13 p0 (by omega) hr big 0 [] [] (by omega) (big_gt (by omega)) (by simp) (by simp)
    rw [List.drop_zero, List.nil_append, List.nil_append] at h
    have h2 := IRow15 (p0.filter Rti) (fun x hx => by rw [List.mem_filter] at hx; exact ⟨hr x hx.1, hx.2⟩) (by have := List.length_filter_le Rti p0; omega) big 0 (by omega) (big_gt (by have := List.length_filter_le Rti p0; omega))
    rw [List.take_zero] at h2
    exact h.trans h2
end Go.Proofs.Ytnaafaopdefigaa
