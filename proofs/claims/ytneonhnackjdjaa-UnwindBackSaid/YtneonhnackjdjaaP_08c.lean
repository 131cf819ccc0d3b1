import Derived.Test.YtneonhnackjdjaaAd
import Derived.Test.YtneonhnackjdjaaF
import Derived.Test.YtneonhnackjdjaaPL
import Derived.Test.YtneonhnackjdjaaP_02
import Derived.Test.YtneonhnackjdjaaP_08
import Derived.Test.YtneonhnackjdjaaP_08b
import Derived.KernelRfl
namespace Go.Proofs.Ytneonhnackjdjaa
open Go.Ab Go.RowKit
set_option linter.unusedVariables false
set_option linter.unusedSimpArgs false
def wk8 : List Ue := [⟨10, 20, 3, [⟨7, -2⟩]⟩]
def pv8 : S_api_View := ⟨[true, true, true, true, true, true, true, true, true, true, true, true, true, true, true, true], [0, 0, 0, 0, 0, 0, 0, 0, 0, 0, 0, 0, 0, 0, 0, 5], 0, [0, 1, 2, 3, 4, 5, 6, 7, 8, 9]⟩
theorem plain8 : F_law08_plain 10 5 = some pv8 := by kernel_rfl
theorem up8 : F_unwind_Up wk8 12 pv8 = some (7, ⟨[false, false, false, false, false, false, true, true, true, true, true, true, false, false, false, true], [0, 0, 0, 0, 0, 0, 0, 6, 0, 0, 0, 0, 0, 0, 0, 8], 0, [0, 1, 2, 3, 4, 5, 6, 7, 8, 9]⟩, 0) := by kernel_rfl
theorem P_works08 : F_law08_works = some true := by
  have hu : Ut wk8 = true := by decide
  have he : encT wk8 = [1, 10, 10, 3, 1, 7, 2] := by
    simp only [encT, wk8, encEs, encE, encRs, List.length_cons, List.length_nil]
    repeat rw [encU_small (by decide)]
    rfl
  have hs : small wk8 := Ut_small hu
  have h1 := P_Put (b := []) hs (by simp)
  rw [if_pos hu, List.nil_append, he] at h1
  have h2 := P_Get (p := []) (r := []) (l := wk8) (by rw [he]; simp) hu
  rw [List.nil_append, List.append_nil, he] at h2
  have h2 : F_unwind_Get [1, 10, 10, 3, 1, 7, 2] 0 = some (wk8, 7, 0) := h2
  have h3 := P_Same8 (l := wk8) (m := wk8) hs (by simp [wk8])
  unfold F_law08_works
  have h1 : F_unwind_Put [] [(⟨10, 20, 3, [(⟨7, -2⟩ : S_api_Saved)]⟩ : S_api_Unwind)] = _ := h1
  have h3 : F_ref08_Same [(⟨10, 20, 3, [(⟨7, -2⟩ : S_api_Saved)]⟩ : S_api_Unwind)] wk8 = _ := h3
  rw [h1, Option.bind_some, h2, Option.bind_some, plain8, Option.bind_some]
  have h4 : F_unwind_Up wk8 12 (⟨pv8.Known, pv8.Regs, pv8.Base, pv8.Words⟩ : S_api_View) = _ := up8
  rw [h4, Option.bind_some]
  simp only [h3]
  rfl
theorem copyb_loop (l : List UInt8) (hl : l.length ≤ 1000000000) : ∀ (n i : Nat) (acc : List UInt8), i ≤ l.length → l.length - i < n → acc.length ≤ i → F_ref00_CopyBytes_l3 l n acc (i : Int) = some (acc ++ l.drop i)
  | 0, i, _, _, h, _ => by omega
  | n + 1, i, acc, hi, h, ha => by
    show F_ref00_CopyBytes_l3B _ l acc (i : Int) = _
    unfold F_ref00_CopyBytes_l3B
    by_cases hlt : i < l.length
    · rw [decT (by omega), if_pos rfl, getI_lt hlt, Option.bind_some]
      have hu : u8o (l[i].toNat : Int) = some l[i] := by rw [u8o_nat l[i].toNat_lt]; simp
      have ih := copyb_loop l hl n (i + 1) (acc ++ [l[i]]) (by omega) (by omega) (by simp; omega)
      rw [List.append_assoc, List.singleton_append, ← List.drop_eq_getElem_cons hlt] at ih
      first
        | rw [hu, Option.bind_some, room_ok (by simp; omega), Option.bind_some, i64_succ (by omega)]; exact ih
        | rw [room_ok (by simp; omega), Option.bind_some, i64_succ (by omega)]; exact ih
    · rw [decF (by omega), if_neg (by simp), List.drop_of_length_le (by omega), List.append_nil]
theorem P_CopyBytes {l : List UInt8} (hl : l.length ≤ 1000000000) : F_ref00_CopyBytes l = some l := by
  have := copyb_loop l hl big 0 [] (by omega) (big_gt (by omega)) (by simp)
  exact this
theorem encEs_len : ∀ {l : List Ue} {last : Int}, rtU last l = true → 0 ≤ last → (encEs last l).length ≤ 40 * l.length
  | [], _, _, _ => by simp [encEs]
  | x :: l, last, h, h0 => by
    simp only [rtU, Bool.and_eq_true, decide_eq_true_eq] at h
    have h1 := encE_len h.1.1 h0 h.1.2
    have hx := h.1.1
    unfold okU at hx
    have h2 := encEs_len h.2 (by omega)
    simp only [encEs, List.length_append, List.length_cons]
    omega
theorem encT_len {l : List Ue} (h : Ut l = true) : (encT l).length ≤ 170000 := by
  unfold Ut at h
  simp only [Bool.and_eq_true, decide_eq_true_eq] at h
  have h1 := encEs_len h.1 (by omega)
  have h2 := encU_le10 (x := l.length) (by omega)
  simp only [encT, List.length_append]
  omega
theorem P_Back3 {b : List UInt8} (hb : b.length ≤ 4096) : F_law08_UnwindBack_k3 b = some true := by
  unfold F_law08_UnwindBack_k3
  obtain ⟨r, h1, h2, h3⟩ := P_Get_eq (b := b) (a := 0) (by omega)
  obtain ⟨m, n, f⟩ := r
  rw [h1, Option.bind_some]
  rcases h3 with ⟨h4, ⟨i, hi, hL, hn⟩, hu⟩ | ⟨h4, h5, h6⟩
  · simp only at h4 hL hn hu ⊢
    subst h4
    subst hn
    obtain rfl : i = 0 := by omega
    have hs := Ut_small hu
    have hp := P_Put (b := []) hs (by simp)
    rw [if_pos hu, List.nil_append] at hp
    have hpos := encU_pos m.length
    have hlen : 0 < (encT m).length := by unfold encT; rw [List.length_append]; omega
    have hle := hL.1
    have hcut := cutI_ok (l := b) (a := 0) (b := 0 + (encT m).length) (by omega) (by omega)
    rw [show ((0 : Nat) : Int) = 0 from rfl, Nat.zero_add, List.drop_zero] at hcut
    have htk : b.take (encT m).length = encT m := by have := hL.2; rwa [List.drop_zero] at this
    rw [htk] at hcut
    have hE : F_ref00_EqBytes (encT m) (encT m) = some true := by
      unfold F_ref00_EqBytes
      rw [if_pos ⟨by omega, by omega⟩, decide_eq_true rfl]
    rw [bneF rfl, if_neg (by simp), hp, Option.bind_some, P_URight hs, hu, Option.bind_some]
    simp only [Nat.zero_add]
    rw [decT (show ((encT m).length : Int) ≥ 1 by omega), decT (show ((encT m).length : Int) ≤ b.length by omega)]
    simp only [beq_self_eq_true, Bool.and_self, if_true, hcut, Option.bind_some, hE, P_works08]
  · simp only at h4 h5 h6 ⊢
    subst h5; subst h6
    rw [bneT h4, if_pos rfl]
    simp only [List.length_nil, P_works08]
    rfl
theorem P_UnwindBack (p0 : List UInt8) (p1 : List Ue) (p2 : List UInt8) (hm : p1.length ≤ maxLen) : F_law08_UnwindBack p0 p1 p2 = some true := by
  unfold F_law08_UnwindBack
  by_cases hb : (p0.length : Int) > 1024 ∨ (p2.length : Int) > 4096
  · rw [if_pos (by simpa using hb), Option.bind_some, if_pos rfl, P_works08]; rfl
  obtain ⟨v, hv, hv2⟩ := P_vast (v := ⟨[], [], 0, []⟩) hm
  rw [if_neg (by simpa using hb), hv, Option.bind_some, Option.bind_some]
  cases v
  · obtain ⟨h5, h6⟩ := hv2 rfl
    have hs : small p1 := ⟨by omega, fun x hx => by have := h6 x hx; omega⟩
    rw [if_neg (by simp), P_Twin hs, Option.bind_some, P_Put hs (by omega), Option.bind_some, P_URight hs, Option.bind_some]
    cases hu : Ut p1
    · simp only [Bool.false_eq_true, if_false]
      rw [if_neg (by simp), if_neg (by simp), if_neg (by simp)]
      exact P_Back3 (by omega)
    · have hE := encT_len hu
      simp only [if_true]
      rw [if_neg (by simp), if_pos (by rfl), P_CopyBytes (by simp; omega), Option.bind_some, room_ok (by simp; omega), Option.bind_some, P_Get (by simp; omega) hu, Option.bind_some]
      simp only
      rw [bneF rfl, bneF rfl, Bool.or_self, if_neg (by simp), P_Same8 hs hs.1, decT rfl]
      simp only [Option.bind_some, Bool.not_true, Bool.false_eq_true, if_false]
      exact P_Back3 (by omega)
  · rw [if_pos rfl, P_works08]; rfl
end Go.Proofs.Ytneonhnackjdjaa
