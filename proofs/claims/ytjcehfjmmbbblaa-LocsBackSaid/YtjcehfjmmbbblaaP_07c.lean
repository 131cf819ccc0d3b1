import Derived.Test.YtjcehfjmmbbblaaAd
import Derived.Test.YtjcehfjmmbbblaaF
import Derived.Test.YtjcehfjmmbbblaaPL
import Derived.Test.YtjcehfjmmbbblaaP_02
import Derived.Test.YtjcehfjmmbbblaaP_06
import Derived.Test.YtjcehfjmmbbblaaP_06b
import Derived.Test.YtjcehfjmmbbblaaP_06c
import Derived.Test.YtjcehfjmmbbblaaP_07
import Derived.Test.YtjcehfjmmbbblaaP_07b
namespace Go.Proofs.Ytjcehfjmmbbblaa
open Go.Ab Go.RowKit
set_option linter.unusedVariables false
set_option linter.unusedSimpArgs false
theorem St_small {l : List Sp} (h : St l = true) (hR : ∀ x ∈ l, Rt x.At = true) : smS l := by
  unfold St at h
  simp only [Bool.and_eq_true, decide_eq_true_eq] at h
  exact ⟨by omega, fun x hx => by have := (Rt_ok (hR x hx)).2.1; omega⟩
theorem encSp_len {l : List Sp} (h : St l = true) (hr : ∀ x ∈ l, inr x.At) : 1 ≤ (encSp l).length ∧ (encSp l).length ≤ 880010 := by
  unfold St at h
  simp only [Bool.and_eq_true, decide_eq_true_eq] at h
  have h1 := encSs_len h.1 (by omega) hr
  have h2 := encU_le10 (x := l.length) (by omega)
  have h3 := encU_pos l.length
  simp only [encSp, List.length_append]
  omega
theorem zbZ {b : List UInt8} (hb : b.length ≤ 4096) : zo b = some true := by
  unfold zo
  rw [zcb (by omega), Option.bind_some]
  rcases getS_cases b 0 with (h | h) | ⟨m, i, hi, h, hL, hS, hr⟩
  · rw [h, bneT (by simp), if_pos rfl, z9]; rfl
  · rw [h, bneT (by simp), if_pos rfl, z9]; rfl
  · obtain rfl : i = 0 := by omega
    have hs := St_small hS fun x hx => (hr x hx).2
    have hp := zb8 (b := []) hs (fun x hx => (hr x hx).1) (by simp)
    rw [if_pos hS, List.nil_append] at hp
    have hlen := encSp_len hS fun x hx => (hr x hx).1
    have hle := hL.1
    have hcut := cutI_ok (l := b) (a := 0) (b := 0 + (encSp m).length) (by omega) (by omega)
    rw [show ((0 : Nat) : Int) = 0 from rfl, Nat.zero_add, List.drop_zero] at hcut
    have htk : b.take (encSp m).length = encSp m := by have := hL.2; rwa [List.drop_zero] at this
    rw [htk] at hcut
    have hE : z1 (encSp m) (encSp m) = some true := by
      unfold z1
      rw [if_pos ⟨by omega, by omega⟩, decide_eq_true rfl]
    rw [h, bneF rfl, if_neg (by simp), hp, Option.bind_some, zbi hs, hS, Option.bind_some]
    simp only [Nat.zero_add]
    rw [decT (show ((encSp m).length : Int) ≥ 1 by omega), decT (show ((encSp m).length : Int) ≤ b.length by omega)]
    simp only [beq_self_eq_true, Bool.and_self, if_true, hcut, Option.bind_some, hE, z9]
theorem zct (p0 : List UInt8) (p1 : List Sp) (p2 : List UInt8) (hm : p1.length ≤ maxLen) (hr : ∀ x ∈ p1, inr x.At) : zbo p0 p1 p2 = some true := by
  unfold zbo
  by_cases hb : (p0.length : Int) > 1024 ∨ (p2.length : Int) > 4096
  · rw [if_pos (by simpa using hb), Option.bind_some, if_pos rfl, z9]; rfl
  obtain ⟨v, hv, hv2⟩ := zcn hm
  rw [if_neg (by simpa using hb), hv, Option.bind_some, Option.bind_some]
  cases v
  · obtain ⟨h5, h6⟩ := hv2 rfl
    have hs : smS p1 := ⟨by omega, fun x hx => by have := h6 x hx; omega⟩
    rw [if_neg (by simp), zcN hs, Option.bind_some, zb8 hs hr (by omega), Option.bind_some, zbi hs, Option.bind_some]
    cases hu : St p1
    · simp only [Bool.false_eq_true, if_false]
      rw [if_neg (by simp), if_neg (by simp), if_neg (by simp)]
      exact zbZ (by omega)
    · have hE := encSp_len hu hr
      simp only [if_true]
      rw [if_neg (by simp), if_pos (by rfl), zcJ (by simp; omega), Option.bind_some, room_ok (by simp; omega), Option.bind_some, zcb (by simp; omega), getS_put hu hr, Option.bind_some]
      simp only
      rw [bneF rfl, bneF rfl, Bool.or_self, if_neg (by simp), zcm hs, decT rfl]
      simp only [Option.bind_some, Bool.not_true, Bool.false_eq_true, if_false]
      exact zbZ (by omega)
  · rw [if_pos rfl, z9]; rfl
end Go.Proofs.Ytjcehfjmmbbblaa
