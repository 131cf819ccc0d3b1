import Derived.Test.YtckcngkkofemjaaAd
import Derived.Test.YtckcngkkofemjaaF
import Derived.Test.YtckcngkkofemjaaPL
import Derived.Test.YtckcngkkofemjaaP_02
import Derived.Test.YtckcngkkofemjaaP_01
import Derived.Test.YtckcngkkofemjaaP_06
import Derived.Test.YtckcngkkofemjaaP_06b
import Derived.Test.YtckcngkkofemjaaP_06c
import Derived.Test.YtckcngkkofemjaaP_07
import Derived.Test.YtckcngkkofemjaaP_07b
import Derived.Test.YtckcngkkofemjaaP_09
import Derived.Test.YtckcngkkofemjaaP_09c
import Derived.Test.YtckcngkkofemjaaP_09d
import Derived.Test.YtckcngkkofemjaaP_09e
import Derived.Test.YtckcngkkofemjaaP_09f
import Derived.Test.YtckcngkkofemjaaP_09g
import Derived.Test.YtckcngkkofemjaaP_09h
import Derived.Test.YtckcngkkofemjaaP_09i
import Derived.Test.YtckcngkkofemjaaP_09j
import Derived.Test.YtckcngkkofemjaaP_09k
import Derived.Test.YtckcngkkofemjaaP_09l
import Derived.Test.YtckcngkkofemjaaP_09m
import Derived.Test.YtckcngkkofemjaaO
namespace Go.Proofs.Ytckcngkkofemjaa
open Go.Ab Go.RowKit
set_option linter.unusedVariables false
set_option linter.unusedSimpArgs false
theorem zec {b : List UInt8} (hb : b.length ≤ 4096) : zbo b = some true := by
  unfold zbo
  obtain ⟨r, e, h⟩ := zfB (b := b) (by omega) 0
  rw [e, Option.bind_some]
  rcases h with (h | h) | ⟨l, q, i, hi, h, hL, hB, hv⟩
  · rw [h, bneT (by simp), if_pos rfl, zcT]; rfl
  · rw [h, bneT (by simp), if_pos rfl, zcT]; rfl
  · obtain rfl : i = 0 := by omega
    obtain ⟨s1, s2, s3, s4⟩ := tbV_sm hv
    have hp := zd3 (b := []) s1 s2 s3 s4 (by simp)
    rw [if_pos hB, List.nil_append] at hp
    have hlen := encTab_len hv
    have hle := hL.1
    have hcut := cutI_ok (l := b) (a := 0) (b := 0 + (encTab l q).length) (by omega) (by omega)
    rw [show ((0 : Nat) : Int) = 0 from rfl, Nat.zero_add, List.drop_zero] at hcut
    have htk : b.take (encTab l q).length = encTab l q := by have := hL.2; rwa [List.drop_zero] at this
    rw [htk] at hcut
    have hE : zck (encTab l q) (encTab l q) = some true := by
      unfold zck
      rw [if_pos ⟨by omega, by omega⟩, decide_eq_true rfl]
    rw [h, bneF rfl, if_neg (by simp), hp, Option.bind_some, zb4 s1 s2 s3, hB, Option.bind_some]
    simp only [Nat.zero_add]
    rw [decT (show ((encTab l q).length : Int) ≥ 2 by omega), decT (show ((encTab l q).length : Int) ≤ b.length by omega)]
    simp only [beq_self_eq_true, Bool.and_self, if_true, hcut, Option.bind_some, hE, zcT]
theorem zfJ (p0 : List UInt8) (p1 : zu) (p2 : List UInt8) (hw : ∀ x ∈ p1.L, smW x) (hi : ∀ x ∈ p1.L, inP x) : zdj p0 p1 p2 = some true := by
  unfold zdj
  by_cases hb : (p0.length : Int) > 1024 ∨ (p2.length : Int) > 4096
  · rw [if_pos (by simpa using hb), Option.bind_some, if_pos rfl, zcT]; rfl
  obtain ⟨v, hv, hv2⟩ := zew p1
  obtain ⟨L, Q⟩ := p1
  rw [if_neg (by simpa using hb), show zbi _ = _ from hv, Option.bind_some, Option.bind_some]
  simp only at hw hi hv2 ⊢
  cases v
  · obtain ⟨h5, h6⟩ := hv2 rfl
    rw [if_neg (by simp), zeC h5, Option.bind_some, zeU h6, Option.bind_some, zd3 h5 hw h6 hi (by omega), Option.bind_some, zb4 h5 hw h6, Option.bind_some]
    cases hu : RB L Q
    · simp only [Bool.false_eq_true, if_false]
      rw [if_neg (by simp), if_neg (by simp), if_neg (by simp)]
      exact zec (by omega)
    · have hV := RB_V hu hi
      have hE := encTab_len hV
      simp only [if_true]
      rw [if_neg (by simp), if_pos (by rfl), zeJ (by simp; omega), Option.bind_some, room_ok (by simp; omega), Option.bind_some, zfE hV hu (by simp; omega), Option.bind_some]
      simp only
      rw [bneF rfl, bneF rfl, Bool.or_self, if_neg (by simp), zeI h5, Option.bind_some, Option.bind_some, Bool.not_true, if_neg (by simp), ze0 h6]
      simp only [Option.bind_some, Bool.not_true, Bool.false_eq_true, if_false]
      exact zec (by omega)
  · rw [if_pos rfl, zcT]; rfl
theorem okT_smW {x : Pl} (h1 : x.Name.size ≤ maxLen) (h2 : ∀ v ∈ x.Vars, v.Name.size ≤ maxLen ∧ v.Type_.Name.size ≤ maxLen ∧ v.Fields.length ≤ maxLen ∧ ∀ y ∈ v.Fields, y.size ≤ maxLen) : smW x := by
  have hmx : maxLen ≤ 9223372036854775807 := by decide
  exact ⟨by omega, fun v hv => by
    obtain ⟨a1, a2, a3, a4⟩ := h2 v hv
    exact ⟨by omega, by omega, by omega, fun y hy => by have := a4 y hy; omega⟩⟩
theorem ok_smW {t : zu} (h : zef t) : (∀ x ∈ t.L, smW x) ∧ ∀ x ∈ t.L, inP x :=
  ⟨fun x hx => okT_smW (h.1.2 x hx).1 fun v hv => by
      have g := (h.1.2 x hx).2.2.2.1.2 v hv
      exact ⟨g.1, g.2.1.2.2, g.2.2.2.1, g.2.2.2.2⟩,
   fun x hx s hs y hy z hz => (((h.1.2 x hx).2.2.2.2.2 s hs).2 y hy).2.2.2 z hz |>.2⟩
end Go.Proofs.Ytckcngkkofemjaa
