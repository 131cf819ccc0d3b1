import Derived.Test.YtpmlbgaigjdmjaaAd
import Derived.Test.YtpmlbgaigjdmjaaF
import Derived.Test.YtpmlbgaigjdmjaaPL
namespace Go.Proofs.Ytpmlbgaigjdmjaa
open Go.Ab Go.RowKit
set_option linter.unusedVariables false
set_option linter.unusedSimpArgs false
theorem Kept_loop {l : List UInt8} (hl : l.length ≤ 1099511000000) : ∀ (n i : Nat), i ≤ l.length + 8 → l.length + 8 - i < n → F_ref00_Kept_l3 l (l ++ [8, 7, 6, 5, 4, 3, 2, 1]) n (i : Int) = some true
  | 0, i, _, h => by omega
  | n + 1, i, hi, h => by
    show F_ref00_Kept_l3B _ l (l ++ [8, 7, 6, 5, 4, 3, 2, 1]) (i : Int) = some true
    unfold F_ref00_Kept_l3B
    have hlen : (l ++ ([8, 7, 6, 5, 4, 3, 2, 1] : List UInt8)).length = l.length + 8 := by simp
    by_cases hlt : i < l.length + 8
    · rw [decT (by rw [hlen]; omega), if_pos rfl, getI_lt (by rw [hlen]; exact hlt), Option.bind_some, i64_succ (by omega)]
      have ih := Kept_loop hl n (i + 1) (by omega) (by omega)
      by_cases h1 : i < l.length
      · rw [decT (by omega), if_pos rfl, getI_lt h1, Option.bind_some, List.getElem_append_left h1, bneF rfl, if_neg (by simp)]
        exact ih
      · rw [decF (by omega), if_neg (by simp)]
        have e1 : IntKind.i64.wrap (8 + (l.length : Int)) = 8 + l.length := wi64 (by omega)
        have e2 : IntKind.i64.wrap (8 + (l.length : Int) - i) = 8 + l.length - i := wi64 (by omega)
        rw [e1, e2, wu8_mod, bneF, if_neg (by simp)]
        · exact ih
        · rw [List.getElem_append_right (by omega)]
          obtain ⟨k, hk⟩ : ∃ k, i = l.length + k := ⟨i - l.length, by omega⟩
          subst hk
          have : k = 0 ∨ k = 1 ∨ k = 2 ∨ k = 3 ∨ k = 4 ∨ k = 5 ∨ k = 6 ∨ k = 7 := by omega
          simp only [Nat.add_sub_cancel_left]
          rcases this with rfl | rfl | rfl | rfl | rfl | rfl | rfl | rfl <;> simp <;> omega
    · rw [decF (by rw [hlen]; omega), if_neg (by simp)]
theorem Kept_true {l : List UInt8} (hl : l.length ≤ 1099511000000) : F_ref00_Kept l (l ++ [8, 7, 6, 5, 4, 3, 2, 1]) l = some true := by
  unfold F_ref00_Kept
  have hlen : (l ++ ([8, 7, 6, 5, 4, 3, 2, 1] : List UInt8)).length = l.length + 8 := by simp
  have e1 : IntKind.i64.wrap ((l.length : Int) + 8) = ((l.length + 8 : Nat) : Int) := by rw [wi64 (by omega)]; omega
  rw [bneF rfl, e1, decF (by rw [hlen]; omega), Bool.or_self, if_neg (by simp)]
  have := cutI_ok (l := l ++ ([8, 7, 6, 5, 4, 3, 2, 1] : List UInt8)) (a := 0) (b := l.length + 8) (by omega) (by rw [hlen]; exact Nat.le_refl _)
  rw [← hlen] at this ⊢
  rw [List.take_length] at this
  rw [show ((0 : Nat) : Int) = 0 from rfl] at this
  rw [this, Option.bind_some]
  exact Kept_loop hl big 0 (by omega) (big_gt (by omega))
theorem F_PutU {l : List UInt8} {x : Nat} (hl : l.length ≤ 1099511627776) (hx : x < 18446744073709551616) : F_leb_PutU l (x : Int) = some (l ++ encU x) := by
  unfold F_leb_PutU
  rw [if_pos ⟨hl, by omega, by omega⟩, Int.toNat_natCast]
theorem F_PutS {l : List UInt8} {x : Int} (hl : l.length ≤ 1099511627776) (hx : -9223372036854775808 ≤ x ∧ x ≤ 9223372036854775807) : F_leb_PutS l x = some (l ++ encS x) := if_pos ⟨hl, hx.1, hx.2⟩
theorem F_U {l : List UInt8} {x : Int} (hl : l.length ≤ 1099511627776) (hx : -9223372036854775808 ≤ x ∧ x ≤ 9223372036854775807) : F_leb_U l x = some (((rdU l x).1 : Int), (rdU l x).2.1, (rdU l x).2.2) := if_pos ⟨hl, hx.1, hx.2⟩
theorem F_S {l : List UInt8} {x : Int} (hl : l.length ≤ 1099511627776) (hx : -9223372036854775808 ≤ x ∧ x ≤ 9223372036854775807) : F_leb_S l x = some ((rdS l x).1, (rdS l x).2.1, (rdS l x).2.2) := if_pos ⟨hl, hx.1, hx.2⟩
end Go.Proofs.Ytpmlbgaigjdmjaa
