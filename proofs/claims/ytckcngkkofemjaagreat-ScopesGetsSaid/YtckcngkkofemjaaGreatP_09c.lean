import Derived.Test.YtckcngkkofemjaaGreatP_01
import Derived.Test.YtckcngkkofemjaaGreatP_07b
import Derived.Test.YtckcngkkofemjaaGreatP_09
namespace Go.Proofs.YtckcngkkofemjaaGreat
open Go.Ab Go.RowKit
set_option linter.unusedVariables false
set_option linter.unusedSimpArgs false
abbrev Rd := zp
def RdS {α : Type} (b : List UInt8) (P : Rd → Option (α × Rd)) (E : α → List UInt8) (V : α → Prop) : Prop :=
 ∀ (a : Int) (f : Bool), 0 ≤ a → a ≤ b.length → ∃ x q, P ⟨b, a, f⟩ = some (x, q) ∧ q.b = b ∧ 0 ≤ q.at_ ∧ q.at_ ≤ b.length ∧ (q.failed = true ∨ (f = false ∧ q.failed = false ∧ V x ∧ ∃ i : Nat, a = i ∧ zbA b i (E x) ∧ q.at_ = ((i + (E x).length : Nat) : Int)))
def zbM (x : Int) : List UInt8 := zS x.toNat
theorem zc5 {b : List UInt8} (hb : b.length ≤ 100000000000) {m : Int} (hm : 0 ≤ m ∧ m ≤ 1000000000) : RdS b (fun q => zbB q m) zbM (fun x => 0 ≤ x ∧ x ≤ m) := by
 intro a f h0 h1
 show ∃ x q, zbB ⟨b, a, f⟩ m = some (x, q) ∧ _
 unfold zbB
 simp only
 rw [F_U (by omega) (by omega), Option.bind_some, zct (x := m) (by omega)]
 simp only
 by_cases hc : (f || ((rdU b a).2.2 != 0) || decide (((rdU b a).1 : Int) > m)) = true
 ·rw [if_pos hc]
  exact ⟨_, _, rfl, rfl, h0, h1, .inl rfl⟩
 ·rw [if_neg hc]
  simp only [Bool.or_eq_true, bne_iff_ne, decide_eq_true_eq, not_or, ne_eq, Decidable.not_not] at hc
  obtain ⟨⟨hf, he⟩, hm'⟩ := hc
  have hf' : f = false := by simpa using hf
  obtain ⟨i, x, hi, hx, hL, _⟩ := zcf he
  have hle := hL.1
  rw [hx] at hm' ⊢
  simp only at hm' ⊢
  rw [zbc (by omega)]
  refine ⟨_, _, rfl, rfl, by simp only; omega, by simp only; omega, .inr ⟨hf', hf', by omega, i, hi, ?_⟩⟩
  have : zbM (x : Int) = zS x := by unfold zbM; rw [Int.toNat_natCast]
  rw [this]
  exact ⟨hL, rfl⟩
def txE (s : ByteArray) : List UInt8 := UInt8.ofNat s.size :: s.data.toList
theorem zes {b : List UInt8} (hb : b.length ≤ 100000000000) : RdS b zcx txE (fun s => s.size ≤ 255) := by
 intro a f h0 h1
 obtain ⟨k, rfl⟩ : ∃ k : Nat, a = k := ⟨a.toNat, by omega⟩
 unfold zcx
 simp only
 by_cases hk : k < b.length
 ·by_cases hg : k + 1 + b[k].toNat ≤ b.length
  ·rw [zkn (by omega) hk hg, Option.bind_some]
   simp only
   by_cases hf : f = true
   ·rw [hf, Bool.true_or, if_pos rfl]
    exact ⟨_, _, rfl, rfl, h0, h1, .inl rfl⟩
   ·have hf' : f = false := by simpa using hf
    rw [hf', zbI rfl, Bool.or_self, if_neg (by simp)]
    have h256 := b[k].toNat_lt
    have hsz : (txt b (k + 1) b[k].toNat).size = b[k].toNat := by
     show (((b.drop (k + 1)).take b[k].toNat).toArray).size = _
     simp
     omega
    have hE : txE (txt b (k + 1) b[k].toNat) = b[k] :: (b.drop (k + 1)).take b[k].toNat := by
     unfold txE
     rw [hsz]
     congr 1
     simp
    refine ⟨_, _, rfl, rfl, by simp only; omega, by simp only; omega, .inr ⟨rfl, rfl, by rw [hsz]; omega, k, rfl, ?_⟩⟩
    rw [hE]
    have hlen : (b[k] :: (b.drop (k + 1)).take b[k].toNat).length = 1 + b[k].toNat := by simp; omega
    refine ⟨⟨by rw [hlen]; omega, ?_⟩, by rw [hlen]; simp only; omega⟩
    rw [hlen, List.drop_eq_getElem_cons hk, Nat.add_comm 1, List.take_succ_cons]
  ·rw [zkT (by omega) hk (by omega), Option.bind_some]
   simp only
   rw [zbP (by omega), Bool.or_true, if_pos rfl]
   exact ⟨_, _, rfl, rfl, h0, h1, .inl rfl⟩
 ·rw [zkv (by omega), Option.bind_some]
  simp only
  rw [zbP (by omega), Bool.or_true, if_pos rfl]
  exact ⟨_, _, rfl, rfl, h0, h1, .inl rfl⟩
def byE (x : Int) : List UInt8 := [UInt8.ofNat x.toNat]
theorem zmn {b : List UInt8} (hb : b.length ≤ 100000000000) : RdS b zck byE (fun x => 0 ≤ x ∧ x < 256) := by
 intro a f h0 h1
 obtain ⟨k, rfl⟩ : ∃ k : Nat, a = k := ⟨a.toNat, by omega⟩
 unfold zck
 simp only
 by_cases hk : k < b.length
 ·rw [zea (by omega) hk, Option.bind_some]
  simp only
  by_cases hf : f = true
  ·rw [hf, Bool.true_or, if_pos rfl]
   exact ⟨_, _, rfl, rfl, h0, h1, .inl rfl⟩
  ·have hf' : f = false := by simpa using hf
   have h256 := b[k].toNat_lt
   rw [hf', zbI rfl, Bool.or_self, if_neg (by simp)]
   refine ⟨_, _, rfl, rfl, by simp only; omega, by simp only; omega, .inr ⟨rfl, rfl, by omega, k, rfl, ?_⟩⟩
   have hE : byE (b[k].toNat : Int) = [b[k]] := by unfold byE; simp
   rw [hE]
   exact ⟨zbA.one hk, rfl⟩
 ·rw [zgH (by omega), Option.bind_some]
  simp only
  rw [zbP (by omega), Bool.or_true, if_pos rfl]
  exact ⟨_, _, rfl, rfl, h0, h1, .inl rfl⟩
def spV (l : List Sp) : Prop := St l = true ∧ ∀ x ∈ l, inr x.At
theorem zkL {b : List UInt8} (hb : b.length ≤ 100000000000) : RdS b zdI zdp spV := by
 intro a f h0 h1
 unfold zdI
 simp only
 rw [zjN hb, Option.bind_some]
 rcases zp4 b a with (h | h) | ⟨l, i, hi, h, hL, hS, hr⟩
 ·rw [h, zbP (by simp), Bool.or_true, if_pos rfl]
  exact ⟨_, _, rfl, rfl, h0, h1, .inl rfl⟩
 ·rw [h, zbP (by simp), Bool.or_true, if_pos rfl]
  exact ⟨_, _, rfl, rfl, h0, h1, .inl rfl⟩
 ·rw [h, zbI rfl]
  have hle := hL.1
  by_cases hf : f = true
  ·rw [hf, Bool.true_or, if_pos rfl]
   exact ⟨_, _, rfl, rfl, h0, h1, .inl rfl⟩
  ·have hf' : f = false := by simpa using hf
   rw [hf', Bool.or_self, if_neg (by simp)]
   exact ⟨_, _, rfl, rfl, by simp only; omega, by simp only; omega, .inr ⟨rfl, rfl, ⟨hS, fun x hx => (hr x hx).1⟩, i, hi, hL, rfl⟩⟩
end Go.Proofs.YtckcngkkofemjaaGreat
