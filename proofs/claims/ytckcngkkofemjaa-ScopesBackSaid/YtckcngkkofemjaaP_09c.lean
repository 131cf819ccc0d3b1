import Derived.Test.YtckcngkkofemjaaAd
import Derived.Test.YtckcngkkofemjaaF
import Derived.Test.YtckcngkkofemjaaPL
import Derived.Test.YtckcngkkofemjaaP_02
import Derived.Test.YtckcngkkofemjaaP_01
import Derived.Test.YtckcngkkofemjaaP_06
import Derived.Test.YtckcngkkofemjaaP_06b
import Derived.Test.YtckcngkkofemjaaP_06c
import Derived.Test.YtckcngkkofemjaaP_07
import Derived.Test.YtckcngkkofemjaaP_07b
import Derived.Test.YtckcngkkofemjaaP_09
namespace Go.Proofs.Ytckcngkkofemjaa
open Go.Ab Go.RowKit
set_option linter.unusedVariables false
set_option linter.unusedSimpArgs false
abbrev Rd := zd
def RdS {α : Type} (b : List UInt8) (P : Rd → Option (α × Rd)) (E : α → List UInt8) (V : α → Prop) : Prop :=
  ∀ (a : Int) (f : Bool), 0 ≤ a → a ≤ b.length → ∃ x q, P ⟨b, a, f⟩ = some (x, q) ∧ q.b = b ∧ 0 ≤ q.at_ ∧ q.at_ ≤ b.length ∧ (q.failed = true ∨ (f = false ∧ q.failed = false ∧ V x ∧ ∃ i : Nat, a = i ∧ LiesL b i (E x) ∧ q.at_ = ((i + (E x).length : Nat) : Int)))
def RdP {α : Type} (P : Rd → Option (α × Rd)) (E : α → List UInt8) (V : α → Prop) : Prop :=
  ∀ (p r : List UInt8) (x : α), V x → (p ++ E x ++ r).length ≤ 100000000000 → P ⟨p ++ E x ++ r, (p.length : Int), false⟩ = some (x, ⟨p ++ E x ++ r, ((p ++ E x).length : Nat), false⟩)
def numE (x : Int) : List UInt8 := encU x.toNat
theorem num_S {b : List UInt8} (hb : b.length ≤ 100000000000) {m : Int} (hm : 0 ≤ m ∧ m ≤ 1000000000) : RdS b (fun q => zr q m) numE (fun x => 0 ≤ x ∧ x ≤ m) := by
  intro a f h0 h1
  show ∃ x q, zr ⟨b, a, f⟩ m = some (x, q) ∧ _
  unfold zr
  simp only
  rw [F_U (by omega) (by omega), Option.bind_some, wu64 (x := m) (by omega)]
  simp only
  by_cases hc : (f || ((rdU b a).2.2 != 0) || decide (((rdU b a).1 : Int) > m)) = true
  · rw [if_pos hc]
    exact ⟨_, _, rfl, rfl, h0, h1, .inl rfl⟩
  · rw [if_neg hc]
    simp only [Bool.or_eq_true, bne_iff_ne, decide_eq_true_eq, not_or, ne_eq, Decidable.not_not] at hc
    obtain ⟨⟨hf, he⟩, hm'⟩ := hc
    have hf' : f = false := by simpa using hf
    obtain ⟨i, x, hi, hx, hL, _⟩ := rdU_lies he
    have hle := hL.1
    rw [hx] at hm' ⊢
    simp only at hm' ⊢
    rw [wi64 (by omega)]
    refine ⟨_, _, rfl, rfl, by simp only; omega, by simp only; omega, .inr ⟨hf', hf', by omega, i, hi, ?_⟩⟩
    have : numE (x : Int) = encU x := by unfold numE; rw [Int.toNat_natCast]
    rw [this]
    exact ⟨hL, rfl⟩
theorem num_P {m : Int} (hm : 0 ≤ m ∧ m ≤ 1000000000) : RdP (fun q => zr q m) numE (fun x => 0 ≤ x ∧ x ≤ m) := by
  intro p r x hx hl
  show zr _ m = _
  obtain ⟨n, rfl⟩ : ∃ n : Nat, x = n := ⟨x.toNat, by omega⟩
  have e : numE (n : Int) = encU n := by unfold numE; rw [Int.toNat_natCast]
  rw [e] at hl ⊢
  unfold zr
  simp only
  rw [F_U (by omega) (by simp at hl ⊢; omega), rdU_put (by omega), Option.bind_some, wu64 (x := m) (by omega)]
  simp only
  rw [if_neg (by simp; omega), wi64 (by omega)]
def txE (s : ByteArray) : List UInt8 := UInt8.ofNat s.size :: s.data.toList
theorem txt_S {b : List UInt8} (hb : b.length ≤ 100000000000) : RdS b zB txE (fun s => s.size ≤ 255) := by
  intro a f h0 h1
  obtain ⟨k, rfl⟩ : ∃ k : Nat, a = k := ⟨a.toNat, by omega⟩
  unfold zB
  simp only
  by_cases hk : k < b.length
  · by_cases hg : k + 1 + b[k].toNat ≤ b.length
    · rw [TextC (by omega) hk hg, Option.bind_some]
      simp only
      by_cases hf : f = true
      · rw [hf, Bool.true_or, if_pos rfl]
        exact ⟨_, _, rfl, rfl, h0, h1, .inl rfl⟩
      · have hf' : f = false := by simpa using hf
        rw [hf', bneF rfl, Bool.or_self, if_neg (by simp)]
        have h256 := b[k].toNat_lt
        have hsz : (txt b (k + 1) b[k].toNat).size = b[k].toNat := by
          show (((b.drop (k + 1)).take b[k].toNat).toArray).size = _
          simp
          omega
        have hE : txE (txt b (k + 1) b[k].toNat) = b[k] :: (b.drop (k + 1)).take b[k].toNat := by
          unfold txE
          rw [hsz]
          congr 1
          simp
        refine ⟨_, _, rfl, rfl, by simp only; omega, by simp only; omega, .inr ⟨rfl, rfl, by rw [hsz]; omega, k, rfl, ?_⟩⟩
        rw [hE]
        have hlen : (b[k] :: (b.drop (k + 1)).take b[k].toNat).length = 1 + b[k].toNat := by simp; omega
        refine ⟨⟨by rw [hlen]; omega, ?_⟩, by rw [hlen]; simp only; omega⟩
        rw [hlen, List.drop_eq_getElem_cons hk, Nat.add_comm 1, List.take_succ_cons]
    · rw [TextD (by omega) hk (by omega), Option.bind_some]
      simp only
      rw [bneT (by omega), Bool.or_true, if_pos rfl]
      exact ⟨_, _, rfl, rfl, h0, h1, .inl rfl⟩
  · rw [TextB (by omega), Option.bind_some]
    simp only
    rw [bneT (by omega), Bool.or_true, if_pos rfl]
    exact ⟨_, _, rfl, rfl, h0, h1, .inl rfl⟩
theorem txt_P : RdP zB txE (fun s => s.size ≤ 255) := by
  intro p r s hs hl
  have hsz : s.data.toList.length = s.size := rfl
  unfold zB
  simp only
  have hk : p.length < (p ++ txE s ++ r).length := by simp [txE]
  have hget : (p ++ txE s ++ r)[p.length] = UInt8.ofNat s.size := by simp [txE]
  have hv : (UInt8.ofNat s.size).toNat = s.size := by rw [UInt8.toNat_ofNat']; omega
  have hT := TextC (by omega) hk (by rw [hget, hv]; simp only [txE, List.length_append, List.length_cons, hsz]; omega)
  rw [hT, Option.bind_some]
  simp only [hget, hv]
  rw [bneF rfl, Bool.or_self, if_neg (by simp)]
  have e : txt (p ++ txE s ++ r) (p.length + 1) s.size = s := by
    unfold txt
    have : ((p ++ txE s ++ r).drop (p.length + 1)).take s.size = s.data.toList := by
      rw [List.append_assoc, List.drop_append, List.drop_of_length_le (show p.length ≤ p.length + 1 by omega), List.nil_append, show p.length + 1 - p.length = 1 by omega]
      simp only [txE, List.cons_append, List.drop_succ_cons, List.drop_zero]
      rw [List.take_append_of_le_length (by omega), List.take_of_length_le (by omega)]
    rw [this]
  rw [e]
  simp only [txE, List.length_append, List.length_cons, hsz]
  rw [show p.length + 1 + s.size = p.length + (s.size + 1) by omega]
def byE (x : Int) : List UInt8 := [UInt8.ofNat x.toNat]
theorem byte_S {b : List UInt8} (hb : b.length ≤ 100000000000) : RdS b zJ byE (fun x => 0 ≤ x ∧ x < 256) := by
  intro a f h0 h1
  obtain ⟨k, rfl⟩ : ∃ k : Nat, a = k := ⟨a.toNat, by omega⟩
  unfold zJ
  simp only
  by_cases hk : k < b.length
  · rw [OneC (by omega) hk, Option.bind_some]
    simp only
    by_cases hf : f = true
    · rw [hf, Bool.true_or, if_pos rfl]
      exact ⟨_, _, rfl, rfl, h0, h1, .inl rfl⟩
    · have hf' : f = false := by simpa using hf
      have h256 := b[k].toNat_lt
      rw [hf', bneF rfl, Bool.or_self, if_neg (by simp)]
      refine ⟨_, _, rfl, rfl, by simp only; omega, by simp only; omega, .inr ⟨rfl, rfl, by omega, k, rfl, ?_⟩⟩
      have hE : byE (b[k].toNat : Int) = [b[k]] := by unfold byE; simp
      rw [hE]
      exact ⟨LiesL.one hk, rfl⟩
  · rw [OneB (by omega), Option.bind_some]
    simp only
    rw [bneT (by omega), Bool.or_true, if_pos rfl]
    exact ⟨_, _, rfl, rfl, h0, h1, .inl rfl⟩
theorem byte_P : RdP zJ byE (fun x => 0 ≤ x ∧ x < 256) := by
  intro p r x hx hl
  obtain ⟨n, rfl⟩ : ∃ n : Nat, x = n := ⟨x.toNat, by omega⟩
  have hE : byE (n : Int) = [UInt8.ofNat n] := by unfold byE; rw [Int.toNat_natCast]
  rw [hE] at hl ⊢
  have hk : p.length < (p ++ [UInt8.ofNat n] ++ r).length := by simp
  have hget : (p ++ [UInt8.ofNat n] ++ r)[p.length] = UInt8.ofNat n := by simp
  have hv : (UInt8.ofNat n).toNat = n := by rw [UInt8.toNat_ofNat']; omega
  unfold zJ
  simp only
  rw [OneC (by omega) hk, Option.bind_some, hget, hv]
  simp only
  rw [bneF rfl, Bool.or_self, if_neg (by simp)]
  simp
def spV (l : List Sp) : Prop := St l = true ∧ ∀ x ∈ l, inr x.At
theorem spans_S {b : List UInt8} (hb : b.length ≤ 100000000000) : RdS b z5 encSp spV := by
  intro a f h0 h1
  unfold z5
  simp only
  rw [zee hb, Option.bind_some]
  rcases getS_cases b a with (h | h) | ⟨l, i, hi, h, hL, hS, hr⟩
  · rw [h, bneT (by simp), Bool.or_true, if_pos rfl]
    exact ⟨_, _, rfl, rfl, h0, h1, .inl rfl⟩
  · rw [h, bneT (by simp), Bool.or_true, if_pos rfl]
    exact ⟨_, _, rfl, rfl, h0, h1, .inl rfl⟩
  · rw [h, bneF rfl]
    have hle := hL.1
    by_cases hf : f = true
    · rw [hf, Bool.true_or, if_pos rfl]
      exact ⟨_, _, rfl, rfl, h0, h1, .inl rfl⟩
    · have hf' : f = false := by simpa using hf
      rw [hf', Bool.or_self, if_neg (by simp)]
      exact ⟨_, _, rfl, rfl, by simp only; omega, by simp only; omega, .inr ⟨rfl, rfl, ⟨hS, fun x hx => (hr x hx).1⟩, i, hi, hL, rfl⟩⟩
theorem spans_P : RdP z5 encSp spV := by
  intro p r l hl hlen
  unfold z5
  simp only
  rw [zee hlen, getS_put hl.1 hl.2, Option.bind_some]
  simp only
  rw [bneF rfl, Bool.or_self, if_neg (by simp)]
end Go.Proofs.Ytckcngkkofemjaa
