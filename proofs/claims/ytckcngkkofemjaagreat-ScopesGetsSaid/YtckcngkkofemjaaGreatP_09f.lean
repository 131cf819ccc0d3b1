import Derived.Test.YtckcngkkofemjaaGreatP_09e
namespace Go.Proofs.YtckcngkkofemjaaGreat
open Go.Ab Go.RowKit
set_option linter.unusedVariables false
set_option linter.unusedSimpArgs false
def StS {σ α : Type} (b : List UInt8) (P : Rd → σ → Option (α × Rd × σ)) (R : σ → α → σ → List UInt8 → Prop) (sz : σ → Nat) : Prop :=
 ∀ (a : Int) (f : Bool) (st : σ), 0 ≤ a → a ≤ b.length → sz st ≤ 1000000 → ∃ x q st', P ⟨b, a, f⟩ st = some (x, q, st') ∧ q.b = b ∧ 0 ≤ q.at_ ∧ q.at_ ≤ b.length ∧ sz st' ≤ sz st + 1 ∧ (q.failed = true ∨ (f = false ∧ q.failed = false ∧ ∃ (e : List UInt8) (i : Nat), R st x st' e ∧ a = i ∧ zbA b i e ∧ q.at_ = ((i + e.length : Nat) : Int)))
def Ch {σ α : Type} (R : σ → α → σ → List UInt8 → Prop) : σ → List α → σ → List UInt8 → Prop
 | st, [], st', e => st' = st ∧ e = []
 | st, x :: l, st', e => ∃ s1 e1 e2, R st x s1 e1 ∧ Ch R s1 l st' e2 ∧ e = e1 ++ e2
theorem zlr {σ α : Type} {b : List UInt8} {P : Rd → σ → Option (α × Rd × σ)} {R : σ → α → σ → List UInt8 → Prop} {sz : σ → Nat} (hP : StS b P R sz) {L : Nat → List UInt8 → Int → Bool → σ → List α → Int → Option (List α × Rd × σ)}
  (hL : ∀ n b a f st acc c, L (n + 1) b a f st acc c = if (decide (c > 0) && (!f)) = true then (P ⟨b, a, f⟩ st).bind fun q => (room (acc.length + 1)).bind fun _ => L n q.2.1.b q.2.1.at_ q.2.1.failed q.2.2 (acc ++ [q.1]) (IntKind.i64.wrap (c - 1)) else some (acc, ⟨b, a, f⟩, st)) :
  ∀ (n k : Nat) (a : Int) (f : Bool) (st : σ) (acc : List α), k < n → acc.length + k ≤ 1000000 → sz st + k ≤ 1000000 → 0 ≤ a → a ≤ b.length → ∃ l q st', L n b a f st acc (k : Int) = some (acc ++ l, q, st') ∧ q.b = b ∧ 0 ≤ q.at_ ∧ q.at_ ≤ b.length ∧ l.length ≤ k ∧ (q.failed = true ∨ (f = false ∧ q.failed = false ∧ l.length = k ∧ ∃ (e : List UInt8) (i : Nat), Ch R st l st' e ∧ a = i ∧ zbA b i e ∧ q.at_ = ((i + e.length : Nat) : Int)))
 | 0, k, _, _, _, _, h, _, _, _, _ => by omega
 | n + 1, k, a, f, st, acc, hn, hk, hsz, h0, h1 => by
  rw [hL]
  cases f with
  | true =>
   rw [Bool.not_true, Bool.and_false, if_neg (by simp)]
   exact ⟨[], _, st, by rw [List.append_nil], rfl, h0, h1, by simp, .inl rfl⟩
  | false =>
   cases k with
   | zero =>
    rw [zx (by simp), Bool.false_and, if_neg (by simp)]
    obtain ⟨i, rfl⟩ : ∃ i : Nat, a = i := ⟨a.toNat, by omega⟩
    exact ⟨[], _, st, by rw [List.append_nil], rfl, h0, h1, by simp, .inr ⟨rfl, rfl, rfl, [], i, ⟨rfl, rfl⟩, rfl, zbA.nil (by omega), by simp⟩⟩
   | succ k =>
    obtain ⟨x, q, s1, e, qb, q0, q1, hs1, hq⟩ := hP a false st h0 h1 (by omega)
    rw [zv (by omega), Bool.not_false, Bool.and_self, if_pos rfl, e, Option.bind_some, zbF (by omega), Option.bind_some]
    simp only
    rw [qb, zbc (by omega), show ((k + 1 : Nat) : Int) - 1 = (k : Int) by omega]
    obtain ⟨l, q2, st', e2, qb2, q02, q12, hle, hq2⟩ := zlr hP hL n k q.at_ q.failed s1 (acc ++ [x]) (by omega) (by simp; omega) (by omega) q0 q1
    refine ⟨x :: l, q2, st', by rw [e2, List.append_assoc]; rfl, qb2, q02, q12, by simp; omega, ?_⟩
    rcases hq2 with hq2 | ⟨g1, g2, g3, ee, i2, g4, g5, g6, g7⟩
    ·exact .inl hq2
    ·rcases hq with hq | ⟨_, _, e0, i, v1, v2, v3, v4⟩
     ·rw [hq] at g1; cases g1
     ·right
      have hi : i2 = i + e0.length := by omega
      subst hi
      refine ⟨by trivial, g2, by simp; omega, e0 ++ ee, i, ⟨s1, e0, ee, v1, g4, rfl⟩, v2, v3.app g6, ?_⟩
      rw [List.length_append, g7]; omega
def R11 (st : Pl) (x : Vr) (st' : Pl) (e : List UInt8) : Prop := vaV x ∧ ∃ sp, spV sp ∧ st' = ⟨st.Name, st.From, st.To, st.Vars, st.Spans ++ [sp]⟩ ∧ e = vaE x ++ zdp sp
theorem zn7 {b : List UInt8} (hb : b.length ≤ 100000000000) : StS b zdS R11 (fun st => st.Spans.length) := by
 intro a f st h0 h1 hsz
 have hsz : st.Spans.length ≤ 1000000 := hsz
 obtain ⟨x, ⟨qb, qa, qf⟩, e1, hqb, a0, a1, g1⟩ := zmE hb a f h0 h1
 simp only at hqb a0 a1 g1
 subst hqb
 obtain ⟨sp, ⟨ub, ua, uf⟩, e2, hub, b0, b1, g2⟩ := zkL hb qa qf a0 a1
 simp only at hub b0 b1 g2
 subst hub
 unfold zdS
 simp only
 rw [e1, Option.bind_some]
 simp only
 rw [e2, Option.bind_some, zbF (by simp; omega), Option.bind_some]
 refine ⟨x, _, _, rfl, rfl, b0, b1, by simp, ?_⟩
 rcases g2 with g2 | ⟨f2, w2, v2, i2, p2, L2, q2⟩
 ·exact .inl g2
 rcases g1 with g1 | ⟨f1, w1, v1, i1, p1, L1, q1⟩
 ·rw [g1] at f2; cases f2
 right
 obtain rfl : i2 = i1 + (vaE x).length := by omega
 exact ⟨f1, w2, vaE x ++ zdp sp, i1, ⟨v1, sp, v2, rfl, rfl⟩, p1, L1.app L2, by simp only; rw [q2, List.length_append]; omega⟩
theorem zdt {q q' : Rd} {m x : Int} (hm : 0 ≤ m ∧ m ≤ 1000000000) (hb : q.b.length ≤ 100000000000) (ha : 0 ≤ q.at_ ∧ q.at_ ≤ q.b.length) (h : zbB q m = some (x, q')) : 0 ≤ x ∧ x ≤ m := by
 unfold zbB at h
 rw [F_U (by omega) (by omega), Option.bind_some, zct (x := m) (by omega)] at h
 simp only at h
 split at h
 ·injection h with h
  injection h with h
  omega
 ·rename_i hc
  simp only [Bool.or_eq_true, decide_eq_true_eq, not_or] at hc
  injection h with h
  injection h with h
  rw [zbc (by omega)] at h
  omega
theorem zko {σ α : Type} {b : List UInt8} {P : Rd → σ → Option (α × Rd × σ)} {R : σ → α → σ → List UInt8 → Prop} {sz : σ → Nat} (hb : b.length ≤ 100000000000) {m : Int} (hm : 0 ≤ m ∧ m ≤ 100000) (hP : StS b P R sz) {L : Nat → List UInt8 → Int → Bool → σ → List α → Int → Option (List α × Rd × σ)}
  (hL : ∀ n b a f st acc c, L (n + 1) b a f st acc c = if (decide (c > 0) && (!f)) = true then (P ⟨b, a, f⟩ st).bind fun q => (room (acc.length + 1)).bind fun _ => L n q.2.1.b q.2.1.at_ q.2.1.failed q.2.2 (acc ++ [q.1]) (IntKind.i64.wrap (c - 1)) else some (acc, ⟨b, a, f⟩, st))
  (a : Int) (f : Bool) (st : σ) (h0 : 0 ≤ a) (h1 : a ≤ b.length) (hsz : sz st ≤ 100) :
  ∃ l q st', ((zbB ⟨b, a, f⟩ m).bind fun c => L big c.2.b c.2.at_ c.2.failed st [] c.1) = some (l, q, st') ∧ q.b = b ∧ 0 ≤ q.at_ ∧ q.at_ ≤ b.length ∧ (q.failed = true ∨ (f = false ∧ q.failed = false ∧ (l.length : Int) ≤ m ∧ ∃ (e : List UInt8) (i : Nat), Ch R st l st' e ∧ a = i ∧ zbA b i (zS l.length ++ e) ∧ q.at_ = ((i + (zS l.length ++ e).length : Nat) : Int))) := by
 obtain ⟨x, q, e, qb, q0, q1, hq⟩ := zc5 hb (m := m) (by omega) a f h0 h1
 have hx := zdt (by omega) hb ⟨h0, h1⟩ e
 simp only at e
 rw [e, Option.bind_some, qb]
 obtain ⟨k, rfl⟩ : ∃ k : Nat, x = k := ⟨x.toNat, by omega⟩
 obtain ⟨l, q2, st', e2, qb2, q02, q12, hle, hq2⟩ := zlr hP hL big k q.at_ q.failed st [] (zbj (by omega)) (by simp; omega) (by omega) q0 q1
 rw [List.nil_append] at e2
 refine ⟨l, q2, st', e2, qb2, q02, q12, ?_⟩
 rcases hq2 with hq2 | ⟨g1, g2, g3, ee, i2, g5, g4, g6, g7⟩
 ·exact .inl hq2
 ·rcases hq with hq | ⟨f1, f2, v1, i, v2, v3, v4⟩
  ·rw [hq] at g1; cases g1
  ·right
   have hE : zbM (k : Int) = zS l.length := by unfold zbM; rw [Int.toNat_natCast, g3]
   rw [hE] at v3 v4
   have hi : i2 = i + (zS l.length).length := by omega
   subst hi
   refine ⟨f1, g2, by omega, ee, i, g5, v2, v3.app g6, ?_⟩
   rw [g7, List.length_append]
   omega
end Go.Proofs.YtckcngkkofemjaaGreat
