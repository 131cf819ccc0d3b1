import Derived.Test.YtckcngkkofemjaaAd
import Derived.Test.YtckcngkkofemjaaF
import Derived.Test.YtckcngkkofemjaaPL
import Derived.Test.YtckcngkkofemjaaP_02
import Derived.Test.YtckcngkkofemjaaP_01
import Derived.Test.YtckcngkkofemjaaP_06
import Derived.Test.YtckcngkkofemjaaP_06b
import Derived.Test.YtckcngkkofemjaaP_06c
import Derived.Test.YtckcngkkofemjaaP_07
import Derived.Test.YtckcngkkofemjaaP_07b
import Derived.Test.YtckcngkkofemjaaP_09
import Derived.Test.YtckcngkkofemjaaP_09c
import Derived.Test.YtckcngkkofemjaaP_09d
import Derived.Test.YtckcngkkofemjaaP_09e
namespace Go.Proofs.Ytckcngkkofemjaa
open Go.Ab Go.RowKit
set_option linter.unusedVariables false
set_option linter.unusedSimpArgs false
def StS {σ α : Type} (b : List UInt8) (P : Rd → σ → Option (α × Rd × σ)) (R : σ → α → σ → List UInt8 → Prop) (sz : σ → Nat) : Prop :=
  ∀ (a : Int) (f : Bool) (st : σ), 0 ≤ a → a ≤ b.length → sz st ≤ 1000000 → ∃ x q st', P ⟨b, a, f⟩ st = some (x, q, st') ∧ q.b = b ∧ 0 ≤ q.at_ ∧ q.at_ ≤ b.length ∧ sz st' ≤ sz st + 1 ∧ (q.failed = true ∨ (f = false ∧ q.failed = false ∧ ∃ (e : List UInt8) (i : Nat), R st x st' e ∧ a = i ∧ LiesL b i e ∧ q.at_ = ((i + e.length : Nat) : Int)))
def StP {σ α : Type} (P : Rd → σ → Option (α × Rd × σ)) (R : σ → α → σ → List UInt8 → Prop) (sz : σ → Nat) : Prop :=
  ∀ (p r : List UInt8) (st : σ) (x : α) (st' : σ) (e : List UInt8), R st x st' e → sz st ≤ 1000000 → (p ++ e ++ r).length ≤ 100000000000 → P ⟨p ++ e ++ r, (p.length : Int), false⟩ st = some (x, ⟨p ++ e ++ r, ((p ++ e).length : Nat), false⟩, st') ∧ sz st' ≤ sz st + 1
def Ch {σ α : Type} (R : σ → α → σ → List UInt8 → Prop) : σ → List α → σ → List UInt8 → Prop
  | st, [], st', e => st' = st ∧ e = []
  | st, x :: l, st', e => ∃ s1 e1 e2, R st x s1 e1 ∧ Ch R s1 l st' e2 ∧ e = e1 ++ e2
theorem listR_S {σ α : Type} {b : List UInt8} {P : Rd → σ → Option (α × Rd × σ)} {R : σ → α → σ → List UInt8 → Prop} {sz : σ → Nat} (hP : StS b P R sz) {L : Nat → List UInt8 → Int → Bool → σ → List α → Int → Option (List α × Rd × σ)}
    (hL : ∀ n b a f st acc c, L (n + 1) b a f st acc c = if (decide (c > 0) && (!f)) = true then (P ⟨b, a, f⟩ st).bind fun q => (room (acc.length + 1)).bind fun _ => L n q.2.1.b q.2.1.at_ q.2.1.failed q.2.2 (acc ++ [q.1]) (IntKind.i64.wrap (c - 1)) else some (acc, ⟨b, a, f⟩, st)) :
    ∀ (n k : Nat) (a : Int) (f : Bool) (st : σ) (acc : List α), k < n → acc.length + k ≤ 1000000 → sz st + k ≤ 1000000 → 0 ≤ a → a ≤ b.length → ∃ l q st', L n b a f st acc (k : Int) = some (acc ++ l, q, st') ∧ q.b = b ∧ 0 ≤ q.at_ ∧ q.at_ ≤ b.length ∧ l.length ≤ k ∧ (q.failed = true ∨ (f = false ∧ q.failed = false ∧ l.length = k ∧ ∃ (e : List UInt8) (i : Nat), Ch R st l st' e ∧ a = i ∧ LiesL b i e ∧ q.at_ = ((i + e.length : Nat) : Int)))
  | 0, k, _, _, _, _, h, _, _, _, _ => by omega
  | n + 1, k, a, f, st, acc, hn, hk, hsz, h0, h1 => by
    rw [hL]
    cases f with
    | true =>
      rw [Bool.not_true, Bool.and_false, if_neg (by simp)]
      exact ⟨[], _, st, by rw [List.append_nil], rfl, h0, h1, by simp, .inl rfl⟩
    | false =>
      cases k with
      | zero =>
        rw [decF (by simp), Bool.false_and, if_neg (by simp)]
        obtain ⟨i, rfl⟩ : ∃ i : Nat, a = i := ⟨a.toNat, by omega⟩
        exact ⟨[], _, st, by rw [List.append_nil], rfl, h0, h1, by simp, .inr ⟨rfl, rfl, rfl, [], i, ⟨rfl, rfl⟩, rfl, LiesL.nil (by omega), by simp⟩⟩
      | succ k =>
        obtain ⟨x, q, s1, e, qb, q0, q1, hs1, hq⟩ := hP a false st h0 h1 (by omega)
        rw [decT (by omega), Bool.not_false, Bool.and_self, if_pos rfl, e, Option.bind_some, room_ok (by omega), Option.bind_some]
        simp only
        rw [qb, wi64 (by omega), show ((k + 1 : Nat) : Int) - 1 = (k : Int) by omega]
        obtain ⟨l, q2, st', e2, qb2, q02, q12, hle, hq2⟩ := listR_S hP hL n k q.at_ q.failed s1 (acc ++ [x]) (by omega) (by simp; omega) (by omega) q0 q1
        refine ⟨x :: l, q2, st', by rw [e2, List.append_assoc]; rfl, qb2, q02, q12, by simp; omega, ?_⟩
        rcases hq2 with hq2 | ⟨g1, g2, g3, ee, i2, g4, g5, g6, g7⟩
        · exact .inl hq2
        · rcases hq with hq | ⟨_, _, e0, i, v1, v2, v3, v4⟩
          · rw [hq] at g1; cases g1
          · right
            have hi : i2 = i + e0.length := by omega
            subst hi
            refine ⟨by trivial, g2, by simp; omega, e0 ++ ee, i, ⟨s1, e0, ee, v1, g4, rfl⟩, v2, v3.app g6, ?_⟩
            rw [List.length_append, g7]; omega
theorem listR_P {σ α : Type} {P : Rd → σ → Option (α × Rd × σ)} {R : σ → α → σ → List UInt8 → Prop} {sz : σ → Nat} (hP : StP P R sz) {L : Nat → List UInt8 → Int → Bool → σ → List α → Int → Option (List α × Rd × σ)}
    (hL : ∀ n b a f st acc c, L (n + 1) b a f st acc c = if (decide (c > 0) && (!f)) = true then (P ⟨b, a, f⟩ st).bind fun q => (room (acc.length + 1)).bind fun _ => L n q.2.1.b q.2.1.at_ q.2.1.failed q.2.2 (acc ++ [q.1]) (IntKind.i64.wrap (c - 1)) else some (acc, ⟨b, a, f⟩, st)) (r : List UInt8) :
    ∀ (n : Nat) (l : List α) (p : List UInt8) (st st' : σ) (e : List UInt8) (acc : List α), l.length < n → acc.length + l.length ≤ 1000000 → sz st + l.length ≤ 1000000 → Ch R st l st' e → (p ++ e ++ r).length ≤ 100000000000 → L n (p ++ e ++ r) (p.length : Int) false st acc (l.length : Int) = some (acc ++ l, ⟨p ++ e ++ r, ((p ++ e).length : Nat), false⟩, st')
  | 0, l, _, _, _, _, _, h, _, _, _, _ => by omega
  | n + 1, [], p, st, st', e, acc, hn, hk, hsz, hc, hlen => by
    obtain ⟨rfl, rfl⟩ := hc
    rw [hL, decF (by simp), Bool.false_and, if_neg (by simp), List.append_nil, List.append_nil]
  | n + 1, x :: l, p, st, st', e, acc, hn, hk, hsz, hc, hlen => by
    simp only [List.length_cons] at hn hk hsz
    obtain ⟨s1, e1, e2, hr, hc2, rfl⟩ := hc
    have q1 : p ++ (e1 ++ e2) ++ r = p ++ e1 ++ (e2 ++ r) := by simp
    have q2 : p ++ (e1 ++ e2) ++ r = (p ++ e1) ++ e2 ++ r := by simp
    obtain ⟨h1, h2⟩ := hP p (e2 ++ r) st x s1 e1 hr (by omega) (by rw [← q1]; exact hlen)
    rw [← q1] at h1
    have ih := listR_P hP hL r n l (p ++ e1) s1 st' e2 (acc ++ [x]) (by omega) (by simp; omega) (by omega) hc2 (by rw [← q2]; exact hlen)
    rw [← q2] at ih
    rw [hL, decT (by rw [List.length_cons]; omega), Bool.not_false, Bool.and_self, if_pos rfl, h1, Option.bind_some, room_ok (by omega), Option.bind_some, List.length_cons, wi64 (by omega), show ((l.length + 1 : Nat) : Int) - 1 = (l.length : Int) by omega]
    refine Eq.trans ih ?_
    simp
def R11 (st : Pl) (x : Vr) (st' : Pl) (e : List UInt8) : Prop := vaV x ∧ ∃ sp, spV sp ∧ st' = ⟨st.Name, st.From, st.To, st.Vars, st.Spans ++ [sp]⟩ ∧ e = vaE x ++ encSp sp
theorem g11_S {b : List UInt8} (hb : b.length ≤ 100000000000) : StS b zS R11 (fun st => st.Spans.length) := by
  intro a f st h0 h1 hsz
  have hsz : st.Spans.length ≤ 1000000 := hsz
  obtain ⟨x, ⟨qb, qa, qf⟩, e1, hqb, a0, a1, g1⟩ := var_S hb a f h0 h1
  simp only at hqb a0 a1 g1
  subst hqb
  obtain ⟨sp, ⟨ub, ua, uf⟩, e2, hub, b0, b1, g2⟩ := spans_S hb qa qf a0 a1
  simp only at hub b0 b1 g2
  subst hub
  unfold zS
  simp only
  rw [e1, Option.bind_some]
  simp only
  rw [e2, Option.bind_some, room_ok (by simp; omega), Option.bind_some]
  refine ⟨x, _, _, rfl, rfl, b0, b1, by simp, ?_⟩
  rcases g2 with g2 | ⟨f2, w2, v2, i2, p2, L2, q2⟩
  · exact .inl g2
  rcases g1 with g1 | ⟨f1, w1, v1, i1, p1, L1, q1⟩
  · rw [g1] at f2; cases f2
  right
  obtain rfl : i2 = i1 + (vaE x).length := by omega
  exact ⟨f1, w2, vaE x ++ encSp sp, i1, ⟨v1, sp, v2, rfl, rfl⟩, p1, L1.app L2, by simp only; rw [q2, List.length_append]; omega⟩
theorem g11_P : StP zS R11 (fun st => st.Spans.length) := by
  intro p r st x st' e hR hsz hlen
  obtain ⟨v1, sp, v2, rfl, rfl⟩ := hR
  have q1 : p ++ (vaE x ++ encSp sp) ++ r = p ++ vaE x ++ (encSp sp ++ r) := by simp
  have q2 : p ++ (vaE x ++ encSp sp) ++ r = (p ++ vaE x) ++ encSp sp ++ r := by simp
  have h1 := var_P p (encSp sp ++ r) x v1 (by rw [← q1]; exact hlen)
  rw [← q1] at h1
  have h2 := spans_P (p ++ vaE x) r sp v2 (by rw [← q2]; exact hlen)
  rw [← q2] at h2
  refine ⟨?_, by simp⟩
  unfold zS
  simp only
  rw [h1, Option.bind_some]
  simp only
  rw [h2, Option.bind_some, room_ok (by simp at hsz ⊢; omega), Option.bind_some]
  simp
theorem num_rng {q q' : Rd} {m x : Int} (hm : 0 ≤ m ∧ m ≤ 1000000000) (hb : q.b.length ≤ 100000000000) (ha : 0 ≤ q.at_ ∧ q.at_ ≤ q.b.length) (h : zr q m = some (x, q')) : 0 ≤ x ∧ x ≤ m := by
  unfold zr at h
  rw [F_U (by omega) (by omega), Option.bind_some, wu64 (x := m) (by omega)] at h
  simp only at h
  split at h
  · injection h with h
    injection h with h
    omega
  · rename_i hc
    simp only [Bool.or_eq_true, decide_eq_true_eq, not_or] at hc
    injection h with h
    injection h with h
    rw [wi64 (by omega)] at h
    omega
theorem lstR_S {σ α : Type} {b : List UInt8} {P : Rd → σ → Option (α × Rd × σ)} {R : σ → α → σ → List UInt8 → Prop} {sz : σ → Nat} (hb : b.length ≤ 100000000000) {m : Int} (hm : 0 ≤ m ∧ m ≤ 100000) (hP : StS b P R sz) {L : Nat → List UInt8 → Int → Bool → σ → List α → Int → Option (List α × Rd × σ)}
    (hL : ∀ n b a f st acc c, L (n + 1) b a f st acc c = if (decide (c > 0) && (!f)) = true then (P ⟨b, a, f⟩ st).bind fun q => (room (acc.length + 1)).bind fun _ => L n q.2.1.b q.2.1.at_ q.2.1.failed q.2.2 (acc ++ [q.1]) (IntKind.i64.wrap (c - 1)) else some (acc, ⟨b, a, f⟩, st))
    (a : Int) (f : Bool) (st : σ) (h0 : 0 ≤ a) (h1 : a ≤ b.length) (hsz : sz st ≤ 100) :
    ∃ l q st', ((zr ⟨b, a, f⟩ m).bind fun c => L big c.2.b c.2.at_ c.2.failed st [] c.1) = some (l, q, st') ∧ q.b = b ∧ 0 ≤ q.at_ ∧ q.at_ ≤ b.length ∧ (q.failed = true ∨ (f = false ∧ q.failed = false ∧ (l.length : Int) ≤ m ∧ ∃ (e : List UInt8) (i : Nat), Ch R st l st' e ∧ a = i ∧ LiesL b i (encU l.length ++ e) ∧ q.at_ = ((i + (encU l.length ++ e).length : Nat) : Int))) := by
  obtain ⟨x, q, e, qb, q0, q1, hq⟩ := num_S hb (m := m) (by omega) a f h0 h1
  have hx := num_rng (by omega) hb ⟨h0, h1⟩ e
  simp only at e
  rw [e, Option.bind_some, qb]
  obtain ⟨k, rfl⟩ : ∃ k : Nat, x = k := ⟨x.toNat, by omega⟩
  obtain ⟨l, q2, st', e2, qb2, q02, q12, hle, hq2⟩ := listR_S hP hL big k q.at_ q.failed st [] (big_gt (by omega)) (by simp; omega) (by omega) q0 q1
  rw [List.nil_append] at e2
  refine ⟨l, q2, st', e2, qb2, q02, q12, ?_⟩
  rcases hq2 with hq2 | ⟨g1, g2, g3, ee, i2, g5, g4, g6, g7⟩
  · exact .inl hq2
  · rcases hq with hq | ⟨f1, f2, v1, i, v2, v3, v4⟩
    · rw [hq] at g1; cases g1
    · right
      have hE : numE (k : Int) = encU l.length := by unfold numE; rw [Int.toNat_natCast, g3]
      rw [hE] at v3 v4
      have hi : i2 = i + (encU l.length).length := by omega
      subst hi
      refine ⟨f1, g2, by omega, ee, i, g5, v2, v3.app g6, ?_⟩
      rw [g7, List.length_append]
      omega
theorem lstR_P {σ α : Type} {P : Rd → σ → Option (α × Rd × σ)} {R : σ → α → σ → List UInt8 → Prop} {sz : σ → Nat} {m : Int} (hm : 0 ≤ m ∧ m ≤ 100000) (hP : StP P R sz) {L : Nat → List UInt8 → Int → Bool → σ → List α → Int → Option (List α × Rd × σ)}
    (hL : ∀ n b a f st acc c, L (n + 1) b a f st acc c = if (decide (c > 0) && (!f)) = true then (P ⟨b, a, f⟩ st).bind fun q => (room (acc.length + 1)).bind fun _ => L n q.2.1.b q.2.1.at_ q.2.1.failed q.2.2 (acc ++ [q.1]) (IntKind.i64.wrap (c - 1)) else some (acc, ⟨b, a, f⟩, st))
    (p r : List UInt8) (st st' : σ) (l : List α) (e : List UInt8) (hc : Ch R st l st' e) (hl : (l.length : Int) ≤ m) (hsz : sz st ≤ 100) (hlen : (p ++ (encU l.length ++ e) ++ r).length ≤ 100000000000) :
    ((zr ⟨p ++ (encU l.length ++ e) ++ r, (p.length : Int), false⟩ m).bind fun c => L big c.2.b c.2.at_ c.2.failed st [] c.1) = some (l, ⟨p ++ (encU l.length ++ e) ++ r, ((p ++ (encU l.length ++ e)).length : Nat), false⟩, st') := by
  have hN : numE (l.length : Int) = encU l.length := by unfold numE; rw [Int.toNat_natCast]
  have e1 : p ++ (encU l.length ++ e) ++ r = p ++ numE (l.length : Int) ++ (e ++ r) := by rw [hN]; simp
  have e2 : p ++ (encU l.length ++ e) ++ r = (p ++ encU l.length) ++ e ++ r := by simp
  have h1 := num_P (m := m) (by omega) p (e ++ r) (l.length : Int) ⟨by omega, hl⟩ (by rw [← e1]; exact hlen)
  rw [← e1, hN] at h1
  simp only at h1
  rw [h1, Option.bind_some]
  have h2 := listR_P hP hL r big l (p ++ encU l.length) st st' e [] (big_gt (by omega)) (by simp; omega) (by omega) hc (by rw [← e2]; exact hlen)
  rw [← e2] at h2
  simp only
  rw [h2]
  simp
end Go.Proofs.Ytckcngkkofemjaa
