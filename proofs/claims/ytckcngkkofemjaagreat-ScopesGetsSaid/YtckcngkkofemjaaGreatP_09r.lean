import Derived.Test.YtckcngkkofemjaaGreatP_09m
import Derived.Test.YtckcngkkofemjaaGreatP_09q
namespace Go.Proofs.YtckcngkkofemjaaGreat
open Go.Ab Go.RowKit
set_option linter.unusedVariables false
set_option linter.unusedSimpArgs false
abbrev Rd2 := zI
def cv {α : Type} (r : α × Rd) : α × Rd2 := (r.1, ⟨r.2.b, r.2.at_, r.2.failed⟩)
def Sms {α : Type} (b : List UInt8) (P : Rd → Option (α × Rd)) (P2 : Rd2 → Option (α × Rd2)) : Prop :=
 ∀ (a a2 : Int) (f : Bool), (0 ≤ a ∧ a ≤ b.length) → (0 ≤ a2 ∧ a2 ≤ b.length) → (f = true ∨ a = a2) → ∃ x q a' x2 a2', P ⟨b, a, f⟩ = some (x, ⟨b, a', q⟩) ∧ P2 ⟨b, a2, f⟩ = some (x2, ⟨b, a2', q⟩) ∧ (0 ≤ a' ∧ a' ≤ b.length) ∧ (0 ≤ a2' ∧ a2' ≤ b.length) ∧ (q = true ∨ (f = false ∧ x = x2 ∧ a' = a2'))
theorem ziJ {α : Type} {b : List UInt8} {P : Rd → Option (α × Rd)} {P2 : Rd2 → Option (α × Rd2)} {E : α → List UInt8} {V : α → Prop} (h : RdS b P E V) (he : ∀ (a : Int) (f : Bool), (0 ≤ a ∧ a ≤ b.length) → P2 ⟨b, a, f⟩ = (P ⟨b, a, f⟩).map cv) : Sms b P P2 := by
 intro a a2 f h1 h2 hf
 obtain ⟨x, ⟨qb, qa, qf⟩, e, hb, q0, q1, hq⟩ := h a f h1.1 h1.2
 simp only at hb q0 q1 hq
 subst hb
 cases f with
 | true =>
  obtain ⟨y, ⟨ub, ua, uf⟩, e2, hb2, u0, u1, hu⟩ := h a2 true h2.1 h2.2
  simp only at hb2 u0 u1 hu
  subst hb2
  have g1 : qf = true := by rcases hq with hq | ⟨hq, _⟩; exact hq; cases hq
  have g2 : uf = true := by rcases hu with hu | ⟨hu, _⟩; exact hu; cases hu
  subst g1; subst g2
  exact ⟨x, true, qa, y, ua, e, by rw [he _ _ h2, e2]; rfl, ⟨q0, q1⟩, ⟨u0, u1⟩, .inl rfl⟩
 | false =>
  obtain rfl : a = a2 := by rcases hf with hf | hf; cases hf; exact hf
  exact ⟨x, qf, qa, x, qa, e, by rw [he _ _ h1, e]; rfl, ⟨q0, q1⟩, ⟨q0, q1⟩, .inr ⟨rfl, rfl, rfl⟩⟩
theorem zcA {b : List UInt8} (hb : b.length ≤ 100000000000) {m : Int} (hm : 0 ≤ m ∧ m ≤ 1000000000) : Sms b (fun q => zbB q m) (fun q => zbV q m) :=
 ziJ (zc5 hb hm) fun a f h => by
  show zbV _ m = (zbB _ m).map cv
  unfold zbB zbV
  simp only
  rw [F_U (by omega) (by omega), Option.bind_some]
  cases f
  ·rw [if_neg (by simp), zjx (by omega) (by omega), Option.bind_some]
   simp only [Bool.false_or]
   by_cases hc : (((rdU b a).2.2 != 0) || decide (((rdU b a).1 : Int) > IntKind.u64.wrap m)) = true
   ·rw [if_pos hc, if_pos hc]; rfl
   ·rw [if_neg hc, if_neg hc]; rfl
  ·simp only [Bool.true_or, if_true]
   rfl
theorem zhP {b : List UInt8} (hb : b.length ≤ 100000000000) : Sms b zcx zdc :=
 ziJ (zes hb) fun a f h => by
  unfold zcx zdc
  simp only
  obtain ⟨r, e1, e2⟩ := zoG (l := b) (p := a) (by omega)
  rw [e1, e2, Option.bind_some, Option.bind_some]
  by_cases hc : (f || (r.2.2 != 0)) = true
  ·rw [if_pos hc, if_pos hc]; rfl
  ·rw [if_neg hc, if_neg hc]; rfl
theorem zp6 {b : List UInt8} (hb : b.length ≤ 100000000000) : Sms b zdI zgw :=
 ziJ (zkL hb) fun a f h => by
  unfold zdI zgw
  simp only
  rw [zjN hb, Option.bind_some]
  cases f
  ·rw [if_neg (by simp), znS hb, Option.bind_some]
   simp only [Bool.false_or]
   by_cases hc : ((zb6 b a).2.2 != 0) = true
   ·rw [if_pos hc, if_pos hc]; rfl
   ·rw [if_neg hc, if_neg hc]; rfl
  ·simp only [Bool.true_or, if_true]
   rfl
theorem zlw {b : List UInt8} (hb : b.length ≤ 100000000000) (a : Int) (f : Bool) (h : 0 ≤ a ∧ a ≤ b.length) : zeG ⟨b, a, f⟩ = (zck ⟨b, a, f⟩).map cv := by
 obtain ⟨k, rfl⟩ : ∃ k : Nat, a = k := ⟨a.toNat, by omega⟩
 unfold zck zeG
 simp only
 by_cases hk : k < b.length
 ·have e : IntKind.i64.wrap (((k + 1 : Nat) : Int) - 1) = (k : Int) := by rw [zbc (by omega)]; omega
  rw [zea (by omega) hk, Option.bind_some, zbh (by omega), e, zbd hk, Option.bind_some, zx (by omega), Bool.or_false]
  simp only [bne_self_eq_false, Bool.or_false]
  cases f <;> rfl
 ·rw [zgH (by omega), Option.bind_some, zv (by omega), Bool.or_true, if_pos rfl]
  simp only
  rw [zbP (by omega), Bool.or_true, if_pos rfl]
  rfl
theorem zn9 {b : List UInt8} (hb : b.length ≤ 100000000000) (a a2 : Int) (f : Bool) (h1 : 0 ≤ a ∧ a ≤ b.length) (h2 : 0 ≤ a2 ∧ a2 ≤ b.length) (hf : f = true ∨ a = a2) : ∃ (n : Nat) (q : Bool) (a' a2' : Int), n < 256 ∧ zck ⟨b, a, f⟩ = some ((n : Int), ⟨b, a', q⟩) ∧ zeG ⟨b, a2, f⟩ = some ((n : Int), ⟨b, a2', q⟩) ∧ (0 ≤ a' ∧ a' ≤ b.length) ∧ (0 ≤ a2' ∧ a2' ≤ b.length) ∧ (q = true ∨ (f = false ∧ a' = a2')) := by
 cases f with
 | false =>
  obtain rfl : a = a2 := by rcases hf with hf | hf; cases hf; exact hf
  obtain ⟨x, ⟨qb, qa, qf⟩, e, hbb, q0, q1, hq⟩ := zmn hb a false h1.1 h1.2
  simp only at hbb q0 q1 hq
  subst hbb
  obtain ⟨x0, x1⟩ := zlC hb h1.1 h1.2 e
  obtain ⟨n, rfl⟩ : ∃ n : Nat, x = n := ⟨x.toNat, by omega⟩
  exact ⟨n, qf, qa, qa, by omega, e, by rw [zlw hb _ _ h1, e]; rfl, ⟨q0, q1⟩, ⟨q0, q1⟩, .inr ⟨rfl, rfl⟩⟩
 | true =>
  have hz : ∀ c : Int, (0 ≤ c ∧ c ≤ b.length) → zck ⟨b, c, true⟩ = some (0, ⟨b, c, true⟩) := by
   intro c hc
   obtain ⟨k, rfl⟩ : ∃ k : Nat, c = k := ⟨c.toNat, by omega⟩
   unfold zck
   simp only
   by_cases hk : k < b.length
   ·rw [zea (by omega) hk, Option.bind_some, Bool.true_or, if_pos rfl]
   ·rw [zgH (by omega), Option.bind_some, Bool.true_or, if_pos rfl]
  exact ⟨0, true, a, a2, by omega, hz a h1, by rw [zlw hb _ _ h2, hz a2 h2]; rfl, h1, h2, .inl rfl⟩
theorem ziI {α β : Type} {b : List UInt8} {P : Rd → Option (α × Rd)} {P2 : Rd2 → Option (α × Rd2)} (hP : Sms b P P2) {L : Nat → List UInt8 → Int → Bool → List α → Int → Option (List α × Rd)}
  (hL : ∀ n b a f acc c, L (n + 1) b a f acc c = if (decide (c > 0) && (!f)) = true then (P ⟨b, a, f⟩).bind fun q => (room (acc.length + 1)).bind fun _ => L n q.2.b q.2.at_ q.2.failed (acc ++ [q.1]) (IntKind.i64.wrap (c - 1)) else some (acc, ⟨b, a, f⟩))
  {L2 : Nat → List UInt8 → Int → Bool → List α → Int → Option β} {cnt : Int} {fin : List UInt8 → Int → Bool → List α → Option β}
  (hL2 : ∀ n b a f acc i, L2 (n + 1) b a f acc i = if (decide (i < cnt) && (!f)) = true then (P2 ⟨b, a, f⟩).bind fun q => (room (acc.length + 1)).bind fun _ => L2 n q.2.B q.2.At q.2.Failed (acc ++ [q.1]) (IntKind.i64.wrap (i + 1)) else fin b a f acc) :
  ∀ (n : Nat) (k i : Nat) (a a2 : Int) (f : Bool) (acc acc2 : List α), k < n → acc.length + k ≤ 1000000 → i + k ≤ 1000000 → (0 ≤ a ∧ a ≤ b.length) → (0 ≤ a2 ∧ a2 ≤ b.length) → (f = true ∨ (a = a2 ∧ acc = acc2 ∧ cnt = ((i + k : Nat) : Int))) →
   ∃ l q a' l2 a2', L n b a f acc (k : Int) = some (l, ⟨b, a', q⟩) ∧ L2 n b a2 f acc2 (i : Int) = fin b a2' q l2 ∧ (0 ≤ a' ∧ a' ≤ b.length) ∧ (0 ≤ a2' ∧ a2' ≤ b.length) ∧ (q = true ∨ (f = false ∧ l = l2 ∧ a' = a2'))
 | 0, k, _, _, _, _, _, _, h, _, _, _, _, _ => by omega
 | n + 1, k, i, a, a2, f, acc, acc2, hn, hk, hik, h1, h2, hf => by
  rw [hL, hL2]
  cases f with
  | true =>
   rw [Bool.not_true, Bool.and_false, Bool.and_false, if_neg (by simp), if_neg (by simp)]
   exact ⟨_, _, _, _, _, rfl, rfl, h1, h2, .inl rfl⟩
  | false =>
   obtain ⟨rfl, rfl, rfl⟩ : a = a2 ∧ acc = acc2 ∧ cnt = ((i + k : Nat) : Int) := by rcases hf with hf | hf; cases hf; exact hf
   cases k with
   | zero =>
    rw [zx (by simp), zx (by omega), Bool.false_and, if_neg (by simp), if_neg (by simp)]
    exact ⟨_, _, _, _, _, rfl, rfl, h1, h2, .inr ⟨rfl, rfl, rfl⟩⟩
   | succ k =>
    obtain ⟨x, q, a', x2, a2', e1, e2, g1, g2, g3⟩ := hP a a false h1 h2 (.inr rfl)
    rw [zv (by omega), zv (by omega), Bool.not_false, Bool.and_self, if_pos rfl, if_pos rfl, e1, e2, Option.bind_some, Option.bind_some, zbF (by omega), Option.bind_some, Option.bind_some]
    simp only
    rw [zbc (x := ((k + 1 : Nat) : Int) - 1) (by omega), show ((k + 1 : Nat) : Int) - 1 = (k : Int) by omega, zbh (by omega)]
    obtain ⟨l, q', b', l2, b2', z1, z2, z3, z4, z5⟩ := ziI hP hL hL2 n k (i + 1) a' a2' q (acc ++ [x]) (acc ++ [x2]) (by omega) (by simp; omega) (by omega) g1 g2 (by
     rcases g3 with g3 | ⟨_, rfl, rfl⟩
     ·exact .inl g3
     ·exact .inr ⟨rfl, rfl, by congr 1; omega⟩)
    exact ⟨l, q', b', l2, b2', z1, z2, z3, z4, by
     rcases z5 with z5 | z5
     ·exact .inl z5
     ·exact .inr ⟨by simp, z5.2⟩⟩
theorem znk {b : List UInt8} (hb : b.length ≤ 100000000000) : Sms b zd0 zeY := by
 intro a a2 f h1 h2 hf
 obtain ⟨s, q, u, s2, u2, e1, e2, g1, g2, g3⟩ := zhP hb a a2 f h1 h2 hf
 obtain ⟨n, r, v, v2, hn, d1, d2, k1, k2, k3⟩ := zn9 hb u u2 q g1 g2 (by rcases g3 with g3 | g3; exact .inl g3; exact .inr g3.2.2)
 have hz : u8o (n : Int) = some (UInt8.ofNat n) := zjG (by omega)
 unfold zd0 zeY
 simp only
 rw [e1, e2, Option.bind_some, Option.bind_some]
 simp only
 rw [d1, d2, Option.bind_some, Option.bind_some]
 simp only
 have hst : r = true ∨ (f = false ∧ s = s2 ∧ v = v2) := by
  rcases k3 with k3 | ⟨k3, k4⟩
  ·exact .inl k3
  ·rcases g3 with g3 | g3
   ·rw [g3] at k3; cases k3
   ·exact .inr ⟨g3.1, g3.2.1, k4⟩
 have hv : r = true ∨ v = v2 := by
  rcases hst with hst | hst
  ·exact .inl hst
  ·exact .inr hst.2.2
 by_cases c3 : n = 3
 ·obtain ⟨x, t, w, x2, w2, m1, m2, m3, m4, m5⟩ := zcA hb (m := 16) (by omega) v v2 r k1 k2 hv
  simp only at m1 m2
  rw [zbO (show (n : Int) = 3 by omega), if_pos rfl, if_pos rfl, m1, m2, hz]
  simp only [Option.bind_some]
  refine ⟨_, _, _, _, _, rfl, rfl, m3, m4, ?_⟩
  rcases m5 with m5 | ⟨m5, rfl, rfl⟩
  ·exact .inl m5
  ·rcases hst with hst | ⟨rfl, rfl, rfl⟩
   ·rw [hst] at m5; cases m5
   ·exact .inr ⟨rfl, rfl, rfl⟩
 ·by_cases c4 : n = 4
  ·obtain ⟨tn, t, w, tn2, w2, m1, m2, m3, m4, m5⟩ := zhP hb v v2 r k1 k2 hv
   obtain ⟨c, t', w', c2, w2', o1, o2, o3, o4, o5⟩ := zcA hb (m := 8) (by omega) w w2 t m3 m4 (by rcases m5 with m5 | m5; exact .inl m5; exact .inr m5.2.2)
   simp only at o1 o2
   have hc := zdt (by omega) hb m3 o1
   obtain ⟨k, rfl⟩ : ∃ k : Nat, c = k := ⟨c.toNat, by omega⟩
   simp only [zbJ (show (n : Int) ≠ 3 by omega), zbO (show (n : Int) = 4 by omega), Bool.false_eq_true, if_false, if_true]
   rw [m1, m2, Option.bind_some, Option.bind_some]
   simp only
   rw [o2, Option.bind_some, show zfu ⟨b, w, t⟩ 8 = (zbB ⟨b, w, t⟩ 8).bind fun c => zdb big c.2.b c.2.at_ c.2.failed [] c.1 from rfl, o1, Option.bind_some]
   simp only
   obtain ⟨l, p, y, l2, y2, z1, z2, z3, z4, z5⟩ := ziI (β := zG × zI) (zhP hb) (L := zdb) (fun _ _ _ _ _ _ => rfl) (L2 := zfY (s2, ⟨b, u2, q⟩) ((n : Int), ⟨b, v2, r⟩) (tn2, ⟨b, w2, t⟩) (c2, ⟨b, w2', t'⟩)) (cnt := c2) (fin := fun b a f acc => (u8o (n : Int)).bind fun z => some ((⟨s2, (⟨z, 0, tn2⟩ : zbp), c2, acc⟩ : zG), (⟨b, a, f⟩ : zI))) (fun _ _ _ _ _ _ => rfl) big k 0 w' w2' t' [] [] (zbj (by omega)) (by simp; omega) (by omega) o3 o4 (by
    rcases o5 with o5 | ⟨_, o5, o6⟩
    ·exact .inl o5
    ·exact .inr ⟨o6, rfl, by omega⟩)
   have hlen : p = true ∨ l.length = k := by
    obtain ⟨l0, q0, y1, y2, y3, y4, y5, y6⟩ := zij (zes hb) (L := zdb) (fun _ _ _ _ _ _ => rfl) big k w' t' [] (zbj (by omega)) (by simp; omega) o3.1 o3.2
    rw [z1, List.nil_append] at y1
    injection y1 with y1
    injection y1 with y1 y1'
    subst y1'; subst y1
    simp only at y6
    rcases y6 with y6 | y6
    ·exact .inl y6
    ·exact .inr y6.2.2.1
   rw [show ((0 : Nat) : Int) = 0 from rfl] at z2
   rw [z1, z2, Option.bind_some, hz, Option.bind_some, Option.bind_some]
   refine ⟨_, _, _, _, _, rfl, rfl, z3, z4, ?_⟩
   rcases z5 with z5 | ⟨z5, rfl, rfl⟩
   ·exact .inl z5
   rcases o5 with o5 | ⟨o5, o6, rfl⟩
   ·rw [o5] at z5; cases z5
   rcases m5 with m5 | ⟨m5, rfl, rfl⟩
   ·rw [m5] at o5; cases o5
   rcases hst with hst | ⟨rfl, rfl, rfl⟩
   ·rw [hst] at m5; cases m5
   rcases hlen with hlen | hlen
   ·exact .inl hlen
   ·right
    refine ⟨rfl, ?_, rfl⟩
    rw [← o6, hlen]
  ·simp only [zbJ (show (n : Int) ≠ 3 by omega), zbJ (show (n : Int) ≠ 4 by omega), Bool.false_eq_true, if_false]
   rw [hz, Option.bind_some, Option.bind_some]
   refine ⟨_, _, _, _, _, rfl, rfl, k1, k2, ?_⟩
   rcases hst with hst | ⟨rfl, rfl, rfl⟩
   ·exact .inl hst
   ·exact .inr ⟨rfl, rfl, rfl⟩
end Go.Proofs.YtckcngkkofemjaaGreat
