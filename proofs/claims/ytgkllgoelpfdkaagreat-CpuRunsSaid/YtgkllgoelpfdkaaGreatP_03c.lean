import Derived.Test.YtgkllgoelpfdkaaGreatP_03b
import Derived.KernelRfl
namespace Go.Proofs.YtgkllgoelpfdkaaGreat
open Go.Ab Go.RowKit
set_option linter.unusedVariables false
set_option linter.unusedSimpArgs false
theorem zlV (l : List UInt8) (hl : l.length ≤ 1000000000) : ∀ (n i : Nat) (acc : List UInt8), i ≤ l.length → l.length - i < n → acc.length ≤ i → zfv l n acc (i : Int) = some (acc ++ l.drop i)
 | 0, i, _, _, h, _ => by omega
 | n + 1, i, acc, hi, h, ha => by
  show ze6 _ l acc (i : Int) = _
  unfold ze6
  by_cases hlt : i < l.length
  ·rw [zX (by omega), if_pos rfl, zbQ hlt, Option.bind_some]
   have ih := zlV l hl n (i + 1) (acc ++ [l[i]]) (by omega) (by omega) (by simp; omega)
   rw [List.append_assoc, List.singleton_append, ← List.drop_eq_getElem_cons hlt] at ih
   rw [zbi (by simp; omega), Option.bind_some, zbt (by omega)]; exact ih
  ·rw [zO (by omega), if_neg (by simp), List.drop_of_length_le (by omega), List.append_nil]
theorem zk0 {l : List UInt8} (hl : l.length ≤ 1000000000) : zeF l = some l := by
 have := zlV l hl big 0 [] (by omega) (zbR (by omega)) (by simp)
 exact this
theorem zmK (i : Ins) (hi : rgI i) (l : List Dp) (hl : l.length ≤ 100) (o : Bool) : ∀ (n k : Nat) (b : List UInt8), k ≤ l.length → l.length - k < n → b.length ≤ 100000000 + 10 * k → zbj (l.drop k) i = true →
  zew i (zm l, o) n b (k : Int) = some (b ++ z4 (l.drop k) i)
 | 0, k, _, _, h, _, _ => by omega
 | n + 1, k, b, hk, h, hb, hr => by
  show zhX _ i (zm l, o) b (k : Int) = _
  unfold zhX
  simp only
  rw [zin]
  by_cases hlt : k < l.length
  ·rw [List.drop_eq_getElem_cons hlt] at hr ⊢
   rw [zio, Bool.and_eq_true] at hr
   have h10 := zkq hr.1 hi
   have ih := zmK i hi l hl o n (k + 1) (b ++ enP l[k] i) (by omega) (by omega) (by rw [List.length_append]; omega) hr.2
   rw [zX (by omega), if_pos rfl, zkY hlt, Option.bind_some, zeQ, ← List.append_assoc, ← ih]
   have hp := hr.1
   unfold zdd ziJ
   rw [zbt (by omega)]
   generalize zew i (zm l, o) n = rec
   cases hpk : l[k] <;> rw [hpk] at hp <;> unfold rtP at hp <;> simp only [decide_eq_true_eq] at hp <;> unfold zc4 enP <;> simp only [show ((114 : UInt8).toNat : Int) = 114 from rfl, show ((97 : UInt8).toNat : Int) = 97 from rfl, show ((111 : UInt8).toNat : Int) = 111 from rfl, show ((116 : UInt8).toNat : Int) = 116 from rfl, show ((109 : UInt8).toNat : Int) = 109 from rfl, show ((106 : UInt8).toNat : Int) = 106 from rfl, show ((107 : UInt8).toNat : Int) = 107 from rfl, show ((110 : UInt8).toNat : Int) = 110 from rfl, Int.reduceBEq, Bool.false_eq_true, if_false, if_true]
   ·rw [u8w (by omega), Option.bind_some, zbi (by omega), Option.bind_some]
   ·rw [zpd, if_pos hp, Option.bind_some]
    simp only
    rw [u8i (by omega), Option.bind_some, zbi (by omega), Option.bind_some]
   ·rw [zbi (by omega), Option.bind_some]
   ·rw [u8w (by omega), Option.bind_some, zbi (by omega), Option.bind_some]
   ·have hw : IntKind.u64.wrap i.M = ((i.M.toNat : Nat) : Int) := by rw [zeK]; omega
    rw [hw, show zfS b ((i.M.toNat : Nat) : Int) = _ from zmo (by omega) (by omega), Option.bind_some]
   ·rw [zrl (by omega), if_neg (by omega), Option.bind_some]
   ·rw [u8w (by omega), Option.bind_some, zbi (by omega), Option.bind_some]
   ·rw [show zfi b i.N = _ from zkF (by omega) hi, Option.bind_some]
   ·rw [show zfi b i.N = _ from zkF (by omega) hi, Option.bind_some]
  ·rw [zO (by omega), if_neg (by simp), List.drop_of_length_le (by omega)]
   simp [z4]
theorem zlu {i : Ins} {b : List UInt8} (hi : rgI i) (hb : b.length ≤ 1000000) : ze9 b i = some (if Rti i = true then b ++ z9 i else b) := by
 unfold ze9
 have hlt := i.Kind.toNat_lt
 have hR : zbd ⟨i.Kind, i.Op, i.R, i.S, i.T, i.N, i.M⟩ = _ := zni i
 rw [zk0 (by omega), Option.bind_some, hR, Option.bind_some]
 by_cases h : Rti i = true
 ·obtain ⟨l, hp, hr, _, hbd⟩ := zhS h
  have h4 := zdO hp
  rw [h, Bool.not_true, if_neg (by simp), zbi (by omega), Option.bind_some, zbV (by omega), hp, Option.bind_some, if_pos rfl]
  have := zmK i hi l (by omega) true big 0 (b ++ [i.Kind]) (by omega) (zbR (by omega)) (by simp; omega) (by simpa using hr)
  rw [List.drop_zero] at this
  refine Eq.trans this ?_
  unfold z9
  rw [hbd]
  simp
 ·have h2 : Rti i = false := by simpa using h
  rw [h2]
  rfl
def stp (p : Dp) (b : List UInt8) (O R S T N M : Int) (a : Nat) : Option (Int × Int × Int × Int × Int × Int × Int) := match p with
 | .c_one_1 => if h : a < b.length then some (O, b[a].toNat, S, T, N, M, ((a + 1 : Nat) : Int)) else none
 | .c_both_1 => if h : a < b.length then some (O, ((b[a].toNat / 16 : Nat) : Int), ((b[a].toNat % 16 : Nat) : Int), T, N, M, ((a + 1 : Nat) : Int)) else none
 | .c_op_1 _ _ => if h : a < b.length then some (b[a].toNat, R, S, T, N, M, ((a + 1 : Nat) : Int)) else none
 | .c_third_1 => if h : a < b.length then some (O, R, S, b[a].toNat, N, M, ((a + 1 : Nat) : Int)) else none
 | .c_how_1 => if h : a < b.length then some (O, R, S, T, b[a].toNat, M, ((a + 1 : Nat) : Int)) else none
 | .c_bound_1 => if (rdU b (a : Int)).2.2 = 0 then some (O, R, S, T, N, IntKind.i64.wrap ((rdU b (a : Int)).1 : Int), (rdU b (a : Int)).2.1) else none
 | .c_to_1 => if h : a + 3 ≤ b.length then some (O, R, S, T, (pl3 (b[a]'(by omega)) (b[a + 1]'(by omega)) (b[a + 2]'(by omega)) : Int), M, ((a + 3 : Nat) : Int)) else none
 | .c_parts_1 => if (rdS b (a : Int)).2.2 = 0 then some (O, R, S, T, (rdS b (a : Int)).1, M, (rdS b (a : Int)).2.1) else none
 | .c_within => if (rdS b (a : Int)).2.2 = 0 then some (O, R, S, T, (rdS b (a : Int)).1, M, (rdS b (a : Int)).2.1) else none
theorem zm0 {b : List UInt8} (hb : b.length ≤ 1000000000) (at0 : Int) (K : UInt8) (l : List Dp) (hl : l.length ≤ 100) (o : Bool) (rec : Int → Int → Int → Int → Int → Int → Int → Int → Option (Ins × Int × Int)) (k : Nat) (hk : k < l.length) (O R S T N M : Int) (a : Nat) (ha : a ≤ b.length) :
  zdU rec b at0 K (zm l, o) O R S T N M (a : Int) (k : Int) = match stp l[k] b O R S T N M a with
   | none => some (bse 0, 0, 5)
   | some q => rec q.1 q.2.1 q.2.2.1 q.2.2.2.1 q.2.2.2.2.1 q.2.2.2.2.2.1 q.2.2.2.2.2.2 ((k + 1 : Nat) : Int) := by
 unfold zdU zhg zcZ
 simp only
 rw [zin, zX (by omega), if_pos rfl, zbt (by omega)]
 simp only [zkY hk, Option.bind_some]
 have one : ∃ r, zeD b (a : Int) = some r ∧ ((∃ h : a < b.length, r = ((b[a].toNat : Int), ((a + 1 : Nat) : Int), 0)) ∨ ¬ a < b.length ∧ r = (0, 0, 5)) := by
  by_cases h : a < b.length
  ·exact ⟨_, zp6 (by omega) h, Or.inl ⟨h, rfl⟩⟩
  ·exact ⟨_, zoR (by omega) (by omega), Or.inr ⟨h, rfl⟩⟩
 obtain ⟨r, hr, hc⟩ := one
 have hU : zgd b (a : Int) = _ := zrm (by omega) (by omega)
 have hS : zf4 b (a : Int) = _ := zpx (by omega) (by omega)
 cases hp : l[k] <;> unfold zc4 stp <;> simp only [show ((114 : UInt8).toNat : Int) = 114 from rfl, show ((97 : UInt8).toNat : Int) = 97 from rfl, show ((111 : UInt8).toNat : Int) = 111 from rfl, show ((116 : UInt8).toNat : Int) = 116 from rfl, show ((109 : UInt8).toNat : Int) = 109 from rfl, show ((106 : UInt8).toNat : Int) = 106 from rfl, show ((107 : UInt8).toNat : Int) = 107 from rfl, show ((110 : UInt8).toNat : Int) = 110 from rfl, Int.reduceBEq, Bool.false_eq_true, if_false, if_true, Option.bind_some]
 ·rw [hr, Option.bind_some]
  rcases hc with ⟨h, rfl⟩ | ⟨h, rfl⟩
  ·have hx := b[a].toNat_lt
   rw [dif_pos h, zcy rfl, if_neg (by simp), zN (by omega)]
  ·rw [dif_neg h]; rfl
 ·rw [hr, Option.bind_some]
  rcases hc with ⟨h, rfl⟩ | ⟨h, rfl⟩
  ·have hx := b[a].toNat_lt
   have e1 : Int.tdiv (b[a].toNat : Int) 16 = ((b[a].toNat / 16 : Nat) : Int) := by rw [Int.tdiv_eq_ediv_of_nonneg (by omega)]; rfl
   have e2 : Int.tmod (b[a].toNat : Int) 16 = ((b[a].toNat % 16 : Nat) : Int) := by rw [Int.tmod_eq_emod_of_nonneg (by omega)]; rfl
   simp only
   rw [dif_pos h, zcy rfl, if_neg (by simp), e1, e2, zd0, zN (by omega), zN (by omega), show ((b[a].toNat / 16 : Nat) : Int) % 256 = ((b[a].toNat / 16 : Nat) : Int) by omega]
  ·rw [dif_neg h]; rfl
 ·rw [hr, Option.bind_some]
  rcases hc with ⟨h, rfl⟩ | ⟨h, rfl⟩
  ·rw [dif_pos h, zcy rfl, if_neg (by simp)]
  ·rw [dif_neg h]; rfl
 ·rw [hr, Option.bind_some]
  rcases hc with ⟨h, rfl⟩ | ⟨h, rfl⟩
  ·have hx := b[a].toNat_lt
   rw [dif_pos h, zcy rfl, if_neg (by simp), zN (by omega)]
  ·rw [dif_neg h]; rfl
 ·rw [hU, Option.bind_some]
  simp only
  by_cases h : (rdU b (a : Int)).2.2 = 0
  ·rw [if_pos h, zcy h, if_neg (by simp)]
  ·rw [if_neg h, zdA h, if_pos rfl]; rfl
 ·by_cases h : a + 3 ≤ b.length
  ·rw [zol (by omega) h, Option.bind_some, dif_pos h, zcy rfl, if_neg (by simp)]
  ·rw [zst (by omega) ha (by omega), Option.bind_some, dif_neg h]; rfl
 ·rw [hr, Option.bind_some]
  rcases hc with ⟨h, rfl⟩ | ⟨h, rfl⟩
  ·have hx := b[a].toNat_lt
   rw [dif_pos h, zcy rfl, if_neg (by simp), zN (by omega)]
  ·rw [dif_neg h]; rfl
 ·rw [hS, Option.bind_some]
  simp only
  by_cases h : (rdS b (a : Int)).2.2 = 0
  ·rw [if_pos h, zcy h, if_neg (by simp)]
  ·rw [if_neg h, zdA h, if_pos rfl]; rfl
 ·rw [hS, Option.bind_some]
  simp only
  by_cases h : (rdS b (a : Int)).2.2 = 0
  ·rw [if_pos h, zcy h, if_neg (by simp)]
  ·rw [if_neg h, zdA h, if_pos rfl]; rfl
theorem zsb {p : Dp} {b : List UInt8} {O R S T N M : Int} {a : Nat} {q : Int × Int × Int × Int × Int × Int × Int} (hb : b.length ≤ 1000000000) (ha : a ≤ b.length) (hO : 0 ≤ O ∧ O < 256) (hN : -9223372036854775808 ≤ N ∧ N ≤ 9223372036854775807) (h : stp p b O R S T N M a = some q) :
  (0 ≤ q.1 ∧ q.1 < 256) ∧ (-9223372036854775808 ≤ q.2.2.2.2.1 ∧ q.2.2.2.2.1 ≤ 9223372036854775807) ∧ ∃ m : Nat, q.2.2.2.2.2.2 = m ∧ a ≤ m ∧ m ≤ b.length := by
 unfold stp at h
 cases p <;> simp only at h <;> split at h <;> first | (cases h; done) | skip
 all_goals rename_i hc
 all_goals injection h with h
 all_goals subst h
 ·exact ⟨hO, hN, a + 1, rfl, by omega, by omega⟩
 ·exact ⟨hO, hN, a + 1, rfl, by omega, by omega⟩
 ·have hx := b[a].toNat_lt
  exact ⟨⟨by simp only; omega, by simp only; omega⟩, hN, a + 1, rfl, by omega, by omega⟩
 ·exact ⟨hO, hN, a + 1, rfl, by omega, by omega⟩
 ·rcases zne b (a : Int) with ⟨e, h3, h4⟩ | ⟨k, n, y, h3, h4, h5, h6, h7, h8, h9⟩
  ·rw [h3] at hc; simp only at hc; omega
  ·exact ⟨hO, hN, k + n, by rw [h9], by omega, by omega⟩
 ·refine ⟨hO, ?_, a + 3, rfl, by omega, by omega⟩
  have h0 := b[a].toNat_lt
  have h1 := b[a + 1].toNat_lt
  have h2 := b[a + 2].toNat_lt
  simp only [pl3]
  omega
 ·have hx := b[a].toNat_lt
  exact ⟨hO, ⟨by simp only; omega, by simp only; omega⟩, a + 1, rfl, by omega, by omega⟩
 ·rcases zjX b (a : Int) with ⟨e, h3, h4⟩ | ⟨k, n, y, h3, h4, h5, h6, h7, h8, h9⟩
  ·rw [h3] at hc; simp only at hc; omega
  ·exact ⟨hO, by rw [h9]; exact h7, k + n, by rw [h9], by omega, by omega⟩
 ·rcases zjX b (a : Int) with ⟨e, h3, h4⟩ | ⟨k, n, y, h3, h4, h5, h6, h7, h8, h9⟩
  ·rw [h3] at hc; simp only at hc; omega
  ·exact ⟨hO, by rw [h9]; exact h7, k + n, by rw [h9], by omega, by omega⟩
theorem znw {b : List UInt8} (hb : b.length ≤ 1000000) (a0 : Nat) (h0 : a0 ≤ b.length) (K : UInt8) (l : List Dp) (o : Bool) (rec : Int → Int → Int → Int → Int → Int → Int → Int → Option (Ins × Int × Int)) (k : Nat) (hk : k = l.length) (i : Ins) (hK : i.Kind = K) (hi : rgI i) (a : Nat) (ha : a ≤ b.length) (ha0 : a0 ≤ a) :
  zdU rec b (a0 : Int) K (zm l, o) (i.Op.toNat : Int) i.R i.S i.T i.N i.M (a : Int) (k : Int) = some (if Rti i = true ∧ z9 i = (b.take a).drop a0 then (i, (a : Int), 0) else (bse 0, 0, 5)) := by
 subst hK
 unfold zdU
 simp only
 have hR : zbd ⟨i.Kind, i.Op, i.R, i.S, i.T, i.N, i.M⟩ = _ := zni i
 have hP : ze9 [] ⟨i.Kind, i.Op, i.R, i.S, i.T, i.N, i.M⟩ = _ := zlu (b := []) hi (by simp)
 rw [zin, zO (by omega), if_neg (by simp), u8x, Option.bind_some, hR, Option.bind_some, zO (show ¬ (a : Int) > b.length by omega), Bool.or_false]
 cases hr : Rti i
 ·rw [Bool.not_false, if_pos rfl, Option.bind_some, if_pos rfl, if_neg (by simp)]; rfl
 ·have hlen := zme hi hr
  have hE : ∀ x y : List UInt8, x.length ≤ 1000000000 → y.length ≤ 1000000000 → zep x y = some (decide (x = y)) := fun x y h1 h2 => if_pos ⟨by omega, by omega⟩
  rw [Bool.not_true, if_neg (by simp), zcV ha0 ha, Option.bind_some, Option.bind_some, hP, hr, if_pos rfl, List.nil_append, Option.bind_some, hE (z9 i) ((b.take a).drop a0) (by omega) (by simp; omega), Option.bind_some, Option.bind_some]
  by_cases he : z9 i = (b.take a).drop a0
  ·rw [zX he, Bool.not_true, if_neg (by simp), if_pos ⟨rfl, he⟩]; rfl
  ·rw [zO he, Bool.not_false, if_pos rfl, if_neg (fun h => he h.2)]; rfl
theorem zmH {b : List UInt8} (hb : b.length ≤ 1000000) (a0 : Nat) (h0 : a0 ≤ b.length) (K : UInt8) (l : List Dp) (hl : l.length ≤ 100) (o : Bool) : ∀ (n k : Nat) (O R S T N M : Int) (a : Nat), k ≤ l.length → l.length - k < n → a ≤ b.length → a0 ≤ a → (0 ≤ O ∧ O < 256) → (-9223372036854775808 ≤ N ∧ N ≤ 9223372036854775807) →
  zcF b (a0 : Int) K (zm l, o) n O R S T N M (a : Int) (k : Int) = some (bse 0, 0, 5) ∨ ∃ (i : Ins) (m : Nat), zcF b (a0 : Int) K (zm l, o) n O R S T N M (a : Int) (k : Int) = some (i, (m : Int), 0) ∧ Rti i = true ∧ rgI i ∧ z9 i = (b.take m).drop a0 ∧ a0 ≤ m ∧ m ≤ b.length
 | 0, k, _, _, _, _, _, _, _, _, h, _, _, _, _ => by omega
 | n + 1, k, O, R, S, T, N, M, a, hk, h, ha, ha0, hO, hN => by
  have hw : zcF b (a0 : Int) K (zm l, o) (n + 1) O R S T N M (a : Int) (k : Int) = zdU (zcF b (a0 : Int) K (zm l, o) n) b (a0 : Int) K (zm l, o) O R S T N M (a : Int) (k : Int) := rfl
  rw [hw]
  by_cases hlt : k < l.length
  ·rw [zm0 (by omega) (a0 : Int) K l hl o _ k hlt O R S T N M a ha]
   cases hs : stp l[k] b O R S T N M a with
   | none => exact Or.inl rfl
   | some q =>
    obtain ⟨hO', hN', m, hm, h1, h2⟩ := zsb (by omega) ha hO hN hs
    simp only
    rw [hm]
    exact zmH hb a0 h0 K l hl o n (k + 1) _ _ _ _ _ _ m (by omega) (by omega) h2 (by omega) hO' hN'
  ·obtain ⟨x, rfl⟩ : ∃ x : UInt8, O = (x.toNat : Int) := ⟨UInt8.ofNat O.toNat, by rw [UInt8.toNat_ofNat_of_lt' (show O.toNat < 256 by omega)]; omega⟩
   have := znw hb a0 h0 K l o (zcF b (a0 : Int) K (zm l, o) n) k (by omega) ⟨K, x, R, S, T, N, M⟩ rfl hN a ha ha0
   simp only at this
   rw [this]
   by_cases hc : Rti ⟨K, x, R, S, T, N, M⟩ = true ∧ z9 ⟨K, x, R, S, T, N, M⟩ = (b.take a).drop a0
   ·rw [if_pos hc]
    exact Or.inr ⟨_, a, rfl, hc.1, hN, hc.2, ha0, ha⟩
   ·rw [if_neg hc]
    exact Or.inl rfl
theorem zrk {p : Dp} {i j : Ins} {q r : List UInt8} (hp : rtP p i = true) (hi : rgI i) (hb : (q ++ enP p i ++ r).length ≤ 1000000000) :
  stp p (q ++ enP p i ++ r) (j.Op.toNat : Int) j.R j.S j.T j.N j.M q.length = some (((seP p i j).Op.toNat : Int), (seP p i j).R, (seP p i j).S, (seP p i j).T, (seP p i j).N, (seP p i j).M, (((q ++ enP p i).length : Nat) : Int)) := by
 have one : ∀ x : UInt8, ∃ h : q.length < (q ++ [x] ++ r).length, (q ++ [x] ++ r)[q.length]'h = x := fun x => ⟨by simp, by simp⟩
 cases p <;> unfold rtP at hp <;> simp only [decide_eq_true_eq] at hp <;> simp only [enP] at hb
 ·obtain ⟨h, hx⟩ := one (UInt8.ofNat i.R.toNat)
  change stp _ (q ++ [UInt8.ofNat i.R.toNat] ++ r) _ _ _ _ _ _ _ = some (_, _, _, _, _, _, (((q ++ [UInt8.ofNat i.R.toNat]).length : Nat) : Int))
  unfold stp seP
  simp only
  rw [dif_pos h, hx, UInt8.toNat_ofNat_of_lt' (show i.R.toNat < 256 by omega), show ((i.R.toNat : Nat) : Int) = i.R by omega]
  simp
 ·obtain ⟨h, hx⟩ := one (UInt8.ofNat (16 * i.R + i.S).toNat)
  change stp _ (q ++ [UInt8.ofNat (16 * i.R + i.S).toNat] ++ r) _ _ _ _ _ _ _ = some (_, _, _, _, _, _, (((q ++ [UInt8.ofNat (16 * i.R + i.S).toNat]).length : Nat) : Int))
  unfold stp seP
  simp only
  rw [dif_pos h, hx, UInt8.toNat_ofNat_of_lt' (show (16 * i.R + i.S).toNat < 256 by omega), show (((16 * i.R + i.S).toNat / 16 : Nat) : Int) = i.R by omega, show (((16 * i.R + i.S).toNat % 16 : Nat) : Int) = i.S by omega]
  simp
 ·obtain ⟨h, hx⟩ := one i.Op
  change stp _ (q ++ [i.Op] ++ r) _ _ _ _ _ _ _ = some (_, _, _, _, _, _, (((q ++ [i.Op]).length : Nat) : Int))
  unfold stp seP
  simp only
  rw [dif_pos h, hx]
  simp
 ·obtain ⟨h, hx⟩ := one (UInt8.ofNat i.T.toNat)
  change stp _ (q ++ [UInt8.ofNat i.T.toNat] ++ r) _ _ _ _ _ _ _ = some (_, _, _, _, _, _, (((q ++ [UInt8.ofNat i.T.toNat]).length : Nat) : Int))
  unfold stp seP
  simp only
  rw [dif_pos h, hx, UInt8.toNat_ofNat_of_lt' (show i.T.toNat < 256 by omega), show ((i.T.toNat : Nat) : Int) = i.T by omega]
  simp
 ·change stp _ (q ++ z2 i.M.toNat ++ r) _ _ _ _ _ _ _ = some (_, _, _, _, _, _, (((q ++ z2 i.M.toNat).length : Nat) : Int))
  unfold stp seP
  simp only
  rw [zmA (by omega), if_pos rfl, zN (by omega), show ((i.M.toNat : Nat) : Int) = i.M by omega]
 ·change stp _ (q ++ pb i.N ++ r) _ _ _ _ _ _ _ = some (_, _, _, _, _, _, (((q ++ pb i.N).length : Nat) : Int))
  unfold stp seP
  simp only
  have hl3 : (pb i.N).length = 3 := rfl
  have hlt : q.length + 3 ≤ (q ++ pb i.N ++ r).length := by simp only [List.length_append, hl3]; omega
  have hpb : pb i.N = [UInt8.ofNat (i.N / 65536 % 256).toNat, UInt8.ofNat (i.N / 256 % 256).toNat, UInt8.ofNat (i.N % 256).toNat] := rfl
  have g0 : (q ++ pb i.N ++ r)[q.length]'(by omega) = UInt8.ofNat (i.N / 65536 % 256).toNat := by simp [hpb]
  have g1 : (q ++ pb i.N ++ r)[q.length + 1]'(by omega) = UInt8.ofNat (i.N / 256 % 256).toNat := by simp [hpb]
  have g2 : (q ++ pb i.N ++ r)[q.length + 2]'(by omega) = UInt8.ofNat (i.N % 256).toNat := by simp [hpb]
  rw [dif_pos hlt, g0, g1, g2]
  unfold pl3
  rw [UInt8.toNat_ofNat_of_lt' (show (i.N / 65536 % 256).toNat < 256 by omega), UInt8.toNat_ofNat_of_lt' (show (i.N / 256 % 256).toNat < 256 by omega), UInt8.toNat_ofNat_of_lt' (show (i.N % 256).toNat < 256 by omega), List.length_append, hl3]
  congr 5
  simp only [Prod.mk.injEq, and_true, true_and]
  omega
 ·obtain ⟨h, hx⟩ := one (UInt8.ofNat i.N.toNat)
  change stp _ (q ++ [UInt8.ofNat i.N.toNat] ++ r) _ _ _ _ _ _ _ = some (_, _, _, _, _, _, (((q ++ [UInt8.ofNat i.N.toNat]).length : Nat) : Int))
  unfold stp seP
  simp only
  rw [dif_pos h, hx, UInt8.toNat_ofNat_of_lt' (show i.N.toNat < 256 by omega), show ((i.N.toNat : Nat) : Int) = i.N by omega]
  simp
 ·change stp _ (q ++ zR i.N ++ r) _ _ _ _ _ _ _ = some (_, _, _, _, _, _, (((q ++ zR i.N).length : Nat) : Int))
  unfold stp seP
  simp only
  rw [zjb hi, if_pos rfl]
 ·change stp _ (q ++ zR i.N ++ r) _ _ _ _ _ _ _ = some (_, _, _, _, _, _, (((q ++ zR i.N).length : Nat) : Int))
  unfold stp seP
  simp only
  rw [zjb hi, if_pos rfl]
theorem zmD (i : Ins) (hi : rgI i) (l : List Dp) (hl : l.length ≤ 100) (o : Bool) (r : List UInt8) (a0 : Nat) : ∀ (n k : Nat) (q : List UInt8) (j : Ins), k ≤ l.length → l.length - k < n → zbj (l.drop k) i = true → (q ++ z4 (l.drop k) i ++ r).length ≤ 1000000 → a0 ≤ q.length → zbB (l.drop k) i j = i → rgI i → Rti i = true → z9 i = ((q ++ z4 (l.drop k) i ++ r).take (q ++ z4 (l.drop k) i).length).drop a0 →
  zcF (q ++ z4 (l.drop k) i ++ r) (a0 : Int) i.Kind (zm l, o) n (j.Op.toNat : Int) j.R j.S j.T j.N j.M (q.length : Int) (k : Int) = some (i, (((q ++ z4 (l.drop k) i).length : Nat) : Int), 0)
 | 0, k, _, _, _, h, _, _, _, _, _, _, _ => by omega
 | n + 1, k, q, j, hk, h, hr, hb, ha0, hse, hri, hRt, henc => by
  show zdU (zcF (q ++ z4 (l.drop k) i ++ r) (a0 : Int) i.Kind (zm l, o) n) _ _ i.Kind (zm l, o) (j.Op.toNat : Int) j.R j.S j.T j.N j.M (q.length : Int) (k : Int) = _
  have hq : q.length ≤ (q ++ z4 (l.drop k) i ++ r).length := by simp
  by_cases hlt : k < l.length
  ·rw [List.drop_eq_getElem_cons hlt] at hr hb hse henc hq ⊢
   rw [zio, Bool.and_eq_true] at hr
   have e1 : q ++ z4 (l[k] :: l.drop (k + 1)) i ++ r = q ++ enP l[k] i ++ (z4 (l.drop (k + 1)) i ++ r) := by rw [zeQ]; simp only [List.append_assoc]
   have e2 : q ++ z4 (l[k] :: l.drop (k + 1)) i ++ r = (q ++ enP l[k] i) ++ z4 (l.drop (k + 1)) i ++ r := by rw [zeQ]; simp only [List.append_assoc]
   have e3 : q ++ z4 (l[k] :: l.drop (k + 1)) i = (q ++ enP l[k] i) ++ z4 (l.drop (k + 1)) i := by rw [zeQ]; simp only [List.append_assoc]
   have hst := zrk (j := j) (q := q) (r := z4 (l.drop (k + 1)) i ++ r) hr.1 hi (by rw [← e1]; omega)
   rw [← e1] at hst
   have ih := zmD i hi l hl o r a0 n (k + 1) (q ++ enP l[k] i) (seP l[k] i j) (by omega) (by omega) hr.2 (by rw [← e2]; exact hb) (by simp; omega) hse hri hRt (by rw [← e2, ← e3]; exact henc)
   rw [← e2] at ih
   rw [zm0 (by omega) (a0 : Int) i.Kind l hl o _ k hlt _ _ _ _ _ _ q.length hq, hst]
   simp only
   rw [ih, e3]
  ·have hdr : l.drop k = [] := List.drop_of_length_le (by omega)
   rw [hdr] at hr hb hse henc hq ⊢
   simp only [zbB, List.foldl_nil] at hse
   subst hse
   have hp : z4 [] j = [] := rfl
   rw [hp, List.append_nil] at hb henc hq ⊢
   have := znw hb a0 (by omega) j.Kind l o (zcF (q ++ r) (a0 : Int) j.Kind (zm l, o) n) k (by omega) j rfl hri q.length hq ha0
   rw [this, if_pos ⟨hRt, henc⟩]
theorem zsf {i : Ins} (hi : rgI i) (h : Rti i = true) {q r : List UInt8} (hb : (q ++ z9 i ++ r).length ≤ 1000000) : zeN (q ++ z9 i ++ r) (q.length : Int) = some (i, (((q ++ z9 i).length : Nat) : Int), 0) := by
 obtain ⟨l, hp, hr, hs, hbd⟩ := zhS h
 have h4 := zdO hp
 have hKlt := i.Kind.toNat_lt
 have he : z9 i = i.Kind :: z4 l i := by unfold z9; rw [hbd]
 unfold zeN
 have hlt : q.length < (q ++ z9 i ++ r).length := by rw [he]; simp
 have hg : zz (q ++ z9 i ++ r) (q.length : Int) = some i.Kind := by rw [zh1, he]; simp
 rw [zO (by omega), zO (by omega), Bool.or_self, if_neg (by simp), zeM (by omega), if_neg (by simp), hg, Option.bind_some, zbV (by omega), hp, Option.bind_some, zbt (by omega)]
 have e1 : q ++ z9 i ++ r = (q ++ [i.Kind]) ++ z4 (l.drop 0) i ++ r := by rw [he]; simp
 have e2 : q ++ z9 i = (q ++ [i.Kind]) ++ z4 (l.drop 0) i := by rw [he]; simp
 have h := zmD i hi l (by omega) true r q.length big 0 (q ++ [i.Kind]) (bse i.Kind) (by omega) (zbR (by omega)) (by simpa using hr) (by rw [← e1]; exact hb) (by simp) (by simpa using hs) hi h (by
  rw [← e1, ← e2, List.take_append_of_le_length (by simp), List.take_length, List.drop_append_of_le_length (by simp), List.drop_length, List.nil_append])
 rw [← e1, ← e2] at h
 rw [show ((q.length + 1 : Nat) : Int) = (((q ++ [i.Kind]).length : Nat) : Int) by simp]
 exact h
theorem zoB {b : List UInt8} {a : Int} (hb : b.length ≤ 1000000) : ∃ r, zeN b a = some r ∧ zkK b a r := by
 unfold zeN
 by_cases hc : a < 0 ∨ a > b.length
 ·rw [if_pos (by simpa using hc)]
  exact ⟨_, rfl, Or.inl ⟨hc, rfl⟩⟩
 ·obtain ⟨k, rfl⟩ : ∃ k : Nat, a = k := ⟨a.toNat, by omega⟩
  rw [if_neg (by simpa using hc)]
  by_cases he : (k : Int) = b.length
  ·rw [zd3 he, if_pos rfl]
   exact ⟨_, rfl, Or.inr ⟨by omega, Or.inl rfl⟩⟩
  ·have hk : k < b.length := by omega
   have hKlt := b[k].toNat_lt
   rw [zeM he, if_neg (by simp), zbQ hk, Option.bind_some, zbV (by omega), Option.bind_some, zbt (by omega)]
   have : ∃ (l : List Dp) (o : Bool), rpO (prts (b[k].toNat : Int)) = (zm l, o) ∧ l.length ≤ 100 := by
    cases hp : prts (b[k].toNat : Int) with
    | none => exact ⟨[], false, rfl, by simp⟩
    | some l => exact ⟨l, true, rfl, by have := zdO hp; omega⟩
   obtain ⟨l, o, hlo, hl⟩ := this
   rw [hlo]
   rcases zmH hb k (by omega) b[k] l hl o big 0 0 0 0 0 0 0 (k + 1) (by omega) (zbR (by omega)) (by omega) (by omega) (by omega) (by omega) with h | ⟨i, m, h, h1, h2, h3, h5, h6⟩
   ·exact ⟨_, h, Or.inr ⟨by omega, Or.inl rfl⟩⟩
   ·refine ⟨_, h, Or.inr ⟨by omega, Or.inr ⟨i, k, rfl, ?_, ⟨?_, ?_⟩, h1, h2⟩⟩⟩
    ·have hlen : (z9 i).length = m - k := by rw [h3]; simp; omega
     rw [hlen, show k + (m - k) = m by omega]
    ·have hlen : (z9 i).length = m - k := by rw [h3]; simp; omega
     omega
    ·have hlen : (z9 i).length = m - k := by rw [h3]; simp; omega
     rw [hlen, ← List.drop_take, ← h3]
theorem zqS {b : List UInt8} {a : Int} (hb : b.length ≤ 1000000) : ∃ r, zc2 b a = some r ∧ zeN b a = some r ∧ zkK b a r := by
 obtain ⟨r, h1, h2⟩ := znF (b := b) (a := a) (by omega)
 obtain ⟨s, h3, h4⟩ := zoB (b := b) (a := a) hb
 refine ⟨r, h1, ?_, h2⟩
 rw [h3]
 congr 1
 have both : ∀ (i : Ins) (k : Nat), a = k → zhW b k (z9 i) → Rti i = true → rgI i → r = (i, ((k + (z9 i).length : Nat) : Int), 0) ∧ s = (i, ((k + (z9 i).length : Nat) : Int), 0) := by
  intro i k hk hL hR hi
  subst hk
  have g1 := zrd hi hR (by omega) hL
  have hs := hL.split
  have hkl : (b.take k).length = k := by have := hL.1; rw [List.length_take]; omega
  have g2 := zsf hi hR (q := b.take k) (r := b.drop (k + (z9 i).length)) (by rw [← hs]; exact hb)
  rw [← hs, hkl, List.length_append, hkl] at g2
  rw [h1] at g1
  rw [h3] at g2
  injection g1 with g1
  injection g2 with g2
  exact ⟨g1, g2⟩
 rcases h4 with ⟨c1, c2⟩ | ⟨c1, c2 | ⟨i, k, c2, c3, c4, c5, c6⟩⟩
 ·rcases h2 with ⟨d1, d2⟩ | ⟨d1, _⟩
  ·rw [c2, d2]
  ·omega
 ·rcases h2 with ⟨d1, _⟩ | ⟨d1, d2 | ⟨i, k, d2, d3, d4, d5, d6⟩⟩
  ·omega
  ·rw [c2, d2]
  ·obtain ⟨_, e⟩ := both i k d2 d4 d5 d6
   rw [c2] at e
   injection e with _ e
   injection e with _ e
   cases e
 ·obtain ⟨e1, e2⟩ := both i k c2 c4 c5 c6
  rw [e1, e2]
end Go.Proofs.YtgkllgoelpfdkaaGreat
