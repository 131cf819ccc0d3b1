import Derived.Test.YtgkllgoelpfdkaaGreatP_04d
namespace Go.Proofs.YtgkllgoelpfdkaaGreat
open Go.Ab Go.RowKit
set_option linter.unusedVariables false
set_option linter.unusedSimpArgs false
theorem ziN : ∀ (k : Nat) (m : M4) (c : M4 × Nat), zbH k m = some c → c.2 ≤ k
 | 0, m, c, h => by
  injection h with h
  subst h
  exact Nat.le_refl _
 | k + 1, m, c, h => by
  by_cases hw : m.how = 0
  ·have h : (if m.how = 0 then (zb2 m).bind fun c => zbH k c.2 else some (m, k + 1)) = some c := h
   rw [if_pos hw] at h
   obtain ⟨r, _, h⟩ := bind_some h
   have := ziN k r.2 c h
   omega
  ·have h : (if m.how = 0 then (zb2 m).bind fun c => zbH k c.2 else some (m, k + 1)) = some c := h
   rw [if_neg hw] at h
   injection h with h
   subst h
   exact Nat.le_refl _
theorem zqn (c190 c216 : Int × Int × M4) (c257 c266 : List Int) (c326 : Bool) : ∀ (n k : Nat) (x : List Int), x.length ≤ 1000000000 → x.length - k < n → k ≤ x.length → zfo c190 c216 c257 c266 c326 n x (k : Int) = zeX c190 c216 c266 c326 big c257 0 := by
 intro n
 induction n with
 | zero => intro k x _ h; omega
 | succ n ih =>
  intro k x hx hn hk
  show zeZ _ c190 c216 c257 c266 c326 x (k : Int) = _
  unfold zeZ
  by_cases h : k < x.length
  ·rw [if_pos (zZ (by omega)), zb0 h, Option.bind_some, Option.bind_some, zbl (by omega)]
   exact ih (k + 1) _ (by rw [List.length_set]; omega) (by rw [List.length_set]; omega) (by rw [List.length_set]; omega)
  ·rw [if_neg (by simp; omega)]
theorem zqh (c190 c216 : Int × Int × M4) (c266 : List Int) (c326 : Bool) : ∀ (n k : Nat) (x : List Int), x.length ≤ 1000000000 → x.length - k < n → k ≤ x.length → zeX c190 c216 c266 c326 n x (k : Int) = zek c190 c216 c326 big c266 0 := by
 intro n
 induction n with
 | zero => intro k x _ h; omega
 | succ n ih =>
  intro k x hx hn hk
  show zgA _ c190 c216 c266 c326 x (k : Int) = _
  unfold zgA
  by_cases h : k < x.length
  ·rw [if_pos (zZ (by omega)), zb0 h, Option.bind_some, Option.bind_some, zbl (by omega)]
   exact ih (k + 1) _ (by rw [List.length_set]; omega) (by rw [List.length_set]; omega) (by rw [List.length_set]; omega)
  ·rw [if_neg (by simp; omega)]
theorem zog (a b c d : Int) (M : M4) (hw : M.words.length ≤ 1000000000) (ho : M.out.length ≤ 1000000000) : ∀ (n k : Nat) (x : List Int), x.length ≤ 1000000000 → x.length - k < n → k ≤ x.length → zek (a, b, M) (c, d, M) true n x (k : Int) = some true := by
 intro n
 induction n with
 | zero => intro k x _ h; omega
 | succ n ih =>
  intro k x hx hn hk
  show zfc _ (a, b, M) (c, d, M) true x (k : Int) = _
  unfold zfc
  by_cases h : k < x.length
  ·rw [if_pos (zZ (by omega)), zb0 h, Option.bind_some, Option.bind_some, zbl (by omega)]
   exact ih (k + 1) _ (by rw [List.length_set]; omega) (by rw [List.length_set]; omega) (by rw [List.length_set]; omega)
  ·have hw2 : zcO (⟨M.code, M.pc, M.regs, M.words, M.input, M.out, M.how, M.halting⟩ : M4) = some M.words := zk4 (m := M) hw
   have ho2 : zcG (⟨M.code, M.pc, M.regs, M.words, M.input, M.out, M.how, M.halting⟩ : M4) = some M.out := zj3 (m := M) ho
   rw [if_neg (by simp; omega), if_pos rfl]
   dsimp only
   rw [hw2, Option.bind_some, Option.bind_some, zez hw]
   dsimp only [Option.bind_some]
   rw [if_pos rfl, zkx, Option.bind_some, Option.bind_some, zez (by rw [zh9]; omega)]
   dsimp only [Option.bind_some]
   rw [if_pos rfl, ho2, Option.bind_some, Option.bind_some, zez ho]
   dsimp only [Option.bind_some]
   rw [if_pos rfl, zjR]
   rfl
theorem ziR (p : Int) : zbg 0 p = ((p.toNat : Nat) : Int) := by
 unfold zbg
 split <;> omega
theorem zmv (p0 : zbC) (p1 p2 : Int) (hr : ∀ x ∈ p0.Code, rgI x) : zhP p0 p1 p2 = some true := by
 unfold zhP
 obtain ⟨v, hv, hb⟩ := zmZ p0
 have hv : zeq (⟨p0.Code, p0.Bytes, p0.Start, p0.Words, p0.Input, p0.Fuel⟩ : zbC) = some v := hv
 rw [hv, Option.bind_some]
 by_cases hbig : v = true ∨ p1 > 1000 ∨ p2 > 1000
 ·have : ((v || decide (p1 > 1000)) || decide (p2 > 1000)) = true := by
   simp only [Bool.or_eq_true, decide_eq_true_eq, or_assoc]
   exact hbig
  rw [if_pos this, zjR]
  rfl
 ·have hvf : v = false := by cases v <;> simp at hbig ⊢
  have : ¬ ((v || decide (p1 > 1000)) || decide (p2 > 1000)) = true := by
   simp only [Bool.or_eq_true, decide_eq_true_eq, or_assoc]
   exact hbig
  obtain ⟨h1, h2, h3, h4⟩ := hb hvf
  obtain ⟨b, hB, hl⟩ := zny h1 h2 hr
  have hB : zel (⟨p0.Code, p0.Bytes, p0.Start, p0.Words, p0.Input, p0.Fuel⟩ : zbC) = some b := hB
  rw [if_neg this, hB, Option.bind_some, znn (by omega) (by omega), Option.bind_some]
  by_cases hm : zfE b p0.Start p0.Words = true
  ·rw [if_pos hm]
   dsimp only [zdJ, Option.bind_some]
   have hok := zor (input := p0.Input) (by omega : b.length ≤ 1000000) (by omega) hm
   generalize ziF b p0.Start p0.Words p0.Input = M at hok ⊢
   obtain ⟨c1, hc1, o1, z1, _⟩ := ziP p1.toNat 0 M hok (by omega)
   obtain ⟨c2, hc2, o2, z2, e2⟩ := ziP p2.toNat (0 + p1.toNat) c1.1 o1 (by omega)
   have hc3 : zbH (p1.toNat + p2.toNat) M = some (c2.1, c1.2 + c2.2) := by rw [zoE, hc1, Option.bind_some, hc2]; rfl
   have l1 := ziN _ _ _ hc1
   have l2 := ziN _ _ _ hc2
   have r1 : zb7 (⟨M.code, M.pc, M.regs, M.words, M.input, M.out, M.how, M.halting⟩ : M4) p1 = some ((c1.1.how.toNat : Int), (c1.2 : Int), c1.1) := (ziB (m := M) (by omega)).trans (by rw [hc1]; rfl)
   have r2 : zb7 (⟨c1.1.code, c1.1.pc, c1.1.regs, c1.1.words, c1.1.input, c1.1.out, c1.1.how, c1.1.halting⟩ : M4) p2 = some ((c2.1.how.toNat : Int), (c2.2 : Int), c2.1) := (ziB (m := c1.1) (by omega)).trans (by rw [hc2]; rfl)
   have r3 : zb7 (⟨M.code, M.pc, M.regs, M.words, M.input, M.out, M.how, M.halting⟩ : M4) (IntKind.i64.wrap (zbg 0 p1 + zbg 0 p2)) = some ((c2.1.how.toNat : Int), ((c1.2 + c2.2 : Nat) : Int), c2.1) := by
    rw [ziR, ziR, zV (by omega), show ((p1.toNat : Nat) : Int) + ((p2.toNat : Nat) : Int) = ((p1.toNat + p2.toNat : Nat) : Int) from by omega]
    refine (ziB (m := M) (by omega)).trans ?_
    rw [Int.toNat_natCast, hc3]
    rfl
   rw [if_neg (by decide), r1, Option.bind_some]
   dsimp only
   rw [r2, Option.bind_some]
   dsimp only
   rw [r3, Option.bind_some]
   dsimp only
   rw [if_neg (by simp)]
   have hq : (if ((c1.1.how.toNat : Int) != 0) = true then if ((c2.1.how.toNat : Int) != (c1.1.how.toNat : Int)) = true then some true else some ((c2.2 : Int) != zbg 0 p2) else some false) = some false := by
    by_cases e : c1.1.how = 0
    ·rw [if_neg (by rw [e]; decide)]
    ·obtain ⟨e3, e4⟩ := e2 e
     rw [if_pos (zhB fun h => e (zd0.1 (by simpa using h))), if_neg (by rw [e3]; simp), ziR, e4, zjC rfl]
   rw [hq, Option.bind_some]
   have hq2 : (if (c1.1.how.toNat : Int) == 0 then some ((c1.2 : Int) != 0) else some false) = some false := by
    by_cases e : c1.1.how = 0
    ·rw [if_pos (by rw [e]; rfl), z1 e]
     rfl
    ·rw [if_neg (by rw [zkw, zP e]; simp)]
   rw [if_neg (by rw [zV (by omega)]; simp), hq2, Option.bind_some, if_neg (by simp)]
   obtain ⟨q1, q2, q3, q4⟩ := o2
   have hw2 : zcO (⟨c2.1.code, c2.1.pc, c2.1.regs, c2.1.words, c2.1.input, c2.1.out, c2.1.how, c2.1.halting⟩ : M4) = some c2.1.words := zk4 (m := c2.1) (by omega)
   have ho2 : zcG (⟨c2.1.code, c2.1.pc, c2.1.regs, c2.1.words, c2.1.input, c2.1.out, c2.1.how, c2.1.halting⟩ : M4) = some c2.1.out := zj3 (m := c2.1) (by omega)
   rw [hw2, zkx, ho2]
   dsimp only [zfX, zfu, Option.bind_some]
   rw [zdK rfl, if_pos rfl]
   dsimp only [Option.bind_some]
   rw [zdK rfl, if_pos rfl, zez (by omega)]
   dsimp only [Option.bind_some]
   rw [if_pos rfl, zez (by rw [zh9]; omega)]
   dsimp only [Option.bind_some]
   rw [if_pos rfl, zez (by omega)]
   dsimp only [Option.bind_some]
   have i1 := zqn ((c2.1.how.toNat : Int), (c2.2 : Int), c2.1) ((c2.1.how.toNat : Int), ((c1.2 + c2.2 : Nat) : Int), c2.1) (rg4 c2.1.regs) c2.1.out true big 0 c2.1.words (by omega) (zbI (by omega)) (by omega)
   have i2 := zqh ((c2.1.how.toNat : Int), (c2.2 : Int), c2.1) ((c2.1.how.toNat : Int), ((c1.2 + c2.2 : Nat) : Int), c2.1) c2.1.out true big 0 (rg4 c2.1.regs) (by rw [zh9]; omega) (zbI (by rw [zh9]; omega)) (by omega)
   have i3 := zog (c2.1.how.toNat : Int) (c2.2 : Int) (c2.1.how.toNat : Int) ((c1.2 + c2.2 : Nat) : Int) c2.1 (by omega) (by omega) big 0 c2.1.out (by omega) (zbI (by omega)) (by omega)
   exact i1.trans (i2.trans i3)
  ·rw [if_neg hm]
   dsimp only [zdJ, Option.bind_some]
   rw [if_neg (by decide), zjR]
   rfl
end Go.Proofs.YtgkllgoelpfdkaaGreat
