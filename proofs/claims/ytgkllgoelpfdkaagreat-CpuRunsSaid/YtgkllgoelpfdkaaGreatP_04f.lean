import Derived.Test.YtgkllgoelpfdkaaGreatP_04d
namespace Go.Proofs.YtgkllgoelpfdkaaGreat
open Go.Ab Go.RowKit
set_option linter.unusedVariables false
set_option linter.unusedSimpArgs false
abbrev R4 := zQ
abbrev abR (r : R4) : St4 := ⟨r.Pc, r.R, r.W, r.In, r.Out⟩
abbrev ofR (r : R4) (s : St4) : R4 := ⟨r.Code, s.pc, s.R, s.W, s.I, s.O, r.How, r.Final⟩
theorem zdm {R : List Int} {k : Int} (hR : R.length = 16) (h : 0 ≤ k ∧ k < 16) : zz R k = some (rd4 R k) := zcN ⟨h.1, by omega⟩
theorem zsc {op a b : Int} (h : 1 ≤ op ∧ op ≤ 13) : zcJ op a b = some (match zch op a b with | some x => (x, true) | none => (0, false)) := by
 have : op = 1 ∨ op = 2 ∨ op = 3 ∨ op = 4 ∨ op = 5 ∨ op = 6 ∨ op = 7 ∨ op = 8 ∨ op = 9 ∨ op = 10 ∨ op = 11 ∨ op = 12 ∨ op = 13 := by omega
 rcases this with e | e | e | e | e | e | e | e | e | e | e | e | e <;> subst e
 all_goals first | rfl | skip
 ·by_cases hb : b = 0
  ·subst hb
   rfl
  ·by_cases h1 : b = -1
   ·subst h1
    simp [zcJ, zcE, zch, w64, Int.tdiv_neg]
   ·simp [zcJ, zcE, zch, w64, hb, h1, zf9]
 ·by_cases hb : b = 0
  ·subst hb
   rfl
  ·by_cases h1 : b = -1
   ·subst h1
    simp [zcJ, zcE, zch, w64, Int.tmod_neg]
   ·simp [zcJ, zcE, zch, w64, hb, h1, zfP]
 ·by_cases hb : a = b <;> simp [zcJ, zcE, zcC, zch, hb]
 ·by_cases hb : a = b <;> simp [zcJ, zcE, zcC, zch, hb]
 ·by_cases hb : a < b <;> simp [zcJ, zcE, zcC, zch, hb]
 ·by_cases hb : a ≤ b <;> simp [zcJ, zcE, zcC, zch, hb]
 ·by_cases hb : a > b <;> simp [zcJ, zcE, zcC, zch, hb]
 ·by_cases hb : a ≥ b <;> simp [zcJ, zcE, zcC, zch, hb]
theorem zih {r : R4} {i : Ins} {nx a : Int} (hR : r.R.length = 16) (hi : 0 ≤ i.R ∧ i.R < 16) : zfK r i nx a = some (match thS r.W a with
  | .error k => ((k.toNat : Int), r)
  | .ok a => if (i.Kind.toNat : Int) = 6 ∨ (i.Kind.toNat : Int) = 8 then (0, ofR r ⟨nx, r.R.set i.R.toNat (r.W.getD a.toNat 0), r.W, r.In, r.Out⟩) else (0, ofR r ⟨nx, r.R, r.W.set a.toNat (rd4 r.R i.R), r.In, r.Out⟩)) := by
 unfold zfK zeJ zbS thS
 dsimp only [Option.bind_some]
 by_cases h : 0 ≤ a ∧ a < (r.W.length : Int)
 ·rw [if_neg (by simp; omega), if_pos h, zcN h, zdm hR hi]
  dsimp only [Option.bind_some]
  by_cases hk : (i.Kind.toNat : Int) = 6 ∨ (i.Kind.toNat : Int) = 8
  ·rw [if_pos (by simpa using hk), if_pos hk]
  ·rw [if_neg (by simpa using hk), if_neg hk]
 ·rw [if_pos (by simp; omega), if_neg h]
  rfl
theorem zp2 {r : R4} {i : Ins} (nx : Int) (hi : Rti i = true) (hR : r.R.length = 16) (hO : r.Out.length ≤ 1000000000) (hI : r.In.length ≤ 1000000000) :
  zfR r i nx = some (match doS i nx (abR r) with
   | .ok s => (0, ofR r s)
   | .error k => ((k.toNat : Int), if (i.Kind.toNat : Int) = 17 then { r with Final := rd4 r.R i.R } else r)) := by
 obtain ⟨hiR, hS, hT, hOp, hN, hJ, hK1, hK2⟩ := zjU hi
 have h15 : zz r.R 15 = some (rd4 r.R 15) := zdm hR (by omega)
 unfold zfR
 rw [zdm hR hS, Option.bind_some, zdm hR hiR, zdm hR hT]
 rcases zft (i.Kind.toNat : Int) with e | e | e | e | e | e | e | e | e | e | e | e | e | e | e | e | e | e | e
 ·simp only [doS, e, zbS, zbO, Int.reduceBEq, Int.reduceEq, Bool.false_eq_true, if_false, or_self, Option.bind_some]
 ·simp only [doS, e, zbS, zbO, Int.reduceBEq, Int.reduceEq, Bool.false_eq_true, if_false, if_true, or_self, Option.bind_some]
 ·simp only [doS, e, zbS, zbO, Int.reduceBEq, Int.reduceEq, Bool.false_eq_true, if_false, if_true, or_self, Option.bind_some]
 ·simp only [doS, e, zbS, zbO, Int.reduceBEq, Int.reduceEq, Bool.false_eq_true, if_false, if_true, or_self, Option.bind_some, zsc (hOp e), abR]
  cases zch (i.Op.toNat : Int) (rd4 r.R i.S) (rd4 r.R i.T) <;> rfl
 ·simp only [doS, e, zbS, zbO, Int.reduceBEq, Int.reduceEq, Bool.false_eq_true, if_false, if_true, or_self, Option.bind_some, zjx, w64, abR]
  by_cases h : (i.Op.toNat : Int) = 14 <;> simp [h]
 ·simp only [doS, e, zbO, Int.reduceBEq, Int.reduceEq, Bool.false_eq_true, if_false, if_true, or_self, true_or, or_true, Option.bind_some, zih hR hiR, plS, Bool.or_self, w64, abR]
  cases thS r.W (IntKind.i64.wrap (rd4 r.R i.S + i.N)) <;> rfl
 ·simp only [doS, e, zbO, Int.reduceBEq, Int.reduceEq, Bool.false_eq_true, if_false, if_true, or_self, true_or, or_true, Option.bind_some, zih hR hiR, plS, Bool.or_self, w64, abR]
  cases thS r.W (IntKind.i64.wrap (rd4 r.R i.S + i.N)) <;> rfl
 ·simp only [doS, e, zbO, Int.reduceBEq, Int.reduceEq, Bool.false_eq_true, if_false, if_true, or_self, true_or, or_true, Option.bind_some, zih hR hiR, plS, Bool.or_self, Bool.or_false, Bool.or_true, Bool.true_or, w64, abR, zdm hR hT]
  by_cases h1 : rd4 r.R i.T < 0
  ·simp [h1]
  ·by_cases h2 : rd4 r.R i.T ≥ i.M
   ·simp [h1, h2]
   ·simp only [h1, h2, decide_false, Bool.false_eq_true, if_false, Option.bind_some, or_self]
    cases thS r.W (IntKind.i64.wrap (IntKind.i64.wrap (rd4 r.R i.S + i.N) + rd4 r.R i.T)) <;> rfl
 ·simp only [doS, e, zbO, Int.reduceBEq, Int.reduceEq, Bool.false_eq_true, if_false, if_true, or_self, true_or, or_true, Option.bind_some, zih hR hiR, plS, Bool.or_self, Bool.or_false, Bool.or_true, Bool.true_or, Bool.false_or, w64, abR, zdm hR hT]
  by_cases h1 : rd4 r.R i.T < 0
  ·simp [h1]
  ·by_cases h2 : rd4 r.R i.T ≥ i.M
   ·simp [h1, h2]
   ·simp only [h1, h2, decide_false, Bool.false_eq_true, if_false, Option.bind_some, or_self]
    cases thS r.W (IntKind.i64.wrap (IntKind.i64.wrap (rd4 r.R i.S + i.N) + rd4 r.R i.T)) <;> rfl
 ·simp only [doS, e, zbO, Int.reduceBEq, Int.reduceEq, Bool.false_eq_true, if_false, if_true, or_self, abR]
 ·simp only [doS, e, zbO, zbS, Int.reduceBEq, Int.reduceEq, Bool.false_eq_true, if_false, if_true, or_self, abR, zdm hR hiR, Option.bind_some]
  by_cases h : rd4 r.R i.R = 0 <;> simp [h]
 ·simp only [doS, e, zbO, Int.reduceBEq, Int.reduceEq, Bool.false_eq_true, if_false, if_true, or_self, abR, h15, Option.bind_some, zeJ, thS]
  rw [show IntKind.i64.wrap (rd4 r.R 15 - 1) = w64 (rd4 r.R 15 - 1) from rfl]
  generalize w64 (rd4 r.R 15 - 1) = x
  by_cases h1 : x < 0
  ·simp [h1]
  ·by_cases h2 : 0 ≤ x ∧ x < (r.W.length : Int)
   ·simp only [h1, decide_false, Bool.false_eq_true, if_false, zcN h2, Option.bind_some]
    rw [if_neg (by simp; omega), if_pos h2]
    rfl
   ·simp only [h1, decide_false, Bool.false_eq_true, if_false]
    rw [if_pos (by simp; omega), if_neg h2]
    rfl
 ·simp only [doS, e, zbO, Int.reduceBEq, Int.reduceEq, Bool.false_eq_true, if_false, if_true, or_self, abR, h15, Option.bind_some, zeJ, thS, w64]
  by_cases h2 : 0 ≤ rd4 r.R 15 ∧ rd4 r.R 15 < (r.W.length : Int)
  ·simp only [zcN h2, Option.bind_some, if_pos h2]
   rw [if_neg (by simp; omega)]
   generalize r.W.getD (rd4 r.R 15).toNat 0 = t
   by_cases h3 : t < 0
   ·simp [h3]
   ·by_cases h4 : t ≥ 16777216
    ·simp [h3, h4]
    ·simp only [h3, h4, decide_false, Bool.false_eq_true, if_false, Option.bind_some, or_self]
     rfl
  ·simp only [if_neg h2]
   rw [if_pos (by simp; omega)]
   rfl
 ·simp only [doS, e, zbO, zbS, Int.reduceBEq, Int.reduceEq, Bool.false_eq_true, if_false, if_true, or_self, abR, h15, Option.bind_some, w64]
  by_cases h1 : IntKind.i64.wrap (rd4 r.R 15 - i.N) < 0
  ·simp [h1]
  ·by_cases h2 : IntKind.i64.wrap (rd4 r.R 15 - i.N) > (r.W.length : Int)
   ·simp [h1, h2]
   ·simp only [h1, h2, decide_false, Bool.false_eq_true, if_false]
    rfl
 ·simp only [doS, e, zbO, zbS, Int.reduceBEq, Int.reduceEq, Bool.false_eq_true, if_false, if_true, or_self, abR, zdm hR hiR]
  obtain ⟨rC, rP, rR, rW, rI, rO, rH, rF⟩ := r
  dsimp only at *
  cases rI with
  | nil => rfl
  | cons x l =>
   have h1 : (((x :: l).length : Int) == 0) = false := by simp; omega
   have h2 : zb5 (x :: l) 1 ((x :: l).length : Int) = some l := by
    rw [show (1 : Int) = ((1 : Nat) : Int) from rfl, zcV (by simp) (Nat.le_refl _), List.take_length]
    rfl
   have h3 : zz (x :: l) 0 = some x := rfl
   simp only [h1, Bool.false_eq_true, if_false, h2, h3, Option.bind_some]
   rw [zbi (by simp at hI ⊢; omega)]
   rfl
 ·simp only [doS, e, zbO, zbS, Int.reduceBEq, Int.reduceEq, Bool.false_eq_true, if_false, if_true, or_self, abR, zdm hR hiR, Option.bind_some]
  rw [zbi (by simp; omega), Option.bind_some, zbi (by simp; omega)]
  rfl
 ·simp only [doS, e, zbO, Int.reduceBEq, Int.reduceEq, Bool.false_eq_true, if_false, if_true, or_self, abR, zdm hR hiR, Option.bind_some]
  rfl
 ·have hN := hN e
  simp only [doS, e, zbO, Int.reduceBEq, Int.reduceEq, Bool.false_eq_true, if_false, if_true, or_self, abR]
  have hw : IntKind.u8.wrap i.N = i.N := by rw [zd0]; omega
  rw [hw]
  have hq : ((UInt8.ofNat i.N.toNat).toNat : Int) = i.N := by rw [UInt8.toNat_ofNat']; omega
  rw [hq]
 ·omega
abbrev toR (m : M4) : R4 := ⟨m.code, m.pc, rg4 m.regs, m.words, m.input, m.out, m.how, m.halting⟩
theorem zr6 (k : UInt8) : u8o (k.toNat : Int) = some k := by rw [zlg k.toNat_lt, UInt8.ofNat_toNat]
theorem zqq {n : Nat} {m : M4} (h : OkM n m) (hn : n ≤ 100000000) : ∃ c, zdl m = some c ∧ zf6 (toR m) = some (c.1, toR c.2) ∧ c.1 = (c.2.how.toNat : Int) ∧ OkM (n + 1) c.2 := by
 obtain ⟨r, hr, e1, e2, _, _⟩ := zpg h hn
 refine ⟨r, hr, ?_, e1, e2⟩
 obtain ⟨h1, h2, h3, h4⟩ := h
 unfold zf6
 by_cases hw : m.how = 0
 ·obtain ⟨r', hr', hR⟩ := zl2 hw (by omega) (by omega)
  rw [hr] at hr'
  injection hr' with hr'
  subst hr'
  obtain ⟨⟨i, nx, e⟩, hg, hg2, hgr⟩ := zqS (b := m.code) (a := m.pc) (by omega)
  rw [if_neg (by show ¬ ((m.how.toNat : Int) != 0) = true; rw [hw]; simp), hg2, Option.bind_some]
  have hg4 : zc2 m.code (abC m).pc = some (i, nx, e) := hg
  unfold stS at hR
  rw [hg4] at hR
  dsimp only at hR
  unfold zi4
  dsimp only
  by_cases he : e = 0
  ·subst he
   rw [if_pos rfl] at hR
   rw [if_neg (by simp)]
   rcases hgr with ⟨_, h⟩ | ⟨_, h | ⟨i2, k, _, h, hL, hRt, hrg⟩⟩
   ·injection h with _ h; injection h with _ h; cases h
   ·injection h with _ h; injection h with _ h; cases h
   ·injection h with q1 q2
    subst q1
    have hd := zp2 (r := toR m) (i := i) nx hRt (zkZ _) (by show m.out.length ≤ _; omega) (by show m.input.length ≤ _; omega)
    have hd : zfR (⟨m.code, m.pc, rg4 m.regs, m.words, m.input, m.out, m.how, m.halting⟩ : R4) (⟨i.Kind, i.Op, i.R, i.S, i.T, i.N, i.M⟩ : Ins) nx = _ := hd
    rw [hd, Option.bind_some]
    have ha : abR (toR m) = abC m := rfl
    rw [ha]
    cases hdo : doS i nx (abC m) with
    | ok s =>
     rw [hdo] at hR
     obtain ⟨r1, r2, r3, r4, r5⟩ := hR
     dsimp only
     rw [show u8o 0 = some 0 from rfl, Option.bind_some, r1]
     subst r5
     dsimp only [toR, abC]
     rw [r2, r3, r4]
    | error k =>
     rw [hdo] at hR
     obtain ⟨r1, r2⟩ := hR
     dsimp only
     rw [zr6, Option.bind_some, r1, r2]
     by_cases e17 : (i.Kind.toNat : Int) = 17
     ·rw [if_pos e17, if_pos e17]
      rfl
     ·rw [if_neg e17, if_neg e17]
      rfl
  ·rw [if_neg he] at hR
   obtain ⟨r1, r2⟩ := hR
   rw [if_pos (zdA he), r1, r2]
   rfl
 ·have := zm1 hw
  rw [hr] at this
  injection this with this
  subst this
  rw [if_pos]
  show ((m.how.toNat : Int) != 0) = true
  rw [zdA]
  exact fun h => hw (zdS.1 (by simpa using h))
theorem zoi {code : List UInt8} {start words : Int} {input : List Int} (hc : code.length ≤ 1000000) (hi : input.length ≤ 1000000) : zgj code start words input = some (if ze3 code start words = true then (some (toR (zkv code start words input)), 0) else (none, 1)) := by
 unfold zgj ze3
 cases hb : ((((decide ((code.length : Int) > 1048576) || decide (start < 0)) || decide (start > (code.length : Int))) || decide (words < 1)) || decide (words > 65536)) with
 | true => rfl
 | false =>
  rw [if_neg (by simp), zk0 (by omega), Option.bind_some]
  simp only [Bool.or_eq_false_iff, decide_eq_false_iff_not] at hb
  have hm : mkI (0 : Int) words words = some (List.replicate words.toNat 0) := by
   unfold mkI
   rw [if_pos ⟨by omega, by omega, by omega⟩]
  rw [hm, show mkI (0 : Int) 16 16 = some (List.replicate 16 0) from rfl, Option.bind_some, Option.bind_some]
  unfold zjq
  rw [zbi (by simp; omega), Option.bind_some, show zz (List.replicate 16 (0 : Int)) 15 = some 0 from rfl, Option.bind_some]
  rfl
theorem znP {m : M4} (hw : m.words.length ≤ 1000000000) (ho : m.out.length ≤ 1000000000) : zeO m (toR m) = some true := by
 have hw2 : zem (⟨m.code, m.pc, m.regs, m.words, m.input, m.out, m.how, m.halting⟩ : M4) = some m.words := zpP (m := m) hw
 have ho2 : zdR (⟨m.code, m.pc, m.regs, m.words, m.input, m.out, m.how, m.halting⟩ : M4) = some m.out := zod (m := m) ho
 have hH : zfz (⟨m.code, m.pc, m.regs, m.words, m.input, m.out, m.how, m.halting⟩ : M4) = some (if (m.how.toNat : Int) = 1 then (m.halting, true) else (0, false)) := by
  unfold zfz
  dsimp only [zdD, Option.bind_some]
  by_cases h : (m.how.toNat : Int) = 1
  ·rw [if_neg (by simpa using h), if_pos h]
  ·rw [if_pos (by simpa using h), if_neg h]
 unfold zeO
 rw [hH, hw2, ho2, zlP, Option.bind_some]
 dsimp only [zdD, zfO, zif, Option.bind_some]
 have tail : (if ((m.how.toNat : Int) == (m.how.toNat : Int)) = true then some (m.pc == m.pc) else some false) = some true := by simp
 rw [tail]
 dsimp only [Option.bind_some]
 rw [if_pos rfl, zd3 rfl]
 dsimp only [Option.bind_some]
 rw [if_pos rfl, ziE (by rw [zkZ]; omega)]
 dsimp only [Option.bind_some]
 rw [if_pos rfl, ziE hw]
 dsimp only [Option.bind_some]
 rw [if_pos rfl, ziE ho]
 dsimp only [Option.bind_some]
 by_cases h : (m.how.toNat : Int) = 1 <;> simp [h]
theorem zmE (p0 : zbs) {m : M4} (hw : m.words.length ≤ 1000000000) (ho : m.out.length ≤ 1000000000) : zf2 p0 m.code m.pc m.regs m.words m.input m.out m.how m.halting m.code m.pc (rg4 m.regs) m.words m.input m.out m.how m.halting = some true := by
 unfold zf2
 have hl : zeO (⟨m.code, m.pc, m.regs, m.words, m.input, m.out, m.how, m.halting⟩ : M4) (⟨m.code, m.pc, rg4 m.regs, m.words, m.input, m.out, m.how, m.halting⟩ : R4) = some true := znP (m := m) hw ho
 rw [hl]
 unfold zjz
 dsimp only
 by_cases h : 0 ≤ p0.Fuel ∧ p0.Fuel < (m.words.length : Int)
 ·rw [if_neg (by simp; omega), zcN h]
  dsimp only [Option.bind_some]
  have e : (decide (p0.Fuel ≥ 0) && decide (p0.Fuel < (m.words.length : Int))) = true := by simp; omega
  rw [e]
  simp [zi3]
 ·rw [if_pos (by simp; omega)]
  dsimp only [Option.bind_some]
  have e : (decide (p0.Fuel ≥ 0) && decide (p0.Fuel < (m.words.length : Int))) = false := by simp; omega
  rw [e]
  simp [zi3]
theorem zq6 (p0 : zbs) (hf : p0.Fuel ≤ 1000) : ∀ (n k : Nat) (m : M4), (p0.Fuel - k).toNat < n → k ≤ 1000 → OkM k m → zhZ p0 n m.code m.pc m.regs m.words m.input m.out m.how m.halting m.code m.pc (rg4 m.regs) m.words m.input m.out m.how m.halting (k : Int) = some true := by
 intro n
 induction n with
 | zero => intro k m h; omega
 | succ n ih =>
  intro k m hn hk hO
  show zhd _ p0 m.code m.pc m.regs m.words m.input m.out m.how m.halting m.code m.pc (rg4 m.regs) m.words m.input m.out m.how m.halting (k : Int) = _
  unfold zhd
  by_cases h : (k : Int) < p0.Fuel
  ·obtain ⟨c, hc, hd, h1, h2⟩ := zqq hO (by omega)
   have hc : zdl (⟨m.code, m.pc, m.regs, m.words, m.input, m.out, m.how, m.halting⟩ : M4) = some c := hc
   have hd : zf6 (⟨m.code, m.pc, rg4 m.regs, m.words, m.input, m.out, m.how, m.halting⟩ : R4) = some (c.1, toR c.2) := hd
   have hR : zd5 (⟨c.2.code, c.2.pc, c.2.regs, c.2.words, c.2.input, c.2.out, c.2.how, c.2.halting⟩ : M4) = some (rg4 c.2.regs) := zlP c.2
   have hq := h2
   obtain ⟨o1, o2, o3, o4⟩ := h2
   rw [if_pos (zX h), hc, hd]
   dsimp only [zfO, zdD, Option.bind_some]
   rw [zcy rfl, if_neg (by simp), zcy rfl]
   dsimp only [Option.bind_some]
   rw [if_neg (by simp), zcy rfl]
   dsimp only [Option.bind_some]
   rw [if_neg (by simp), hR, Option.bind_some, ziE (by rw [zkZ]; omega)]
   dsimp only [Option.bind_some]
   rw [if_neg (by simp)]
   by_cases hz : c.2.how = 0
   ·rw [if_neg (by rw [hz]; simp), zbt (by omega)]
    exact ih (k + 1) c.2 (by omega) (by omega) hq
   ·rw [if_pos (zdA fun e => hz (zdS.1 (by simpa using e)))]
    exact zmE p0 (by omega) (by omega)
  ·rw [if_neg (by simpa using h)]
   obtain ⟨o1, o2, o3, o4⟩ := hO
   exact zmE p0 (by omega) (by omega)
theorem zoa (p0 : zbs) (hf : p0.Fuel ≤ 1000) {m : M4} (hO : OkM 0 m) : ∀ (n k : Nat) (x : List Int), x.length ≤ 1000000000 → x.length - k < n → k ≤ x.length → zgF p0 m (toR m) n x (k : Int) = some true := by
 intro n
 induction n with
 | zero => intro k x _ h; omega
 | succ n ih =>
  intro k x hx hn hk
  show zgS _ p0 m (toR m) x (k : Int) = _
  unfold zgS
  by_cases h : k < x.length
  ·rw [if_pos (zX (by omega)), zbQ h, Option.bind_some, zbt (by omega)]
   exact ih (k + 1) _ (by rw [List.length_set]; omega) (by rw [List.length_set]; omega) (by rw [List.length_set]; omega)
  ·have hq := hO
   obtain ⟨o1, o2, o3, o4⟩ := hO
   have hl : zeO (⟨m.code, m.pc, m.regs, m.words, m.input, m.out, m.how, m.halting⟩ : M4) (⟨m.code, m.pc, rg4 m.regs, m.words, m.input, m.out, m.how, m.halting⟩ : R4) = some true := znP (m := m) (by omega) (by omega)
   rw [if_neg (by simp; omega), hl, Option.bind_some, if_neg (by simp)]
   exact zq6 p0 hf big 0 m (by have := zbR (n := (p0.Fuel - (0 : Nat)).toNat) (by omega); exact this) (by omega) hq
theorem zsx (p0 : zbs) (hf : p0.Fuel ≤ 1000) (hi : p0.Input.length ≤ 100) {m : M4} (hO : OkM 0 m) : ∀ (n k : Nat) (x : List UInt8), x.length ≤ 1000000000 → x.length - k < n → k ≤ x.length → zhH p0 m (toR m) n x (k : Int) = some true := by
 intro n
 induction n with
 | zero => intro k x _ h; omega
 | succ n ih =>
  intro k x hx hn hk
  show zgE _ p0 m (toR m) x (k : Int) = _
  unfold zgE
  by_cases h : k < x.length
  ·rw [if_pos (zX (by omega)), zbQ h, Option.bind_some, zbt (by omega)]
   exact ih (k + 1) _ (by rw [List.length_set]; omega) (by rw [List.length_set]; omega) (by rw [List.length_set]; omega)
  ·rw [if_neg (by simp; omega)]
   exact zoa p0 hf hO big 0 _ (by simp; omega) (zbR (by simp; omega)) (by omega)
theorem zpu (p0 : zbs) (hr : ∀ x ∈ p0.Code, rgI x) : zic p0 = some true := by
 unfold zic
 obtain ⟨v, hv, hb⟩ := zsv p0
 have hv : zfT (⟨p0.Code, p0.Bytes, p0.Start, p0.Words, p0.Input, p0.Fuel⟩ : zbs) = some v := hv
 rw [hv, Option.bind_some]
 cases v with
 | true => rw [if_pos rfl, zi3]; rfl
 | false =>
  obtain ⟨h1, h2, h3, h4⟩ := hb rfl
  obtain ⟨b, hB, hl⟩ := zox h1 h2 hr
  have hB : zf7 (⟨p0.Code, p0.Bytes, p0.Start, p0.Words, p0.Input, p0.Fuel⟩ : zbs) = some b := hB
  have hE : zep b b = some true := by
   unfold zep
   rw [if_pos ⟨by omega, by omega⟩, decide_eq_true rfl]
  rw [if_neg (by simp), hB, Option.bind_some, zk0 (by omega), Option.bind_some, zbi (by simp; omega), Option.bind_some, List.nil_append, zqF (by omega) (by omega), zoi (by omega) (by omega), Option.bind_some]
  by_cases hm : ze3 b p0.Start p0.Words = true
  ·rw [if_pos hm, if_pos hm]
   dsimp only [zff, Option.bind_some]
   rw [hE]
   exact zsx p0 h4 h3 (zsa (by omega) (by omega) hm) big 0 b (by omega) (zbR (by omega)) (by omega)
  ·rw [if_neg hm, if_neg hm]
   dsimp only [zff, Option.bind_some]
   rw [hE]
   simp [zi3]
end Go.Proofs.YtgkllgoelpfdkaaGreat
