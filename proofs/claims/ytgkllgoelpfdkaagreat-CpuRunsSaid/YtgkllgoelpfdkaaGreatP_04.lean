import Derived.Test.YtgkllgoelpfdkaaGreatP_03
namespace Go.Proofs.YtgkllgoelpfdkaaGreat
open Go.Ab Go.RowKit
set_option linter.unusedVariables false
set_option linter.unusedSimpArgs false
theorem zjU {i : Ins} (h : Rti i = true) : (0 ≤ i.R ∧ i.R < 16) ∧ (0 ≤ i.S ∧ i.S < 16) ∧ (0 ≤ i.T ∧ i.T < 16) ∧ ((i.Kind.toNat : Int) = 4 → 1 ≤ (i.Op.toNat : Int) ∧ (i.Op.toNat : Int) ≤ 13) ∧ ((i.Kind.toNat : Int) = 18 → 2 ≤ i.N ∧ i.N ≤ 4) ∧ ((i.Kind.toNat : Int) = 10 ∨ (i.Kind.toNat : Int) = 11 ∨ (i.Kind.toNat : Int) = 12 → 0 ≤ i.N ∧ i.N < 16777216) ∧ 1 ≤ (i.Kind.toNat : Int) ∧ (i.Kind.toNat : Int) ≤ 18 := by
 obtain ⟨K, O, R, S, T, N, M⟩ := i
 unfold Rti at h
 dsimp only at h ⊢
 generalize hk : (K.toNat : Int) = k at h ⊢
 rcases zft k with e | e | e | e | e | e | e | e | e | e | e | e | e | e | e | e | e | e | e
 all_goals first | subst e | skip
 case inr.inr.inr.inr.inr.inr.inr.inr.inr.inr.inr.inr.inr.inr.inr.inr.inr.inr => rw [zgT e] at h; cases h
 all_goals
  simp only [prts, zbB, zbj, rtP, seP, bse, List.foldl, List.all, Bool.and_eq_true, Bool.and_true, decide_eq_true_eq, zf.mk.injEq, Bool.or_eq_true, reduceIte, or_self, or_true, true_or, Int.reduceEq, or_false, false_or] at h
  refine ⟨?_, ?_, ?_, ?_, ?_, ?_, ?_, ?_⟩ <;> omega
structure St4 where
 pc : Int
 R : List Int
 W : List Int
 I : List Int
 O : List Int
def rd4 (R : List Int) (k : Int) : Int := R.getD k.toNat 0
def w64 (n : Int) : Int := IntKind.i64.wrap n
def zch (op a b : Int) : Option Int :=
 if op = 1 then some (w64 (a + b)) else if op = 2 then some (w64 (a - b)) else if op = 3 then some (w64 (a * b)) else
 if op = 4 then (if b = 0 then none else some (w64 (a.tdiv b))) else if op = 5 then (if b = 0 then none else some (a.tmod b)) else
 if op = 6 then some (if a = b then 1 else 0) else if op = 7 then some (if a = b then 0 else 1) else if op = 8 then some (if a < b then 1 else 0) else
 if op = 9 then some (if a ≤ b then 1 else 0) else if op = 10 then some (if a > b then 1 else 0) else if op = 11 then some (if a ≥ b then 1 else 0) else
 if op = 12 then some (zcz .i64 a b) else some (orI .i64 a b)
def thS (W : List Int) (a : Int) : Except UInt8 Int := if 0 ≤ a ∧ a < W.length then .ok a else .error 6
def plS (i : Ins) (s : St4) : Except UInt8 Int :=
 if (i.Kind.toNat : Int) = 8 ∨ (i.Kind.toNat : Int) = 9 then (if rd4 s.R i.T < 0 ∨ rd4 s.R i.T ≥ i.M then .error 3 else thS s.W (w64 (w64 (rd4 s.R i.S + i.N) + rd4 s.R i.T))) else thS s.W (w64 (rd4 s.R i.S + i.N))
def doS (i : Ins) (nx : Int) (s : St4) : Except UInt8 St4 :=
 if (i.Kind.toNat : Int) = 2 then .ok { s with pc := nx, R := s.R.set i.R.toNat i.N }
 else if (i.Kind.toNat : Int) = 3 then .ok { s with pc := nx, R := s.R.set i.R.toNat (rd4 s.R i.S) }
 else if (i.Kind.toNat : Int) = 4 then (match zch i.Op.toNat (rd4 s.R i.S) (rd4 s.R i.T) with
  | none => .error 2
  | some x => .ok { s with pc := nx, R := s.R.set i.R.toNat x })
 else if (i.Kind.toNat : Int) = 5 then .ok { s with pc := nx, R := s.R.set i.R.toNat (w64 ((if (i.Op.toNat : Int) = 14 then 1 else 0) - rd4 s.R i.S)) }
 else if (i.Kind.toNat : Int) = 6 ∨ (i.Kind.toNat : Int) = 8 then (match plS i s with
  | .error k => .error k
  | .ok a => .ok { s with pc := nx, R := s.R.set i.R.toNat (s.W.getD a.toNat 0) })
 else if (i.Kind.toNat : Int) = 7 ∨ (i.Kind.toNat : Int) = 9 then (match plS i s with
  | .error k => .error k
  | .ok a => .ok { s with pc := nx, W := s.W.set a.toNat (rd4 s.R i.R) })
 else if (i.Kind.toNat : Int) = 10 then .ok { s with pc := i.N }
 else if (i.Kind.toNat : Int) = 11 then .ok { s with pc := if rd4 s.R i.R = 0 then i.N else nx }
 else if (i.Kind.toNat : Int) = 12 then (if w64 (rd4 s.R 15 - 1) < 0 then .error 7 else match thS s.W (w64 (rd4 s.R 15 - 1)) with
  | .error k => .error k
  | .ok a => .ok { s with pc := i.N, R := s.R.set 15 a, W := s.W.set a.toNat nx })
 else if (i.Kind.toNat : Int) = 13 then (match thS s.W (rd4 s.R 15) with
  | .error k => .error k
  | .ok a => if s.W.getD a.toNat 0 < 0 ∨ s.W.getD a.toNat 0 ≥ 16777216 then .error 5 else .ok { s with pc := s.W.getD a.toNat 0, R := s.R.set 15 (w64 (a + 1)) })
 else if (i.Kind.toNat : Int) = 14 then (if w64 (rd4 s.R 15 - i.N) < 0 then .error 7 else if w64 (rd4 s.R 15 - i.N) > s.W.length then .error 6 else .ok { s with pc := nx, R := s.R.set 15 (w64 (rd4 s.R 15 - i.N)) })
 else if (i.Kind.toNat : Int) = 15 then (match s.I with
  | [] => .error 4
  | x :: r => .ok { s with pc := nx, R := s.R.set i.R.toNat x, I := r })
 else if (i.Kind.toNat : Int) = 16 then .ok { s with pc := nx, O := s.O ++ [rd4 s.R i.R] }
 else if (i.Kind.toNat : Int) = 17 then .error 1
 else if (i.Kind.toNat : Int) = 18 then .error (UInt8.ofNat i.N.toNat)
 else .ok { s with pc := nx }
def rg4 (f : Nat → Int) : List Int := (List.range 16).map f
theorem zkZ (f : Nat → Int) : (rg4 f).length = 16 := by simp [rg4]
theorem zdp {f : Nat → Int} {k : Int} (h : 0 ≤ k ∧ k < 16) : rd4 (rg4 f) k = f k.toNat := by
 unfold rd4 rg4
 rw [List.getD_eq_getElem?_getD, List.getElem?_map, List.getElem?_range (by omega)]
 rfl
theorem zfu {f : Nat → Int} {k : Nat} (v : Int) (h : k < 16) : rg4 (zv f k v) = (rg4 f).set k v := by
 unfold rg4
 apply List.ext_getElem?
 intro j
 rw [List.getElem?_set, List.length_map, List.length_range, List.getElem?_map, List.getElem?_map]
 by_cases hj : k = j
 ·subst hj
  rw [if_pos rfl, if_pos h, List.getElem?_range h]
  simp [zv]
 ·rw [if_neg hj]
  by_cases hj2 : j < 16
  ·rw [List.getElem?_range hj2]
   simp [zv, show ¬ j = k from fun e => hj e.symm]
  ·rw [List.getElem?_eq_none (by simp; omega)]
   rfl
theorem ze0 {k : Int} (h : 0 ≤ k ∧ k < 16) : zda k 16 = some k.toNat := by
 unfold zda
 rw [if_pos ⟨h.1, by omega⟩]
def ze7 (n : Int) : Value := match zcI n with
 | some (.error v) => v
 | _ => .nilIface
theorem zey (n : Int) : zcI n = some (.error (ze7 n)) := rfl
theorem zj5 {n : Int} (h : 0 ≤ n ∧ n < 256) : zeq (ze7 n) = some (UInt8.ofNat n.toNat) := if_pos h
theorem znM (b : Bool) : zdE b = some (if b = true then 1 else 0) := by cases b <;> rfl
theorem zqc {op a b : Int} (h : 1 ≤ op ∧ op ≤ 13) : zfJ op a b = some (match zch op a b with | some x => .ok x | none => .error (ze7 2)) := by
 have : op = 1 ∨ op = 2 ∨ op = 3 ∨ op = 4 ∨ op = 5 ∨ op = 6 ∨ op = 7 ∨ op = 8 ∨ op = 9 ∨ op = 10 ∨ op = 11 ∨ op = 12 ∨ op = 13 := by omega
 rcases this with e | e | e | e | e | e | e | e | e | e | e | e | e <;> subst e
 all_goals first | rfl | skip
 all_goals first | (simp [zfJ, zge, zch, znM, w64]; done) | skip
 all_goals
  by_cases hb : b = 0
  ·subst hb
   rfl
  ·simp [zfJ, zge, zi6, zia, zch, zf9, zfP, hb, zba, w64]
theorem ziu (m : zh) (a : Int) : zed m a = some (if 0 ≤ a ∧ a < m.words.length then .ok a else .error (ze7 6)) := by
 unfold zed
 by_cases h : 0 ≤ a ∧ a < m.words.length
 ·have hg : zz m.words a = some (m.words.getD a.toNat 0) := by
   unfold zz
   rw [if_pos h.1, List.getD_eq_getElem?_getD, List.getElem?_eq_getElem (by omega)]
   rfl
  rw [if_neg (by simp; omega), if_pos h, hg]
  rfl
 ·rw [if_pos (by simp; omega), if_neg h, zey]
  rfl
theorem zcN {W : List Int} {a : Int} (h : 0 ≤ a ∧ a < W.length) : zz W a = some (W.getD a.toNat 0) := by
 unfold zz
 rw [if_pos h.1, List.getD_eq_getElem?_getD, List.getElem?_eq_getElem (by omega)]
 rfl
abbrev M4 := zh
abbrev abC (m : M4) : St4 := ⟨m.pc, rg4 m.regs, m.words, m.input, m.out⟩
theorem zoz (m : M4) {i : Ins} (hS : 0 ≤ i.S ∧ i.S < 16) (hT : 0 ≤ i.T ∧ i.T < 16) : zfU m i = some (match plS i (abC m) with
  | .ok a => .ok a
  | .error k => .error (ze7 k.toNat)) := by
 unfold zfU zhP plS thS abC
 dsimp only
 rw [ze0 hS, Option.bind_some, zdp hS]
 by_cases hk : (i.Kind.toNat : Int) = 8 ∨ (i.Kind.toNat : Int) = 9
 ·rw [if_pos (by simpa using hk), if_pos hk, ze0 hT, Option.bind_some, zdp hT]
  by_cases hc : m.regs i.T.toNat < 0 ∨ m.regs i.T.toNat ≥ i.M
  ·rw [if_pos (by simpa using hc), if_pos hc, zey]
   rfl
  ·rw [if_neg (by simpa using hc), if_neg hc, ziu]
   unfold w64
   dsimp only
   split
   ·rename_i h
    dsimp only [zba]
    rw [zcN h]
    rfl
   ·rfl
 ·rw [if_neg (by simpa using hk), if_neg hk, ziu]
  unfold w64
  dsimp only
  split
  ·rename_i h
   dsimp only [zba]
   rw [zcN h]
   rfl
  ·rfl
theorem znS (m : M4) (n : Int) : zf8 m n = some (if w64 (m.regs 15 - n) < 0 then .error (ze7 7) else .ok (w64 (m.regs 15 - n))) := by
 unfold zf8 w64
 by_cases h : IntKind.i64.wrap (m.regs 15 - n) < 0
 ·rw [if_pos (by simpa using h), if_pos h]
  rfl
 ·rw [if_neg (by simpa using h), if_neg h]
def zsw (m : M4) (i : Ins) : Except UInt8 St4 → Except (Value × M4) (Int × M4) → Prop
 | .error k, .error (x, m') => zeq x = some k ∧ m' = if (i.Kind.toNat : Int) = 17 then { m with halting := rd4 (rg4 m.regs) i.R } else m
 | .ok s, .ok (p, m') => m'.code = m.code ∧ m'.how = m.how ∧ m'.halting = m.halting ∧ abC { m' with pc := p } = s
 | _, _ => False
def zoX (m : M4) (nx : Int) : Except UInt8 St4 → Except (Value × M4) M4 → Prop
 | .error k, .error (x, m') => zeq x = some k ∧ m' = m
 | .ok s, .ok m' => m'.code = m.code ∧ m'.how = m.how ∧ m'.halting = m.halting ∧ abC { m' with pc := nx } = s
 | _, _ => False
theorem ziy {i : Ins} {s : St4} {a : Int} (h : plS i s = .ok a) : 0 ≤ a ∧ a < s.W.length := by
 unfold plS thS at h
 split at h <;> (repeat' split at h) <;> first | (injection h with h; subst h; assumption) | cases h
theorem zje {k : UInt8} : zeq (ze7 (k.toNat : Int)) = some k := by
 rw [zj5 ⟨by omega, by have := k.toNat_lt; omega⟩, Int.toNat_natCast, UInt8.ofNat_toNat]
theorem zr9 {m : M4} {i : Ins} (nx : Int) (hi : Rti i = true) (ho : m.out.length ≤ 1000000000) (hk : ¬ ((i.Kind.toNat : Int) = 10 ∨ (i.Kind.toNat : Int) = 11 ∨ (i.Kind.toNat : Int) = 12 ∨ (i.Kind.toNat : Int) = 13 ∨ (i.Kind.toNat : Int) = 17 ∨ (i.Kind.toNat : Int) = 18)) :
  ∃ A, zfc m i = some A ∧ zoX m nx (doS i nx (abC m)) A := by
 obtain ⟨hR, hS, hT, hOp, hN, hJ, hK1, hK2⟩ := zjU hi
 have hR2 : i.R.toNat < 16 := by omega
 unfold zfc
 rw [ze0 hR, Option.bind_some, ze0 hS, Option.bind_some]
 have hpl := zoz m hS hT
 rcases zft (i.Kind.toNat : Int) with e | e | e | e | e | e | e | e | e | e | e | e | e | e | e | e | e | e | e
 ·simp only [doS, e, zbP, zco, zcp, Int.reduceBEq, Int.reduceEq, Bool.false_eq_true, if_false, or_self]
  exact ⟨_, rfl, rfl, rfl, rfl, rfl⟩
 ·simp only [doS, e, zbP, zco, zcp, Int.reduceBEq, Int.reduceEq, Bool.false_eq_true, if_false, if_true, or_self]
  exact ⟨_, rfl, rfl, rfl, rfl, by simp only [abC, zfu _ hR2]⟩
 ·simp only [doS, e, zbP, zco, zcp, Int.reduceBEq, Int.reduceEq, Bool.false_eq_true, if_false, if_true, or_self]
  exact ⟨_, rfl, rfl, rfl, rfl, by simp only [abC, zfu _ hR2, zdp hS]⟩
 ·have hb := zqc (a := m.regs i.S.toNat) (b := m.regs i.T.toNat) (hOp e)
  simp only [doS, e, zbP, zco, zcp, Int.reduceBEq, Int.reduceEq, Bool.false_eq_true, if_false, if_true, or_self, ze0 hT, Option.bind_some, hb, abC, zdp hS, zdp hT]
  cases zch (i.Op.toNat : Int) (m.regs i.S.toNat) (m.regs i.T.toNat) with
  | none => exact ⟨_, rfl, rfl, rfl⟩
  | some x => exact ⟨_, rfl, rfl, rfl, rfl, by simp only [abC, zfu _ hR2]⟩
 ·simp only [doS, e, zbP, zco, zcp, Int.reduceBEq, Int.reduceEq, Bool.false_eq_true, if_false, if_true, or_self, znM, Option.bind_some]
  refine ⟨_, rfl, rfl, rfl, rfl, ?_⟩
  simp only [abC, zfu _ hR2, zdp hS, beq_iff_eq]
  rfl
 ·simp only [doS, e, zbP, zco, zcp, Int.reduceBEq, Int.reduceEq, Bool.false_eq_true, if_false, if_true, or_self, true_or, or_true, hpl]
  cases hp : plS i (abC m) with
  | error k => exact ⟨_, rfl, zje, rfl⟩
  | ok a =>
   dsimp only [zba]
   rw [zcN (W := m.words) (ziy hp), Option.bind_some]
   exact ⟨_, rfl, rfl, rfl, rfl, by simp only [abC, zfu _ hR2]⟩
 ·simp only [doS, e, zbP, zco, zcp, Int.reduceBEq, Int.reduceEq, Bool.false_eq_true, if_false, if_true, or_self, true_or, or_true, hpl]
  cases hp : plS i (abC m) with
  | error k => exact ⟨_, rfl, zje, rfl⟩
  | ok a =>
   dsimp only [zba]
   rw [zcN (W := m.words) (ziy hp), Option.bind_some]
   exact ⟨_, rfl, rfl, rfl, rfl, by simp only [abC, zdp hR]⟩
 ·simp only [doS, e, zbP, zco, zcp, Int.reduceBEq, Int.reduceEq, Bool.false_eq_true, if_false, if_true, or_self, true_or, or_true, hpl]
  cases hp : plS i (abC m) with
  | error k => exact ⟨_, rfl, zje, rfl⟩
  | ok a =>
   dsimp only [zba]
   rw [zcN (W := m.words) (ziy hp), Option.bind_some]
   exact ⟨_, rfl, rfl, rfl, rfl, by simp only [abC, zfu _ hR2]⟩
 ·simp only [doS, e, zbP, zco, zcp, Int.reduceBEq, Int.reduceEq, Bool.false_eq_true, if_false, if_true, or_self, true_or, or_true, hpl]
  cases hp : plS i (abC m) with
  | error k => exact ⟨_, rfl, zje, rfl⟩
  | ok a =>
   dsimp only [zba]
   rw [zcN (W := m.words) (ziy hp), Option.bind_some]
   exact ⟨_, rfl, rfl, rfl, rfl, by simp only [abC, zdp hR]⟩
 ·omega
 ·omega
 ·omega
 ·omega
 ·have h15 : rd4 (rg4 m.regs) 15 = m.regs 15 := rfl
  simp only [doS, e, zbP, zco, zcp, ziD, znS, Int.reduceBEq, Int.reduceEq, Bool.false_eq_true, if_false, if_true, or_self, abC, h15]
  by_cases h1 : w64 (m.regs 15 - i.N) < 0
  ·simp only [if_pos h1]
   exact ⟨_, rfl, rfl, rfl⟩
  ·simp only [if_neg h1, zba]
   by_cases h2 : w64 (m.regs 15 - i.N) > (m.words.length : Int)
   ·simp only [if_pos h2, zX h2, if_true, zey]
    exact ⟨_, rfl, rfl, rfl⟩
   ·simp only [if_neg h2, zO h2, Bool.false_eq_true, if_false]
    exact ⟨_, rfl, rfl, rfl, rfl, rfl⟩
 ·simp only [doS, e, zbP, zco, zcp, zjl, zgP, Int.reduceBEq, Int.reduceEq, Bool.false_eq_true, if_false, if_true, or_self, abC]
  cases hI : m.input with
  | nil =>
   simp only [List.length_nil, zey]
   refine ⟨_, rfl, rfl, ?_⟩
   obtain ⟨a1, a2, a3, a4, a5, a6, a7, a8⟩ := m
   dsimp only at hI
   subst hI
   rfl
  | cons x r =>
   have h1 : (((x :: r).length : Int) == 0) = false := by simp; omega
   have h2 : zb5 (x :: r) 1 ((x :: r).length : Int) = some r := by
    rw [show (1 : Int) = ((1 : Nat) : Int) from rfl, zcV (by simp) (Nat.le_refl _), List.take_length]
    rfl
   simp only [h1, Bool.false_eq_true, if_false, h2]
   exact ⟨_, rfl, rfl, rfl, rfl, by simp only [abC, zfu _ hR2]⟩
 ·simp only [doS, e, zbP, zco, zcp, Int.reduceBEq, Int.reduceEq, Bool.false_eq_true, if_false, if_true, or_self, abC, zdp hR]
  rw [zbi (by simp; omega), Option.bind_some]
  exact ⟨_, rfl, rfl, rfl, rfl, rfl⟩
 ·omega
 ·omega
 ·omega
theorem zra {m : M4} {i : Ins} (nx : Int) (hi : Rti i = true) (ho : m.out.length ≤ 1000000000) :
  ∃ A, zgR m i nx = some A ∧ zsw m i (doS i nx (abC m)) A := by
 obtain ⟨hR, hS, hT, hOp, hN, hJ, hK1, hK2⟩ := zjU hi
 have h15 : rd4 (rg4 m.regs) 15 = m.regs 15 := rfl
 unfold zgR
 by_cases e10 : (i.Kind.toNat : Int) = 10
 ·simp only [doS, e10, Int.reduceBEq, Int.reduceEq, if_false, if_true, or_self]
  exact ⟨_, rfl, rfl, rfl, rfl, rfl⟩
 by_cases e11 : (i.Kind.toNat : Int) = 11
 ·simp only [doS, e11, Int.reduceBEq, Int.reduceEq, Bool.false_eq_true, if_false, if_true, or_self, ze0 hR, Option.bind_some, abC, zdp hR]
  by_cases h : m.regs i.R.toNat = 0
  ·rw [if_pos (zd3 h), if_pos h]
   exact ⟨_, rfl, rfl, rfl, rfl, rfl⟩
  ·rw [if_neg (by simpa using h), if_neg h]
   exact ⟨_, rfl, rfl, rfl, rfl, rfl⟩
 by_cases e12 : (i.Kind.toNat : Int) = 12
 ·simp only [doS, e12, Int.reduceBEq, Int.reduceEq, Bool.false_eq_true, if_false, if_true, or_self, zjw, znS, abC, h15]
  by_cases h1 : w64 (m.regs 15 - 1) < 0
  ·simp only [if_pos h1]
   exact ⟨_, rfl, rfl, by rw [if_neg (by omega)]⟩
  ·simp only [if_neg h1, zba, ziu, thS]
   by_cases h2 : 0 ≤ w64 (m.regs 15 - 1) ∧ w64 (m.regs 15 - 1) < (m.words.length : Int)
   ·simp only [if_pos h2, zcN h2, Option.bind_some]
    exact ⟨_, rfl, rfl, rfl, rfl, rfl⟩
   ·simp only [if_neg h2]
    exact ⟨_, rfl, rfl, by rw [if_neg (by omega)]⟩
 by_cases e13 : (i.Kind.toNat : Int) = 13
 ·simp only [doS, e13, Int.reduceBEq, Int.reduceEq, Bool.false_eq_true, if_false, if_true, or_self, ziQ, zgw, ziu, thS, abC, h15]
  by_cases h2 : 0 ≤ m.regs 15 ∧ m.regs 15 < (m.words.length : Int)
  ·simp only [if_pos h2, zba, zcN h2, Option.bind_some]
   by_cases h3 : m.words.getD (m.regs 15).toNat 0 < 0 ∨ m.words.getD (m.regs 15).toNat 0 ≥ 16777216
   ·rw [if_pos (by simpa using h3), zey]
    refine ⟨_, rfl, ?_⟩
    split
    ·exact ⟨rfl, by rw [if_neg (by omega)]⟩
    ·rename_i h4
     exact absurd h3 h4
   ·rw [if_neg (by simpa using h3)]
    refine ⟨_, rfl, ?_⟩
    split
    ·rename_i h4
     exact absurd h4 h3
    ·exact ⟨rfl, rfl, rfl, rfl⟩
  ·simp only [if_neg h2, zba]
   exact ⟨_, rfl, rfl, by rw [if_neg (by omega)]⟩
 by_cases e17 : (i.Kind.toNat : Int) = 17
 ·simp only [doS, e17, Int.reduceBEq, Int.reduceEq, Bool.false_eq_true, if_false, if_true, or_self, ze0 hR, Option.bind_some, zey, zba]
  exact ⟨_, rfl, rfl, by rw [if_pos e17, zdp hR]⟩
 by_cases e18 : (i.Kind.toNat : Int) = 18
 ·have hN := hN e18
  simp only [doS, e18, Int.reduceBEq, Int.reduceEq, Bool.false_eq_true, if_false, if_true, or_self, zey, zba]
  have hw : IntKind.u8.wrap i.N = i.N := by rw [zd0]; omega
  exact ⟨_, rfl, by rw [hw, zj5 (by omega)], by rw [if_neg e17]⟩
 obtain ⟨A, hA, hR⟩ := zr9 nx hi ho (by omega)
 rw [if_neg (by simpa using e10), if_neg (by simpa using e11), if_neg (by simpa using e12), if_neg (by simpa using e13), if_neg (by simpa using e17), if_neg (by simpa using e18), hA]
 cases A with
 | ok m' =>
  refine ⟨_, rfl, ?_⟩
  cases hd : doS i nx (abC m) with
  | error k => rw [hd] at hR; exact hR.elim
  | ok s => rw [hd] at hR; exact hR
 | error c =>
  refine ⟨_, rfl, ?_⟩
  cases hd : doS i nx (abC m) with
  | ok k => rw [hd] at hR; exact hR.elim
  | error s =>
   rw [hd] at hR
   obtain ⟨x, m'⟩ := c
   exact ⟨hR.1, by rw [if_neg e17]; exact hR.2⟩
def stS (code : List UInt8) (s : St4) : Except (UInt8 × Option Int) St4 := match zc2 code s.pc with
 | some (i, nx, e) => if e = 0 then (match doS i nx s with
  | .ok s' => .ok s'
  | .error k => .error (k, if (i.Kind.toNat : Int) = 17 then some (rd4 s.R i.R) else none)) else .error (5, none)
 | none => .error (5, none)
def zqr (m : M4) (r : Int × M4) : Except (UInt8 × Option Int) St4 → Prop
 | .ok s => r.1 = 0 ∧ r.2.how = 0 ∧ r.2.code = m.code ∧ r.2.halting = m.halting ∧ abC r.2 = s
 | .error (k, f) => r.1 = (k.toNat : Int) ∧ r.2 = { m with how := k, halting := f.getD m.halting }
theorem zl2 {m : M4} (hw : m.how = 0) (hc : m.code.length ≤ 1000000000) (ho : m.out.length ≤ 1000000000) : ∃ r, zdl m = some r ∧ zqr m r (stS m.code (abC m)) := by
 obtain ⟨⟨i, nx, e⟩, hg, hgr⟩ := znF (a := m.pc) hc
 unfold zdl stS
 rw [if_neg (by rw [hw]; simp)]
 have hg2 : zc2 m.code (abC m).pc = some (i, nx, e) := hg
 rw [hg2]
 unfold zgY
 rw [hg, Option.bind_some]
 unfold ziO zhN
 dsimp only
 by_cases he : e = 0
 ·subst he
  rw [if_neg (by simp), if_pos rfl]
  rcases hgr with ⟨_, h⟩ | ⟨_, h | ⟨i2, k, _, h, hL, hRt, hr⟩⟩
  ·injection h with _ h; injection h with _ h; cases h
  ·injection h with _ h; injection h with _ h; cases h
  ·injection h with h1 h2
   subst h1
   obtain ⟨A, hA, hR⟩ := zra nx hRt ho
   rw [hA]
   cases hd : doS i nx (abC m) with
   | ok s =>
    rw [hd] at hR
    cases A with
    | error c => exact hR.elim
    | ok c =>
     obtain ⟨p, m'⟩ := c
     obtain ⟨r1, r2, r3, r4⟩ := hR
     refine ⟨_, rfl, ?_⟩
     rw [hw] at r2
     refine ⟨?_, r2, r1, r3, r4⟩
     show (m'.how.toNat : Int) = 0
     rw [r2]; rfl
   | error k =>
    rw [hd] at hR
    cases A with
    | ok c => exact hR.elim
    | error c =>
     obtain ⟨x, m'⟩ := c
     obtain ⟨r1, r2⟩ := hR
     dsimp only [zba]
     rw [r1]
     refine ⟨_, rfl, rfl, ?_⟩
     subst r2
     by_cases e17 : (i.Kind.toNat : Int) = 17
     ·simp only [if_pos e17]
      rfl
     ·simp only [if_neg e17]
      rfl
 ·rw [if_pos (by simpa using he), if_neg he, zey]
  dsimp only [zba]
  rw [zj5 ⟨by omega, by omega⟩]
  exact ⟨_, rfl, rfl, rfl⟩
theorem zm1 {m : M4} (hw : m.how ≠ 0) : zdl m = some ((m.how.toNat : Int), m) := by
 unfold zdl
 rw [if_pos]
 rw [zdA]
 exact fun h => hw (zdS.1 (by simpa using h))
end Go.Proofs.YtgkllgoelpfdkaaGreat
