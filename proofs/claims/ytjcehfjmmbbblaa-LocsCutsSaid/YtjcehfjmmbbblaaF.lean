import Derived.Test.YtjcehfjmmbbblaaAd
import Derived.Test.YtjcehfjmmbbblaaFM
namespace Go.Proofs.Ytjcehfjmmbbblaa
open Go.Ab Go.RowKit
set_option linter.unusedVariables false
set_option linter.unusedSimpArgs false
set_option maxRecDepth 10000
structure zb where
  Kind : UInt8
  N : Int
  deriving DecidableEq
def zd : Ty zb where
  sz := 2
  R := fun σ x cs => cs = [.int .u8 x.Kind.toNat, .int .i64 x.N]
  len := by rintro σ x cs rfl; rfl
  one := by rintro σ x cs rfl; rfl
  mono := by rintro σ σ' x cs hle rfl; rfl
structure za where
  From : Int
  To : Int
  At : (List zb)
  deriving DecidableEq
def zc : Ty za where
  sz := 3
  R := fun σ x cs => ∃ v2, cs = [.int .i64 x.From, .int .i64 x.To, v2] ∧ RdT zd σ v2 x.At
  len := by rintro σ x cs ⟨v2, rfl, h0⟩; rfl
  one := by rintro σ x cs ⟨v2, rfl, h0⟩; obtain ⟨_, ⟨_, _, rfl, _⟩, _⟩ := h0; rfl
  mono := by rintro σ σ' x cs hle ⟨v2, rfl, h0⟩; exact ⟨v2, rfl, h0.le hle⟩
structure zbg where
  deriving DecidableEq
structure zbi where
  deriving DecidableEq
structure zbj where
  deriving DecidableEq
inductive ze where
  | nil : ze
  | c_number (a : Int) : ze
  | c_reg (a : Int) : ze
  | c_base (a : Int) : ze
  | c_word (a : zbg) : ze
  | c_add (a : zbi) : ze
  | c_neg (a : zbj) : ze
  deriving DecidableEq
def zf : ze → Value
  | .nil => .nilIface
  | .c_number a => .iface 94 (.int .i64 a)
  | .c_reg a => .iface 95 (.int .i64 a)
  | .c_base a => .iface 96 (.int .i64 a)
  | .c_word a => .iface 98 (.agg #[])
  | .c_add a => .iface 99 (.agg #[])
  | .c_neg a => .iface 100 (.agg #[])
theorem zcD (x : ze) : one (zf x) = true := by cases x <;> rfl
theorem zcd (x : ze) : (zf x).cells.toList = [zf x] := by cases x <;> rfl
def zbq : Ty ze where
  sz := 1
  R := fun σ x cs => cs = [zf x]
  len := by rintro σ x cs rfl; rfl
  one := by rintro σ x cs rfl; simp [zcD]
  mono := by rintro σ σ' x cs hle rfl; rfl
def zw (rec4 : Int → Int → Option Bool) (p0 : (List za)) (x24 : Int) (x25 : Int) : Option Bool :=
  (if ((decide (x25 < (p0.length : Int))) && (decide (x25 ≤ 5000))) = true then (getI p0 x25).bind fun y48 => (getI p0 x25).bind fun y57 => (if (decide ((y57.At.length : Int) > 1000)) = true then some true else rec4 (IntKind.i64.wrap (x24 + (minI (y48.At.length : Int) 1000))) (IntKind.i64.wrap (x25 + 1))) else some ((decide ((p0.length : Int) > 5000)) || (decide (x24 > 20000))))
def zB (p0 : (List za)) : Nat → Int → Int → Option Bool
  | 0, _, _ => none
  | n + 1, x24, x25 => zw (zB p0 n) p0 x24 x25
def z3 (p0 : (List za)) : Option Bool :=
  zB p0 big 0 0
def zV (p0 : zb) : Option (ze × Bool) :=
  (if ((p0.Kind.toNat : Int) == 1) = true then some ((ze.c_number p0.N), true) else (if ((p0.Kind.toNat : Int) == 2) = true then some ((ze.c_reg p0.N), ((decide (p0.N ≥ 0)) && (decide (p0.N < 16)))) else (if ((p0.Kind.toNat : Int) == 3) = true then some ((ze.c_base p0.N), true) else (if ((p0.Kind.toNat : Int) == 4) = true then some ((ze.c_word (⟨⟩ : zbg)), (p0.N == 0)) else (if ((p0.Kind.toNat : Int) == 5) = true then some ((ze.c_add (⟨⟩ : zbi)), (p0.N == 0)) else (if ((p0.Kind.toNat : Int) == 6) = true then some ((ze.c_neg (⟨⟩ : zbj)), (p0.N == 0)) else some (ze.nil, false)))))))
def z4 (p0 : Int) : Option Int :=
  some 0
def zbe (p0 : Int) : Option Int :=
  some 0
def z9 (p0 : Int) : Option Int :=
  some 0
def zbr (p0 : zbg) : Option Int :=
  some 1
def zbm (p0 : zbi) : Option Int :=
  some 2
def zba (p0 : zbj) : Option Int :=
  some 1
def zS (x : ze)  : Option Int :=
  match x with
  | .nil => none
  | .c_number a => z4 a
  | .c_reg a => zbe a
  | .c_base a => z9 a
  | .c_word a => zbr a
  | .c_add a => zbm a
  | .c_neg a => zba a
def zY (rec4 : (List ze) → Int → Int → Option ((List ze) × Bool)) (p0 : (List zb)) (x42 : List ze) (x44 : Int) (x46 : Int) : Option ((List ze) × Bool) :=
  (if (decide (x46 < (p0.length : Int))) = true then (getI p0 x46).bind fun y82 => (zV (⟨y82.Kind, y82.N⟩ : zb)).bind fun c88 => ((if (!c88.2) = true then some true else (zS c88.1).bind fun c95 => some (decide (c95 > x44)))).bind fun c92 => (if c92 = true then some ([], false) else (zS c88.1).bind fun c100 => (if (decide ((IntKind.i64.wrap (x44 + (IntKind.i64.wrap (1 - c100)))) > 8)) = true then some ([], false) else (room (x42.length + 1)).bind fun _ => rec4 (x42 ++ [c88.1]) (IntKind.i64.wrap (x44 + (IntKind.i64.wrap (1 - c100)))) (IntKind.i64.wrap (x46 + 1)))) else ((if (decide ((p0.length : Int) ≤ 16)) = true then (if ((p0.length : Int) == 0) = true then some true else some (x44 == 1)) else some false)).bind fun c110 => some (x42, c110))
def zM (p0 : (List zb)) : Nat → (List ze) → Int → Int → Option ((List ze) × Bool)
  | 0, _, _, _ => none
  | n + 1, x42, x44, x46 => zY (zM p0 n) p0 x42 x44 x46
def zD (p0 : (List zb)) : Option ((List ze) × Bool) :=
  zM p0 big ([]) 0 0
def zn (p0 : (List zb)) : Option Bool :=
  (zD p0).bind fun c2 => some c2.2
def zQ (rec4 : Int → Int → Option Bool) (p0 : (List za)) (x24 : Int) (x26 : Int) : Option Bool :=
  (if (decide (x26 < (p0.length : Int))) = true then (getI p0 x26).bind fun y48 => ((if ((((decide (y48.From < x24)) || (decide (y48.To ≤ y48.From))) || (decide (y48.To > 16777216))) || ((y48.At.length : Int) == 0)) = true then some true else (zn y48.At).bind fun c61 => some (!c61))).bind fun c58 => (if c58 = true then some false else rec4 y48.To (IntKind.i64.wrap (x26 + 1))) else some (decide ((p0.length : Int) ≤ 4000)))
def zx (p0 : (List za)) : Nat → Int → Int → Option Bool
  | 0, _, _ => none
  | n + 1, x24, x26 => zQ (zx p0 n) p0 x24 x26
def zg (p0 : (List za)) : Option Bool :=
  zx p0 big 0 0
def zbt (p0 : (List UInt8)) : Option (List UInt8) := (room p0.length).bind fun _ => some p0
def zbP (rec4 : Int → (List UInt8) → Option (List UInt8))  (x30 : Int) (x34 : List UInt8) : Option (List UInt8) :=
  (if (decide (x30 > 127)) = true then (u8o (orI .u8 (IntKind.u8.wrap x30) 128)).bind fun z51 => (room (x34.length + 1)).bind fun _ => rec4 (shrI .u64 x30 7) (x34 ++ [z51]) else (u8o (IntKind.u8.wrap x30)).bind fun z57 => (room (x34.length + 1)).bind fun _ => some (x34 ++ [z57]))
def zbn  : Nat → Int → (List UInt8) → Option (List UInt8)
  | 0, _, _ => none
  | n + 1, x30, x34 => zbP (zbn  n)  x30 x34
def zj (p0 : (List UInt8)) (p1 : Int) : Option (List UInt8) :=
  (zbt p0).bind fun c3 => zbn  big p1 c3
def zbu (p0 : Int) : Option Bool :=
  some ((decide (p0 ≥ 1)) && (decide (p0 ≤ 3)))
def zbR (rec4 : Int → (List UInt8) → Option (List UInt8))  (x30 : Int) (x34 : List UInt8) : Option (List UInt8) :=
  (if ((decide (x30 > 63)) || (decide (x30 < (-64)))) = true then (u8o (orI .u8 (IntKind.u8.wrap x30) 128)).bind fun z51 => (room (x34.length + 1)).bind fun _ => rec4 (shrI .i64 x30 7) (x34 ++ [z51]) else (u8o (andI .u8 (IntKind.u8.wrap x30) 127)).bind fun z57 => (room (x34.length + 1)).bind fun _ => some (x34 ++ [z57]))
def zbk  : Nat → Int → (List UInt8) → Option (List UInt8)
  | 0, _, _ => none
  | n + 1, x30, x34 => zbR (zbk  n)  x30 x34
def zbb (p0 : (List UInt8)) (p1 : Int) : Option (List UInt8) :=
  (zbt p0).bind fun c3 => zbk  big p1 c3
def zbD (rec4 : (List UInt8) → Int → Option ((List UInt8) × Int)) (p1 : (List zb)) (x54 : List UInt8) (x57 : Int) : Option ((List UInt8) × Int) :=
  (if (decide (x57 < (p1.length : Int))) = true then (getI p1 x57).bind fun y88 => (room (x54.length + 1)).bind fun _ => (zbu (y88.Kind.toNat : Int)).bind fun c99 => (if c99 = true then (zbb (x54 ++ [y88.Kind]) y88.N).bind fun c106 => rec4 c106 (IntKind.i64.wrap (x57 + 1)) else rec4 (x54 ++ [y88.Kind]) (IntKind.i64.wrap (x57 + 1))) else some (x54, 0))
def zbp (p1 : (List zb)) : Nat → (List UInt8) → Int → Option ((List UInt8) × Int)
  | 0, _, _ => none
  | n + 1, x54, x57 => zbD (zbp p1 n) p1 x54 x57
def zbF (p0 : (List UInt8)) (p1 : (List zb)) : Option ((List UInt8) × Int) :=
  (zn p1).bind fun c3 => (if (!c3) = true then some ([], 1) else (zj p0 (IntKind.u64.wrap (p1.length : Int))).bind fun c8 => zbp p1 big c8 0)
def zbN (rec4 : (List UInt8) → Int → Int → Option ((List UInt8) × Int)) (p1 : (List za)) (x70 : List UInt8) (x72 : Int) (x74 : Int) : Option ((List UInt8) × Int) :=
  (if (decide (x74 < (p1.length : Int))) = true then (getI p1 x74).bind fun y121 => (zj x70 (IntKind.u64.wrap (IntKind.i64.wrap (y121.From - x72)))).bind fun c133 => (zj c133 (IntKind.u64.wrap (IntKind.i64.wrap (y121.To - y121.From)))).bind fun c144 => (zbF c144 y121.At).bind fun c155 => rec4 c155.1 y121.To (IntKind.i64.wrap (x74 + 1)) else some (x70, 0))
def zbd (p1 : (List za)) : Nat → (List UInt8) → Int → Int → Option ((List UInt8) × Int)
  | 0, _, _, _ => none
  | n + 1, x70, x72, x74 => zbN (zbd p1 n) p1 x70 x72 x74
def zbJ (p0 : (List UInt8)) (p1 : (List za)) : Option ((List UInt8) × Int) :=
  (zg p1).bind fun c3 => (if (!c3) = true then some ([], 1) else (zj p0 (IntKind.u64.wrap (p1.length : Int))).bind fun c8 => zbd p1 big c8 0 0)
def zP (rec4 : Int → Option Bool) (p0 : (List zb)) (p1 : (List zb)) (x20 : Int) : Option Bool :=
  (if (decide (x20 < (p0.length : Int))) = true then (getI p0 x20).bind fun y35 => (getI p1 x20).bind fun y40 => (if (!(( (y35.Kind.toNat : Int) == (y40.Kind.toNat : Int)) && (( y35.N == y40.N) && true))) = true then some false else rec4 (IntKind.i64.wrap (x20 + 1))) else some true)
def z0 (p0 : (List zb)) (p1 : (List zb)) : Nat → Int → Option Bool
  | 0, _ => none
  | n + 1, x20 => zP (z0 p0 p1 n) p0 p1 x20
def zl (p0 : (List zb)) (p1 : (List zb)) : Option Bool :=
  (if ((p0.length : Int) != (p1.length : Int)) = true then some false else z0 p0 p1 big 0)
def zbw (rec4 : Int → Option Bool) (p0 : (List za)) (p1 : (List za)) (x74 : Int) : Option Bool :=
  (if (decide (x74 < (p0.length : Int))) = true then (getI p0 x74).bind fun y143 => (getI p1 x74).bind fun y152 => ((if (y143.From != y152.From) = true then some true else (getI p0 x74).bind fun y164 => (getI p1 x74).bind fun y173 => some (y164.To != y173.To))).bind fun c161 => ((if c161 = true then some true else (getI p0 x74).bind fun y185 => (getI p1 x74).bind fun y194 => (zl y185.At y194.At).bind fun c203 => some (!c203))).bind fun c182 => (if c182 = true then some false else rec4 (IntKind.i64.wrap (x74 + 1))) else some true)
def z5 (p0 : (List za)) (p1 : (List za)) : Nat → Int → Option Bool
  | 0, _ => none
  | n + 1, x74 => zbw (z5 p0 p1 n) p0 p1 x74
def zbB (p0 : (List za)) (p1 : (List za)) : Option Bool :=
  (if ((p0.length : Int) != (p1.length : Int)) = true then some false else z5 p0 p1 big 0)
def zbS (rec4 : Int → Int → Option (Int × Int)) (p0 : (List UInt8)) (x18 : Int) (x19 : Int) : Option (Int × Int) :=
  (if (decide (x19 < (minI (p0.length : Int) 10))) = true then (getI p0 x19).bind fun y36 => (shlO .u64 (IntKind.u64.wrap (andI .u8 (y36.toNat : Int) 127)) (IntKind.i64.wrap (7 * x19))).bind fun y41 => (getI p0 x19).bind fun y43 => (if (decide ((y43.toNat : Int) < 128)) = true then some ((orI .u64 x18 y41), (IntKind.i64.wrap (x19 + 1))) else rec4 (orI .u64 x18 y41) (IntKind.i64.wrap (x19 + 1))) else some (0, 0))
def z1 (p0 : (List UInt8)) : Nat → Int → Int → Option (Int × Int)
  | 0, _, _ => none
  | n + 1, x18, x19 => zbS (z1 p0 n) p0 x18 x19
def z6 (p0 : (List UInt8)) : Option (Int × Int) :=
  z1 p0 big 0 0
def zbQ (rec4 : Int → Option Bool) (p0 : (List UInt8)) (p1 : (List UInt8)) (x20 : Int) : Option Bool :=
  (if (decide (x20 < (p0.length : Int))) = true then (getI p0 x20).bind fun y35 => (getI p1 x20).bind fun y40 => (if ((y35.toNat : Int) != (y40.toNat : Int)) = true then some false else rec4 (IntKind.i64.wrap (x20 + 1))) else some true)
def zbl (p0 : (List UInt8)) (p1 : (List UInt8)) : Nat → Int → Option Bool
  | 0, _ => none
  | n + 1, x20 => zbQ (zbl p0 p1 n) p0 p1 x20
def zbo (p0 : (List UInt8)) (p1 : (List UInt8)) : Option Bool :=
  (if ((p0.length : Int) != (p1.length : Int)) = true then some false else zbl p0 p1 big 0)
def zbH (p0 : Int) (p1 : Int) : Option Int :=
  some p0
def zbL (p0 : (List UInt8)) (p1 : Int) : Option (Int × Int × Int) :=
  (if ((decide (p1 < 0)) || (decide (p1 > (p0.length : Int)))) = true then some (0, 0, 1) else (cutI p0 p1 (p0.length : Int)).bind fun y6 => (z6 y6).bind fun c11 => (zbH c11.1 c11.2).bind fun c15 => ((if (c11.2 == 0) = true then some true else (cutI p0 p1 (IntKind.i64.wrap (p1 + c11.2))).bind fun y22 => (zj [] c15).bind fun c27 => (zbo c27 y22).bind fun c38 => some (!c38))).bind fun c19 => (if c19 = true then some (0, 0, 5) else some (c15, (IntKind.i64.wrap (p1 + c11.2)), 0)))
def zr (p0 : (List UInt8)) (p1 : Int) : Option (Int × Int × Int) :=
  (zbL p0 p1).bind fun c3 => some (c3.1, c3.2.1, c3.2.2)
def zbv (p0 : Int) (p1 : Int) : Option Int :=
  (shlO .u64 p0 (maxI 0 (IntKind.i64.wrap (64 - (IntKind.i64.wrap (7 * p1)))))).bind fun y3 => (shrO .i64 (IntKind.i64.wrap y3) (maxI 0 (IntKind.i64.wrap (64 - (IntKind.i64.wrap (7 * p1)))))).bind fun y5 => some y5
def zbU (p0 : (List UInt8)) (p1 : Int) : Option (Int × Int × Int) :=
  (if ((decide (p1 < 0)) || (decide (p1 > (p0.length : Int)))) = true then some (0, 0, 1) else (cutI p0 p1 (p0.length : Int)).bind fun y6 => (z6 y6).bind fun c11 => (zbv c11.1 c11.2).bind fun c15 => ((if (c11.2 == 0) = true then some true else (cutI p0 p1 (IntKind.i64.wrap (p1 + c11.2))).bind fun y22 => (zbb [] c15).bind fun c27 => (zbo c27 y22).bind fun c38 => some (!c38))).bind fun c19 => (if c19 = true then some (0, 0, 5) else some (c15, (IntKind.i64.wrap (p1 + c11.2)), 0)))
def zbE (p0 : (List UInt8)) (p1 : Int) : Option (Int × Int × Int) :=
  (zbU p0 p1).bind fun c3 => some (c3.1, c3.2.1, c3.2.2)
def zbI (rec4 : (List zb) → Int → Int → Option ((List zb) × Int × Int)) (p0 : (List UInt8)) (c4 : Int × Int × Int) (x49 : List zb) (x51 : Int) (x52 : Int) : Option ((List zb) × Int × Int) :=
  (if (decide (x52 < c4.1)) = true then (if (decide (x51 ≥ (p0.length : Int))) = true then some ([], 0, 5) else (getI p0 x51).bind fun y91 => (zbu (y91.toNat : Int)).bind fun c97 => (if c97 = true then (zbE p0 (IntKind.i64.wrap (x51 + 1))).bind fun c102 => (if (c102.2.2 != 0) = true then some ([], 0, 5) else (room (x49.length + 1)).bind fun _ => rec4 (x49 ++ [(⟨y91, c102.1⟩ : zb)]) c102.2.1 (IntKind.u64.wrap (x52 + 1))) else (room (x49.length + 1)).bind fun _ => rec4 (x49 ++ [(⟨y91, 0⟩ : zb)]) (IntKind.i64.wrap (x51 + 1)) (IntKind.u64.wrap (x52 + 1)))) else (zn x49).bind fun c119 => (if (!c119) = true then some ([], 0, 5) else some (x49, x51, 0)))
def z8 (p0 : (List UInt8)) (c4 : Int × Int × Int) : Nat → (List zb) → Int → Int → Option ((List zb) × Int × Int)
  | 0, _, _, _ => none
  | n + 1, x49, x51, x52 => zbI (z8 p0 c4 n) p0 c4 x49 x51 x52
def zbV (p0 : (List UInt8)) (p1 : Int) : Option ((List zb) × Int × Int) :=
  (if ((decide (p1 < 0)) || (decide (p1 > (p0.length : Int)))) = true then some ([], 0, 1) else (zr p0 p1).bind fun c4 => (if ((c4.2.2 != 0) || (decide (c4.1 > 16))) = true then some ([], 0, 5) else z8 p0 c4 big ([]) c4.2.1 0))
def zbT (p0 : (List UInt8)) (p1 : Int) (p2 : Int) : Option (za × Int × Bool) :=
  (zr p0 p1).bind fun c5 => (if ((c5.2.2 != 0) || (decide (c5.1 > 16777216))) = true then some ((⟨0, 0, []⟩ : za), 0, false) else (zr p0 c5.2.1).bind fun c10 => (if ((c10.2.2 != 0) || (decide (c10.1 > 16777216))) = true then some ((⟨0, 0, []⟩ : za), 0, false) else (zbV p0 c10.2.1).bind fun c15 => some ((⟨(IntKind.i64.wrap (p2 + (IntKind.i64.wrap c5.1))), (IntKind.i64.wrap ((IntKind.i64.wrap (p2 + (IntKind.i64.wrap c5.1))) + (IntKind.i64.wrap c10.1))), c15.1⟩ : za), c15.2.1, ((c15.2.2 == 0) && (decide ((IntKind.i64.wrap ((IntKind.i64.wrap (p2 + (IntKind.i64.wrap c5.1))) + (IntKind.i64.wrap c10.1))) ≤ 16777216))))))
def zby (rec4 : (List za) → Int → Int → Int → Option ((List za) × Int × Int)) (p0 : (List UInt8)) (c4 : Int × Int × Int) (x42 : List za) (x44 : Int) (x45 : Int) (x46 : Int) : Option ((List za) × Int × Int) :=
  (if (decide (x46 < c4.1)) = true then (zbT p0 x44 x45).bind fun c78 => (if (!c78.2.2) = true then some ([], 0, 5) else (room (x42.length + ([(⟨c78.1.From, c78.1.To, c78.1.At⟩ : za)] : List za).length)).bind fun _ => rec4 (x42 ++ ([(⟨c78.1.From, c78.1.To, c78.1.At⟩ : za)] : List za)) c78.2.1 c78.1.To (IntKind.u64.wrap (x46 + 1))) else (zg x42).bind fun c101 => (if (!c101) = true then some ([], 0, 5) else some (x42, x44, 0)))
def zbf (p0 : (List UInt8)) (c4 : Int × Int × Int) : Nat → (List za) → Int → Int → Int → Option ((List za) × Int × Int)
  | 0, _, _, _, _ => none
  | n + 1, x42, x44, x45, x46 => zby (zbf p0 c4 n) p0 c4 x42 x44 x45 x46
def zbx (p0 : (List UInt8)) (p1 : Int) : Option ((List za) × Int × Int) :=
  (if ((decide (p1 < 0)) || (decide (p1 > (p0.length : Int)))) = true then some ([], 0, 1) else (zr p0 p1).bind fun c4 => (if ((c4.2.2 != 0) || (decide (c4.1 > 4000))) = true then some ([], 0, 5) else zbf p0 c4 big ([]) c4.2.1 0 0))
def zq (p0 : (List zb)) : Option (List zb) := (room p0.length).bind fun _ => some p0
def zL (rec4 : Int → Option (List zb)) (p0 : (List za)) (p1 : Int) (x26 : Int) : Option (List zb) :=
  (if (decide (x26 < (p0.length : Int))) = true then (getI p0 x26).bind fun y50 => (if ((decide (y50.From ≤ p1)) && (decide (p1 < y50.To))) = true then (zq y50.At).bind fun c61 => some c61 else rec4 (IntKind.i64.wrap (x26 + 1))) else some ([]))
def zv (p0 : (List za)) (p1 : Int) : Nat → Int → Option (List zb)
  | 0, _ => none
  | n + 1, x26 => zL (zv p0 p1 n) p0 p1 x26
def zm (p0 : (List za)) (p1 : Int) : Option (List zb) :=
  zv p0 p1 big 0
def zo (p0 : za) : Option za :=
  (zq p0.At).bind fun c4 => some (⟨p0.From, p0.To, c4⟩ : za)
def zk (p0 : za) (qf0 : (List za)) : Option (Bool × (List za)) :=
  (zo (⟨p0.From, p0.To, p0.At⟩ : za)).bind fun c3 => (room (qf0.length + ([(⟨c3.From, c3.To, c3.At⟩ : za)] : List za).length)).bind fun _ => some (true, (qf0 ++ ([(⟨c3.From, c3.To, c3.At⟩ : za)] : List za)))
def z7 (rec9 : (List za) → Int → Option (List za)) (qf1 : Int) (qf2 : Int) (x81 : Int) (y147 : za) (x163 : List za) : Option (List za) :=
  (if (decide (y147.From < (minI y147.To qf1))) = true then (zk (⟨y147.From, (minI y147.To qf1), y147.At⟩ : za) x163).bind fun c174 => (if (!c174.1) = true then some c174.2 else (if (decide ((maxI y147.From qf2) < y147.To)) = true then (zk (⟨(maxI y147.From qf2), y147.To, y147.At⟩ : za) c174.2).bind fun c185 => (if (!c185.1) = true then some c185.2 else rec9 c185.2 (IntKind.i64.wrap (x81 + 1))) else rec9 c174.2 (IntKind.i64.wrap (x81 + 1)))) else (if false = true then some x163 else (if (decide ((maxI y147.From qf2) < y147.To)) = true then (zk (⟨(maxI y147.From qf2), y147.To, y147.At⟩ : za) x163).bind fun c197 => (if (!c197.1) = true then some c197.2 else rec9 c197.2 (IntKind.i64.wrap (x81 + 1))) else rec9 x163 (IntKind.i64.wrap (x81 + 1)))))
def zJ (rec9 : (List za) → Int → Option (List za)) (qf0 : (List za)) (qf1 : Int) (qf2 : Int) (x76 : List za) (x81 : Int) : Option (List za) :=
  (if (decide (x81 < (qf0.length : Int))) = true then (getI qf0 x81).bind fun y147 => (if (decide (y147.From ≥ y147.To)) = true then rec9 x76 (IntKind.i64.wrap (x81 + 1)) else z7 rec9 qf1 qf2 x81 y147 x76) else some x76)
def zt (qf0 : (List za)) (qf1 : Int) (qf2 : Int) : Nat → (List za) → Int → Option (List za)
  | 0, _, _ => none
  | n + 1, x76, x81 => zJ (zt qf0 qf1 qf2 n) qf0 qf1 qf2 x76 x81
def zbA (q0_0 : (List za)) (qf0 : (List za)) (qf1 : Int) (qf2 : Int) : Option (List za) :=
  zt qf0 qf1 qf2 big q0_0 0
def zU (rec4 : (List za) → Int → Option (List za)) (p0 : (List za)) (x40 : List za) (x43 : Int) : Option (List za) :=
  (if (decide (x43 < (p0.length : Int))) = true then (getI p0 x43).bind fun y75 => (zo (⟨y75.From, y75.To, y75.At⟩ : za)).bind fun c85 => (room (x40.length + ([(⟨c85.From, c85.To, c85.At⟩ : za)] : List za).length)).bind fun _ => rec4 (x40 ++ ([(⟨c85.From, c85.To, c85.At⟩ : za)] : List za)) (IntKind.i64.wrap (x43 + 1)) else some x40)
def zO (p0 : (List za)) : Nat → (List za) → Int → Option (List za)
  | 0, _, _ => none
  | n + 1, x40, x43 => zU (zO p0 n) p0 x40 x43
def zp (p0 : (List za)) (p1 : Int) (p2 : Int) : Option (List za) :=
  (if (decide (p1 ≥ p2)) = true then zO p0 big ([]) 0 else zbA ([]) p0 p1 p2)
def zH (rec4 : Int → Option Bool) (p0 : (List zb)) (p1 : (List zb)) (x20 : Int) : Option Bool :=
  (if (decide (x20 < (p0.length : Int))) = true then (getI p0 x20).bind fun y35 => (getI p1 x20).bind fun y40 => (if (!(( (y35.Kind.toNat : Int) == (y40.Kind.toNat : Int)) && (( y35.N == y40.N) && true))) = true then some false else rec4 (IntKind.i64.wrap (x20 + 1))) else some true)
def zT (p0 : (List zb)) (p1 : (List zb)) : Nat → Int → Option Bool
  | 0, _ => none
  | n + 1, x20 => zH (zT p0 p1 n) p0 p1 x20
def zZ (p0 : (List zb)) (p1 : (List zb)) : Option Bool :=
  (if ((p0.length : Int) != (p1.length : Int)) = true then some false else zT p0 p1 big 0)
def zG (rec4 : (List za) → Int → Option (List za)) (p0 : (List za)) (x116 : List za) (x120 : Int) : Option (List za) :=
  (if (decide (x120 < (p0.length : Int))) = true then (getI p0 x120).bind fun y193 => ((if (decide ((IntKind.i64.wrap ((x116.length : Int) - 1)) ≥ 0)) = true then (getI x116 (IntKind.i64.wrap ((x116.length : Int) - 1))).bind fun y206 => some (y206.To == y193.From) else some false)).bind fun c203 => ((if c203 = true then (getI x116 (IntKind.i64.wrap ((x116.length : Int) - 1))).bind fun y220 => (zZ y220.At y193.At).bind fun c231 => some c231 else some false)).bind fun c217 => (if c217 = true then (getI x116 (IntKind.i64.wrap ((x116.length : Int) - 1))).bind fun y236 => rec4 (x116.set (Int.toNat (IntKind.i64.wrap ((x116.length : Int) - 1))) (⟨y236.From, y193.To, y236.At⟩ : za)) (IntKind.i64.wrap (x120 + 1)) else (zo (⟨y193.From, y193.To, y193.At⟩ : za)).bind fun c249 => (room (x116.length + 1)).bind fun _ => rec4 (x116 ++ [(⟨c249.From, c249.To, c249.At⟩ : za)]) (IntKind.i64.wrap (x120 + 1))) else some x116)
def zi (p0 : (List za)) : Nat → (List za) → Int → Option (List za)
  | 0, _, _ => none
  | n + 1, x116, x120 => zG (zi p0 n) p0 x116 x120
def zC (p0 : (List za)) : Option (List za) :=
  zi p0 big ([]) 0
def zR  : Option Bool :=
  (zbJ [] ([(⟨3, 5, ([(⟨(2 : UInt8), 2⟩ : zb)] : List zb)⟩ : za), (⟨5, 9, ([(⟨(1 : UInt8), 7⟩ : zb)] : List zb)⟩ : za)] : List za)).bind fun c19 => (zbx c19.1 0).bind fun c30 => (zm ([(⟨3, 5, ([(⟨(2 : UInt8), 2⟩ : zb)] : List zb)⟩ : za), (⟨5, 9, ([(⟨(1 : UInt8), 7⟩ : zb)] : List zb)⟩ : za)] : List za) 4).bind fun c38 => (zp ([(⟨3, 5, ([(⟨(2 : UInt8), 2⟩ : zb)] : List zb)⟩ : za), (⟨5, 9, ([(⟨(1 : UInt8), 7⟩ : zb)] : List zb)⟩ : za)] : List za) 4 6).bind fun c47 => ((if ((((c19.2 == 0) && ((c19.1.length : Int) == 11)) && (c30.2.2 == 0)) && (c30.2.1 == 11)) = true then (zbB ([(⟨3, 5, ([(⟨(2 : UInt8), 2⟩ : zb)] : List zb)⟩ : za), (⟨5, 9, ([(⟨(1 : UInt8), 7⟩ : zb)] : List zb)⟩ : za)] : List za) c30.1).bind fun c59 => some c59 else some false)).bind fun c56 => ((if (c56 && ((c38.length : Int) == 1)) = true then (getI c38 0).bind fun y66 => some (y66.N == 2) else some false)).bind fun c63 => ((if (c63 && ((c47.length : Int) == 2)) = true then (getI c47 0).bind fun y76 => some (y76.To == 4) else some false)).bind fun c73 => ((if c73 = true then (getI c47 1).bind fun y90 => some (y90.From == 6) else some false)).bind fun c87 => ((if c87 = true then (zg []).bind fun c104 => some c104 else some false)).bind fun c101 => ((if c101 = true then (zC ([(⟨3, 5, ([(⟨(2 : UInt8), 2⟩ : zb)] : List zb)⟩ : za), (⟨5, 9, ([(⟨(1 : UInt8), 7⟩ : zb)] : List zb)⟩ : za)] : List za)).bind fun c111 => some ((c111.length : Int) == 2) else some false)).bind fun c108 => some c108
def zA (p0 : (List zb)) : Option (List zb) :=
  (room (([] : List zb).length + p0.length)).bind fun _ => some (([] : List zb) ++ p0)
def zW (rec4 : (List za) → Int → Option (List za)) (p0 : (List za)) (x52 : List za) (x54 : Int) : Option (List za) :=
  (if (decide (x54 < (p0.length : Int))) = true then (getI p0 x54).bind fun y101 => (getI p0 x54).bind fun y110 => (getI p0 x54).bind fun y119 => (zA y119.At).bind fun c128 => (room (x52.length + 1)).bind fun _ => rec4 (x52 ++ [(⟨y101.From, y110.To, c128⟩ : za)]) (IntKind.i64.wrap (x54 + 1)) else some x52)
def zN (p0 : (List za)) : Nat → (List za) → Int → Option (List za)
  | 0, _, _ => none
  | n + 1, x52, x54 => zW (zN p0 n) p0 x52 x54
def zF (p0 : (List za)) : Option (List za) :=
  zN p0 big ([]) 0
def zs (rec33 : (List Int) → Int → Option Bool) (c52 : (List za)) (x1245 : Int) (c1380 : (List zb)) (x1456 : List Int) : Option Bool :=
  (getI x1456 x1245).bind fun y1461 => (zm c52 y1461).bind fun c1468 => (zl c1380 c1468).bind fun c1479 => (if (!c1479) = true then some false else rec33 x1456 (IntKind.i64.wrap (x1245 + 1)))
def zK (rec33 : (List Int) → Int → Option Bool) (p0 : (List za)) (p1 : Int) (p2 : Int) (c32 : (List za)) (c52 : (List za)) (x1241 : List Int) (x1245 : Int) : Option Bool :=
  (if (decide (x1245 < (x1241.length : Int))) = true then (getI x1241 x1245).bind fun y1373 => (zm p0 y1373).bind fun c1380 => (getI x1241 x1245).bind fun y1389 => (zm c32 y1389).bind fun c1396 => (getI x1241 x1245).bind fun y1405 => ((if (decide (p1 ≤ y1405)) = true then (getI x1241 x1245).bind fun y1415 => some (decide (y1415 < p2)) else some false)).bind fun c1412 => (if c1412 = true then (if ((c1396.length : Int) != 0) = true then some false else zs rec33 c52 x1245 c1380 x1241) else (zl c1380 c1396).bind fun c1488 => (if (!c1488) = true then some false else zs rec33 c52 x1245 c1380 x1241)) else (zR ).bind fun c1493 => some c1493)
def zh (p0 : (List za)) (p1 : Int) (p2 : Int) (c32 : (List za)) (c52 : (List za)) : Nat → (List Int) → Int → Option Bool
  | 0, _, _ => none
  | n + 1, x1241, x1245 => zK (zh p0 p1 p2 c32 c52 n) p0 p1 p2 c32 c52 x1241 x1245
def zX (rec29 : (List Int) → Int → Option Bool) (p0 : (List za)) (p1 : Int) (p2 : Int) (c32 : (List za)) (c52 : (List za)) (x557 : List Int) (x561 : Int) : Option Bool :=
  (if (decide (x561 < (p0.length : Int))) = true then (getI p0 x561).bind fun y1030 => (getI p0 x561).bind fun y1039 => (getI p0 x561).bind fun y1048 => (getI p0 x561).bind fun y1057 => (room (([] : List Int).length + x557.length)).bind fun _ => (room ((([] : List Int) ++ x557).length + ([y1030.From, y1039.To, (IntKind.i64.wrap (y1048.To - 1)), (IntKind.i64.wrap (y1057.From - 1))] : List Int).length)).bind fun _ => rec29 ((([] : List Int) ++ x557) ++ ([y1030.From, y1039.To, (IntKind.i64.wrap (y1048.To - 1)), (IntKind.i64.wrap (y1057.From - 1))] : List Int)) (IntKind.i64.wrap (x561 + 1)) else (room (([] : List Int).length + x557.length)).bind fun _ => (room ((([] : List Int) ++ x557).length + ([p1, (IntKind.i64.wrap (p1 - 1)), p2, (IntKind.i64.wrap (p2 - 1))] : List Int).length)).bind fun _ => zh p0 p1 p2 c32 c52 big ((([] : List Int) ++ x557) ++ ([p1, (IntKind.i64.wrap (p1 - 1)), p2, (IntKind.i64.wrap (p2 - 1))] : List Int)) 0)
def zE (p0 : (List za)) (p1 : Int) (p2 : Int) (c32 : (List za)) (c52 : (List za)) : Nat → (List Int) → Int → Option Bool
  | 0, _, _ => none
  | n + 1, x557, x561 => zX (zE p0 p1 p2 c32 c52 n) p0 p1 p2 c32 c52 x557 x561
def zbs (p0 : (List za)) (p1 : Int) (p2 : Int) (p3 : (List Int)) : Option Bool :=
  (z3 p0).bind fun c5 => ((if ((c5 || (decide ((p3.length : Int) > 100))) || (decide ((p0.length : Int) > 500))) = true then some true else (zg p0).bind fun c12 => some (!c12))).bind fun c9 => (if c9 = true then (zR ).bind fun c17 => some c17 else (zF p0).bind fun c21 => (zp c21 p1 p2).bind fun c32 => (zF p0).bind fun c41 => (zC c41).bind fun c52 => (zg c32).bind fun c63 => ((if (!c63) = true then some true else (zg c52).bind fun c72 => some (!c72))).bind fun c69 => (if ((c69 || (decide ((c32.length : Int) > (IntKind.i64.wrap ((p0.length : Int) + 1))))) || (decide ((c52.length : Int) > (p0.length : Int)))) = true then some false else zE p0 p1 p2 c32 c52 big p3 0))
end Go.Proofs.Ytjcehfjmmbbblaa
