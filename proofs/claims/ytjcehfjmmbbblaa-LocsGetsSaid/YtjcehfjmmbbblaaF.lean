import Derived.Test.YtjcehfjmmbbblaaAd
import Derived.Test.YtjcehfjmmbbblaaFM
namespace Go.Proofs.Ytjcehfjmmbbblaa
open Go.Ab Go.RowKit
set_option linter.unusedVariables false
set_option linter.unusedSimpArgs false
set_option maxRecDepth 10000
structure zb where
  Kind : UInt8
  N : Int
  deriving DecidableEq
def zd : Ty zb where
  sz := 2
  R := fun σ x cs => cs = [.int .u8 x.Kind.toNat, .int .i64 x.N]
  len := by rintro σ x cs rfl; rfl
  one := by rintro σ x cs rfl; rfl
  mono := by rintro σ σ' x cs hle rfl; rfl
structure za where
  From : Int
  To : Int
  At : (List zb)
  deriving DecidableEq
def zc : Ty za where
  sz := 3
  R := fun σ x cs => ∃ v2, cs = [.int .i64 x.From, .int .i64 x.To, v2] ∧ RdT zd σ v2 x.At
  len := by rintro σ x cs ⟨v2, rfl, h0⟩; rfl
  one := by rintro σ x cs ⟨v2, rfl, h0⟩; obtain ⟨_, ⟨_, _, rfl, _⟩, _⟩ := h0; rfl
  mono := by rintro σ σ' x cs hle ⟨v2, rfl, h0⟩; exact ⟨v2, rfl, h0.le hle⟩
structure zbR where
  deriving DecidableEq
structure zbO where
  deriving DecidableEq
structure zbQ where
  deriving DecidableEq
inductive ze where
  | nil : ze
  | c_number (a : Int) : ze
  | c_reg (a : Int) : ze
  | c_base (a : Int) : ze
  | c_word (a : zbR) : ze
  | c_add (a : zbO) : ze
  | c_neg (a : zbQ) : ze
  deriving DecidableEq
def zf : ze → Value
  | .nil => .nilIface
  | .c_number a => .iface 94 (.int .i64 a)
  | .c_reg a => .iface 95 (.int .i64 a)
  | .c_base a => .iface 96 (.int .i64 a)
  | .c_word a => .iface 98 (.agg #[])
  | .c_add a => .iface 99 (.agg #[])
  | .c_neg a => .iface 100 (.agg #[])
theorem zdp (x : ze) : one (zf x) = true := by cases x <;> rfl
theorem zdL (x : ze) : (zf x).cells.toList = [zf x] := by cases x <;> rfl
def zb4 : Ty ze where
  sz := 1
  R := fun σ x cs => cs = [zf x]
  len := by rintro σ x cs rfl; rfl
  one := by rintro σ x cs rfl; simp [zdp]
  mono := by rintro σ σ' x cs hle rfl; rfl
def zU (p0 : zb) : Option (ze × Bool) :=
  (if ((p0.Kind.toNat : Int) == 1) = true then some ((ze.c_number p0.N), true) else (if ((p0.Kind.toNat : Int) == 2) = true then some ((ze.c_reg p0.N), ((decide (p0.N ≥ 0)) && (decide (p0.N < 16)))) else (if ((p0.Kind.toNat : Int) == 3) = true then some ((ze.c_base p0.N), true) else (if ((p0.Kind.toNat : Int) == 4) = true then some ((ze.c_word (⟨⟩ : zbR)), (p0.N == 0)) else (if ((p0.Kind.toNat : Int) == 5) = true then some ((ze.c_add (⟨⟩ : zbO)), (p0.N == 0)) else (if ((p0.Kind.toNat : Int) == 6) = true then some ((ze.c_neg (⟨⟩ : zbQ)), (p0.N == 0)) else some (ze.nil, false)))))))
def zbJ (p0 : Int) : Option Int :=
  some 0
def zb2 (p0 : Int) : Option Int :=
  some 0
def zb3 (p0 : Int) : Option Int :=
  some 0
def zb0 (p0 : zbR) : Option Int :=
  some 1
def zb1 (p0 : zbO) : Option Int :=
  some 2
def zbW (p0 : zbQ) : Option Int :=
  some 1
def zbl (x : ze)  : Option Int :=
  match x with
  | .nil => none
  | .c_number a => zbJ a
  | .c_reg a => zb2 a
  | .c_base a => zb3 a
  | .c_word a => zb0 a
  | .c_add a => zb1 a
  | .c_neg a => zbW a
def zby (rec4 : (List ze) → Int → Int → Option ((List ze) × Bool)) (p0 : (List zb)) (x42 : List ze) (x44 : Int) (x46 : Int) : Option ((List ze) × Bool) :=
  (if (decide (x46 < (p0.length : Int))) = true then (getI p0 x46).bind fun y82 => (zU (⟨y82.Kind, y82.N⟩ : zb)).bind fun c88 => ((if (!c88.2) = true then some true else (zbl c88.1).bind fun c95 => some (decide (c95 > x44)))).bind fun c92 => (if c92 = true then some ([], false) else (zbl c88.1).bind fun c100 => (if (decide ((IntKind.i64.wrap (x44 + (IntKind.i64.wrap (1 - c100)))) > 8)) = true then some ([], false) else (room (x42.length + 1)).bind fun _ => rec4 (x42 ++ [c88.1]) (IntKind.i64.wrap (x44 + (IntKind.i64.wrap (1 - c100)))) (IntKind.i64.wrap (x46 + 1)))) else ((if (decide ((p0.length : Int) ≤ 16)) = true then (if ((p0.length : Int) == 0) = true then some true else some (x44 == 1)) else some false)).bind fun c110 => some (x42, c110))
def zbd (p0 : (List zb)) : Nat → (List ze) → Int → Int → Option ((List ze) × Bool)
  | 0, _, _, _ => none
  | n + 1, x42, x44, x46 => zby (zbd p0 n) p0 x42 x44 x46
def zV (p0 : (List zb)) : Option ((List ze) × Bool) :=
  zbd p0 big ([]) 0 0
def zn (p0 : (List zb)) : Option Bool :=
  (zV p0).bind fun c2 => some c2.2
def zbr (rec4 : Int → Int → Option Bool) (p0 : (List za)) (x24 : Int) (x26 : Int) : Option Bool :=
  (if (decide (x26 < (p0.length : Int))) = true then (getI p0 x26).bind fun y48 => ((if ((((decide (y48.From < x24)) || (decide (y48.To ≤ y48.From))) || (decide (y48.To > 16777216))) || ((y48.At.length : Int) == 0)) = true then some true else (zn y48.At).bind fun c61 => some (!c61))).bind fun c58 => (if c58 = true then some false else rec4 y48.To (IntKind.i64.wrap (x26 + 1))) else some (decide ((p0.length : Int) ≤ 4000)))
def zbB (p0 : (List za)) : Nat → Int → Int → Option Bool
  | 0, _, _ => none
  | n + 1, x24, x26 => zbr (zbB p0 n) p0 x24 x26
def zB (p0 : (List za)) : Option Bool :=
  zbB p0 big 0 0
def zA (p0 : (List UInt8)) : Option (List UInt8) := (room p0.length).bind fun _ => some p0
def z5 (rec4 : Int → (List UInt8) → Option (List UInt8))  (x30 : Int) (x34 : List UInt8) : Option (List UInt8) :=
  (if (decide (x30 > 127)) = true then (u8o (orI .u8 (IntKind.u8.wrap x30) 128)).bind fun z51 => (room (x34.length + 1)).bind fun _ => rec4 (shrI .u64 x30 7) (x34 ++ [z51]) else (u8o (IntKind.u8.wrap x30)).bind fun z57 => (room (x34.length + 1)).bind fun _ => some (x34 ++ [z57]))
def zJ  : Nat → Int → (List UInt8) → Option (List UInt8)
  | 0, _, _ => none
  | n + 1, x30, x34 => z5 (zJ  n)  x30 x34
def zh (p0 : (List UInt8)) (p1 : Int) : Option (List UInt8) :=
  (zA p0).bind fun c3 => zJ  big p1 c3
def zbi (p0 : Int) : Option Bool :=
  some ((decide (p0 ≥ 1)) && (decide (p0 ≤ 3)))
def zbh (rec4 : Int → (List UInt8) → Option (List UInt8))  (x30 : Int) (x34 : List UInt8) : Option (List UInt8) :=
  (if ((decide (x30 > 63)) || (decide (x30 < (-64)))) = true then (u8o (orI .u8 (IntKind.u8.wrap x30) 128)).bind fun z51 => (room (x34.length + 1)).bind fun _ => rec4 (shrI .i64 x30 7) (x34 ++ [z51]) else (u8o (andI .u8 (IntKind.u8.wrap x30) 127)).bind fun z57 => (room (x34.length + 1)).bind fun _ => some (x34 ++ [z57]))
def zbD  : Nat → Int → (List UInt8) → Option (List UInt8)
  | 0, _, _ => none
  | n + 1, x30, x34 => zbh (zbD  n)  x30 x34
def zD (p0 : (List UInt8)) (p1 : Int) : Option (List UInt8) :=
  (zA p0).bind fun c3 => zbD  big p1 c3
def zcb (rec4 : (List UInt8) → Int → Option ((List UInt8) × Int)) (p1 : (List zb)) (x54 : List UInt8) (x57 : Int) : Option ((List UInt8) × Int) :=
  (if (decide (x57 < (p1.length : Int))) = true then (getI p1 x57).bind fun y88 => (room (x54.length + 1)).bind fun _ => (zbi (y88.Kind.toNat : Int)).bind fun c99 => (if c99 = true then (zD (x54 ++ [y88.Kind]) y88.N).bind fun c106 => rec4 c106 (IntKind.i64.wrap (x57 + 1)) else rec4 (x54 ++ [y88.Kind]) (IntKind.i64.wrap (x57 + 1))) else some (x54, 0))
def zbH (p1 : (List zb)) : Nat → (List UInt8) → Int → Option ((List UInt8) × Int)
  | 0, _, _ => none
  | n + 1, x54, x57 => zcb (zbH p1 n) p1 x54 x57
def zcp (p0 : (List UInt8)) (p1 : (List zb)) : Option ((List UInt8) × Int) :=
  (zn p1).bind fun c3 => (if (!c3) = true then some ([], 1) else (zh p0 (IntKind.u64.wrap (p1.length : Int))).bind fun c8 => zbH p1 big c8 0)
def zck (rec4 : (List UInt8) → Int → Int → Option ((List UInt8) × Int)) (p1 : (List za)) (x70 : List UInt8) (x72 : Int) (x74 : Int) : Option ((List UInt8) × Int) :=
  (if (decide (x74 < (p1.length : Int))) = true then (getI p1 x74).bind fun y121 => (zh x70 (IntKind.u64.wrap (IntKind.i64.wrap (y121.From - x72)))).bind fun c133 => (zh c133 (IntKind.u64.wrap (IntKind.i64.wrap (y121.To - y121.From)))).bind fun c144 => (zcp c144 y121.At).bind fun c155 => rec4 c155.1 y121.To (IntKind.i64.wrap (x74 + 1)) else some (x70, 0))
def zbG (p1 : (List za)) : Nat → (List UInt8) → Int → Int → Option ((List UInt8) × Int)
  | 0, _, _, _ => none
  | n + 1, x70, x72, x74 => zck (zbG p1 n) p1 x70 x72 x74
def zcg (p0 : (List UInt8)) (p1 : (List za)) : Option ((List UInt8) × Int) :=
  (zB p1).bind fun c3 => (if (!c3) = true then some ([], 1) else (zh p0 (IntKind.u64.wrap (p1.length : Int))).bind fun c8 => zbG p1 big c8 0 0)
def zbe (rec4 : Int → Option Bool) (p0 : (List zb)) (p1 : (List zb)) (x20 : Int) : Option Bool :=
  (if (decide (x20 < (p0.length : Int))) = true then (getI p0 x20).bind fun y35 => (getI p1 x20).bind fun y40 => (if (!(( (y35.Kind.toNat : Int) == (y40.Kind.toNat : Int)) && (( y35.N == y40.N) && true))) = true then some false else rec4 (IntKind.i64.wrap (x20 + 1))) else some true)
def zR (p0 : (List zb)) (p1 : (List zb)) : Nat → Int → Option Bool
  | 0, _ => none
  | n + 1, x20 => zbe (zR p0 p1 n) p0 p1 x20
def zQ (p0 : (List zb)) (p1 : (List zb)) : Option Bool :=
  (if ((p0.length : Int) != (p1.length : Int)) = true then some false else zR p0 p1 big 0)
def z2 (rec4 : Int → Option Bool) (p0 : (List za)) (p1 : (List za)) (x74 : Int) : Option Bool :=
  (if (decide (x74 < (p0.length : Int))) = true then (getI p0 x74).bind fun y143 => (getI p1 x74).bind fun y152 => ((if (y143.From != y152.From) = true then some true else (getI p0 x74).bind fun y164 => (getI p1 x74).bind fun y173 => some (y164.To != y173.To))).bind fun c161 => ((if c161 = true then some true else (getI p0 x74).bind fun y185 => (getI p1 x74).bind fun y194 => (zQ y185.At y194.At).bind fun c203 => some (!c203))).bind fun c182 => (if c182 = true then some false else rec4 (IntKind.i64.wrap (x74 + 1))) else some true)
def z4 (p0 : (List za)) (p1 : (List za)) : Nat → Int → Option Bool
  | 0, _ => none
  | n + 1, x74 => z2 (z4 p0 p1 n) p0 p1 x74
def zE (p0 : (List za)) (p1 : (List za)) : Option Bool :=
  (if ((p0.length : Int) != (p1.length : Int)) = true then some false else z4 p0 p1 big 0)
def zW (rec4 : Int → Int → Option (Int × Int)) (p0 : (List UInt8)) (x18 : Int) (x19 : Int) : Option (Int × Int) :=
  (if (decide (x19 < (minI (p0.length : Int) 10))) = true then (getI p0 x19).bind fun y36 => (shlO .u64 (IntKind.u64.wrap (andI .u8 (y36.toNat : Int) 127)) (IntKind.i64.wrap (7 * x19))).bind fun y41 => (getI p0 x19).bind fun y43 => (if (decide ((y43.toNat : Int) < 128)) = true then some ((orI .u64 x18 y41), (IntKind.i64.wrap (x19 + 1))) else rec4 (orI .u64 x18 y41) (IntKind.i64.wrap (x19 + 1))) else some (0, 0))
def zbq (p0 : (List UInt8)) : Nat → Int → Int → Option (Int × Int)
  | 0, _, _ => none
  | n + 1, x18, x19 => zW (zbq p0 n) p0 x18 x19
def zbn (p0 : (List UInt8)) : Option (Int × Int) :=
  zbq p0 big 0 0
def z6 (rec4 : Int → Option Bool) (p0 : (List UInt8)) (p1 : (List UInt8)) (x20 : Int) : Option Bool :=
  (if (decide (x20 < (p0.length : Int))) = true then (getI p0 x20).bind fun y35 => (getI p1 x20).bind fun y40 => (if ((y35.toNat : Int) != (y40.toNat : Int)) = true then some false else rec4 (IntKind.i64.wrap (x20 + 1))) else some true)
def zP (p0 : (List UInt8)) (p1 : (List UInt8)) : Nat → Int → Option Bool
  | 0, _ => none
  | n + 1, x20 => z6 (zP p0 p1 n) p0 p1 x20
def zx (p0 : (List UInt8)) (p1 : (List UInt8)) : Option Bool :=
  (if ((p0.length : Int) != (p1.length : Int)) = true then some false else zP p0 p1 big 0)
def zbX (p0 : Int) (p1 : Int) : Option Int :=
  some p0
def zbK (p0 : (List UInt8)) (p1 : Int) : Option (Int × Int × Int) :=
  (if ((decide (p1 < 0)) || (decide (p1 > (p0.length : Int)))) = true then some (0, 0, 1) else (cutI p0 p1 (p0.length : Int)).bind fun y6 => (zbn y6).bind fun c11 => (zbX c11.1 c11.2).bind fun c15 => ((if (c11.2 == 0) = true then some true else (cutI p0 p1 (IntKind.i64.wrap (p1 + c11.2))).bind fun y22 => (zh [] c15).bind fun c27 => (zx c27 y22).bind fun c38 => some (!c38))).bind fun c19 => (if c19 = true then some (0, 0, 5) else some (c15, (IntKind.i64.wrap (p1 + c11.2)), 0)))
def zi (p0 : (List UInt8)) (p1 : Int) : Option (Int × Int × Int) :=
  (zbK p0 p1).bind fun c3 => some (c3.1, c3.2.1, c3.2.2)
def z8 (p0 : Int) (p1 : Int) : Option Int :=
  (shlO .u64 p0 (maxI 0 (IntKind.i64.wrap (64 - (IntKind.i64.wrap (7 * p1)))))).bind fun y3 => (shrO .i64 (IntKind.i64.wrap y3) (maxI 0 (IntKind.i64.wrap (64 - (IntKind.i64.wrap (7 * p1)))))).bind fun y5 => some y5
def zbL (p0 : (List UInt8)) (p1 : Int) : Option (Int × Int × Int) :=
  (if ((decide (p1 < 0)) || (decide (p1 > (p0.length : Int)))) = true then some (0, 0, 1) else (cutI p0 p1 (p0.length : Int)).bind fun y6 => (zbn y6).bind fun c11 => (z8 c11.1 c11.2).bind fun c15 => ((if (c11.2 == 0) = true then some true else (cutI p0 p1 (IntKind.i64.wrap (p1 + c11.2))).bind fun y22 => (zD [] c15).bind fun c27 => (zx c27 y22).bind fun c38 => some (!c38))).bind fun c19 => (if c19 = true then some (0, 0, 5) else some (c15, (IntKind.i64.wrap (p1 + c11.2)), 0)))
def zbs (p0 : (List UInt8)) (p1 : Int) : Option (Int × Int × Int) :=
  (zbL p0 p1).bind fun c3 => some (c3.1, c3.2.1, c3.2.2)
def zo (rec4 : (List zb) → Int → Int → Option ((List zb) × Int × Int)) (p0 : (List UInt8)) (c4 : Int × Int × Int) (x49 : List zb) (x51 : Int) (x52 : Int) : Option ((List zb) × Int × Int) :=
  (if (decide (x52 < c4.1)) = true then (if (decide (x51 ≥ (p0.length : Int))) = true then some ([], 0, 5) else (getI p0 x51).bind fun y91 => (zbi (y91.toNat : Int)).bind fun c97 => (if c97 = true then (zbs p0 (IntKind.i64.wrap (x51 + 1))).bind fun c102 => (if (c102.2.2 != 0) = true then some ([], 0, 5) else (room (x49.length + 1)).bind fun _ => rec4 (x49 ++ [(⟨y91, c102.1⟩ : zb)]) c102.2.1 (IntKind.u64.wrap (x52 + 1))) else (room (x49.length + 1)).bind fun _ => rec4 (x49 ++ [(⟨y91, 0⟩ : zb)]) (IntKind.i64.wrap (x51 + 1)) (IntKind.u64.wrap (x52 + 1)))) else (zn x49).bind fun c119 => (if (!c119) = true then some ([], 0, 5) else some (x49, x51, 0)))
def zbu (p0 : (List UInt8)) (c4 : Int × Int × Int) : Nat → (List zb) → Int → Int → Option ((List zb) × Int × Int)
  | 0, _, _, _ => none
  | n + 1, x49, x51, x52 => zo (zbu p0 c4 n) p0 c4 x49 x51 x52
def zbC (p0 : (List UInt8)) (p1 : Int) : Option ((List zb) × Int × Int) :=
  (if ((decide (p1 < 0)) || (decide (p1 > (p0.length : Int)))) = true then some ([], 0, 1) else (zi p0 p1).bind fun c4 => (if ((c4.2.2 != 0) || (decide (c4.1 > 16))) = true then some ([], 0, 5) else zbu p0 c4 big ([]) c4.2.1 0))
def zO (p0 : (List UInt8)) (p1 : Int) (p2 : Int) : Option (za × Int × Bool) :=
  (zi p0 p1).bind fun c5 => (if ((c5.2.2 != 0) || (decide (c5.1 > 16777216))) = true then some ((⟨0, 0, []⟩ : za), 0, false) else (zi p0 c5.2.1).bind fun c10 => (if ((c10.2.2 != 0) || (decide (c10.1 > 16777216))) = true then some ((⟨0, 0, []⟩ : za), 0, false) else (zbC p0 c10.2.1).bind fun c15 => some ((⟨(IntKind.i64.wrap (p2 + (IntKind.i64.wrap c5.1))), (IntKind.i64.wrap ((IntKind.i64.wrap (p2 + (IntKind.i64.wrap c5.1))) + (IntKind.i64.wrap c10.1))), c15.1⟩ : za), c15.2.1, ((c15.2.2 == 0) && (decide ((IntKind.i64.wrap ((IntKind.i64.wrap (p2 + (IntKind.i64.wrap c5.1))) + (IntKind.i64.wrap c10.1))) ≤ 16777216))))))
def zr (rec4 : (List za) → Int → Int → Int → Option ((List za) × Int × Int)) (p0 : (List UInt8)) (c4 : Int × Int × Int) (x42 : List za) (x44 : Int) (x45 : Int) (x46 : Int) : Option ((List za) × Int × Int) :=
  (if (decide (x46 < c4.1)) = true then (zO p0 x44 x45).bind fun c78 => (if (!c78.2.2) = true then some ([], 0, 5) else (room (x42.length + ([(⟨c78.1.From, c78.1.To, c78.1.At⟩ : za)] : List za).length)).bind fun _ => rec4 (x42 ++ ([(⟨c78.1.From, c78.1.To, c78.1.At⟩ : za)] : List za)) c78.2.1 c78.1.To (IntKind.u64.wrap (x46 + 1))) else (zB x42).bind fun c101 => (if (!c101) = true then some ([], 0, 5) else some (x42, x44, 0)))
def zT (p0 : (List UInt8)) (c4 : Int × Int × Int) : Nat → (List za) → Int → Int → Int → Option ((List za) × Int × Int)
  | 0, _, _, _, _ => none
  | n + 1, x42, x44, x45, x46 => zr (zT p0 c4 n) p0 c4 x42 x44 x45 x46
def zw (p0 : (List UInt8)) (p1 : Int) : Option ((List za) × Int × Int) :=
  (if ((decide (p1 < 0)) || (decide (p1 > (p0.length : Int)))) = true then some ([], 0, 1) else (zi p0 p1).bind fun c4 => (if ((c4.2.2 != 0) || (decide (c4.1 > 4000))) = true then some ([], 0, 5) else zT p0 c4 big ([]) c4.2.1 0 0))
def zbT (p0 : (List zb)) : Option (List zb) := (room p0.length).bind fun _ => some p0
def zcn (rec4 : Int → Option (List zb)) (p0 : (List za)) (p1 : Int) (x26 : Int) : Option (List zb) :=
  (if (decide (x26 < (p0.length : Int))) = true then (getI p0 x26).bind fun y50 => (if ((decide (y50.From ≤ p1)) && (decide (p1 < y50.To))) = true then (zbT y50.At).bind fun c61 => some c61 else rec4 (IntKind.i64.wrap (x26 + 1))) else some ([]))
def zbU (p0 : (List za)) (p1 : Int) : Nat → Int → Option (List zb)
  | 0, _ => none
  | n + 1, x26 => zcn (zbU p0 p1 n) p0 p1 x26
def zb8 (p0 : (List za)) (p1 : Int) : Option (List zb) :=
  zbU p0 p1 big 0
def zbm (p0 : za) : Option za :=
  (zbT p0.At).bind fun c4 => some (⟨p0.From, p0.To, c4⟩ : za)
def z0 (p0 : za) (qf0 : (List za)) : Option (Bool × (List za)) :=
  (zbm (⟨p0.From, p0.To, p0.At⟩ : za)).bind fun c3 => (room (qf0.length + ([(⟨c3.From, c3.To, c3.At⟩ : za)] : List za).length)).bind fun _ => some (true, (qf0 ++ ([(⟨c3.From, c3.To, c3.At⟩ : za)] : List za)))
def zcf (rec9 : (List za) → Int → Option (List za)) (qf1 : Int) (qf2 : Int) (x81 : Int) (y147 : za) (x163 : List za) : Option (List za) :=
  (if (decide (y147.From < (minI y147.To qf1))) = true then (z0 (⟨y147.From, (minI y147.To qf1), y147.At⟩ : za) x163).bind fun c174 => (if (!c174.1) = true then some c174.2 else (if (decide ((maxI y147.From qf2) < y147.To)) = true then (z0 (⟨(maxI y147.From qf2), y147.To, y147.At⟩ : za) c174.2).bind fun c185 => (if (!c185.1) = true then some c185.2 else rec9 c185.2 (IntKind.i64.wrap (x81 + 1))) else rec9 c174.2 (IntKind.i64.wrap (x81 + 1)))) else (if false = true then some x163 else (if (decide ((maxI y147.From qf2) < y147.To)) = true then (z0 (⟨(maxI y147.From qf2), y147.To, y147.At⟩ : za) x163).bind fun c197 => (if (!c197.1) = true then some c197.2 else rec9 c197.2 (IntKind.i64.wrap (x81 + 1))) else rec9 x163 (IntKind.i64.wrap (x81 + 1)))))
def zci (rec9 : (List za) → Int → Option (List za)) (qf0 : (List za)) (qf1 : Int) (qf2 : Int) (x76 : List za) (x81 : Int) : Option (List za) :=
  (if (decide (x81 < (qf0.length : Int))) = true then (getI qf0 x81).bind fun y147 => (if (decide (y147.From ≥ y147.To)) = true then rec9 x76 (IntKind.i64.wrap (x81 + 1)) else zcf rec9 qf1 qf2 x81 y147 x76) else some x76)
def zbv (qf0 : (List za)) (qf1 : Int) (qf2 : Int) : Nat → (List za) → Int → Option (List za)
  | 0, _, _ => none
  | n + 1, x76, x81 => zci (zbv qf0 qf1 qf2 n) qf0 qf1 qf2 x76 x81
def zcm (q0_0 : (List za)) (qf0 : (List za)) (qf1 : Int) (qf2 : Int) : Option (List za) :=
  zbv qf0 qf1 qf2 big q0_0 0
def zco (rec4 : (List za) → Int → Option (List za)) (p0 : (List za)) (x40 : List za) (x43 : Int) : Option (List za) :=
  (if (decide (x43 < (p0.length : Int))) = true then (getI p0 x43).bind fun y75 => (zbm (⟨y75.From, y75.To, y75.At⟩ : za)).bind fun c85 => (room (x40.length + ([(⟨c85.From, c85.To, c85.At⟩ : za)] : List za).length)).bind fun _ => rec4 (x40 ++ ([(⟨c85.From, c85.To, c85.At⟩ : za)] : List za)) (IntKind.i64.wrap (x43 + 1)) else some x40)
def zbP (p0 : (List za)) : Nat → (List za) → Int → Option (List za)
  | 0, _, _ => none
  | n + 1, x40, x43 => zco (zbP p0 n) p0 x40 x43
def zcl (p0 : (List za)) (p1 : Int) (p2 : Int) : Option (List za) :=
  (if (decide (p1 ≥ p2)) = true then zbP p0 big ([]) 0 else zcm ([]) p0 p1 p2)
def zb7 (rec4 : Int → Option Bool) (p0 : (List zb)) (p1 : (List zb)) (x20 : Int) : Option Bool :=
  (if (decide (x20 < (p0.length : Int))) = true then (getI p0 x20).bind fun y35 => (getI p1 x20).bind fun y40 => (if (!(( (y35.Kind.toNat : Int) == (y40.Kind.toNat : Int)) && (( y35.N == y40.N) && true))) = true then some false else rec4 (IntKind.i64.wrap (x20 + 1))) else some true)
def zbN (p0 : (List zb)) (p1 : (List zb)) : Nat → Int → Option Bool
  | 0, _ => none
  | n + 1, x20 => zb7 (zbN p0 p1 n) p0 p1 x20
def zch (p0 : (List zb)) (p1 : (List zb)) : Option Bool :=
  (if ((p0.length : Int) != (p1.length : Int)) = true then some false else zbN p0 p1 big 0)
def zcj (rec4 : (List za) → Int → Option (List za)) (p0 : (List za)) (x116 : List za) (x120 : Int) : Option (List za) :=
  (if (decide (x120 < (p0.length : Int))) = true then (getI p0 x120).bind fun y193 => ((if (decide ((IntKind.i64.wrap ((x116.length : Int) - 1)) ≥ 0)) = true then (getI x116 (IntKind.i64.wrap ((x116.length : Int) - 1))).bind fun y206 => some (y206.To == y193.From) else some false)).bind fun c203 => ((if c203 = true then (getI x116 (IntKind.i64.wrap ((x116.length : Int) - 1))).bind fun y220 => (zch y220.At y193.At).bind fun c231 => some c231 else some false)).bind fun c217 => (if c217 = true then (getI x116 (IntKind.i64.wrap ((x116.length : Int) - 1))).bind fun y236 => rec4 (x116.set (Int.toNat (IntKind.i64.wrap ((x116.length : Int) - 1))) (⟨y236.From, y193.To, y236.At⟩ : za)) (IntKind.i64.wrap (x120 + 1)) else (zbm (⟨y193.From, y193.To, y193.At⟩ : za)).bind fun c249 => (room (x116.length + 1)).bind fun _ => rec4 (x116 ++ [(⟨c249.From, c249.To, c249.At⟩ : za)]) (IntKind.i64.wrap (x120 + 1))) else some x116)
def zbY (p0 : (List za)) : Nat → (List za) → Int → Option (List za)
  | 0, _, _ => none
  | n + 1, x116, x120 => zcj (zbY p0 n) p0 x116 x120
def zce (p0 : (List za)) : Option (List za) :=
  zbY p0 big ([]) 0
def zG  : Option Bool :=
  (zcg [] ([(⟨3, 5, ([(⟨(2 : UInt8), 2⟩ : zb)] : List zb)⟩ : za), (⟨5, 9, ([(⟨(1 : UInt8), 7⟩ : zb)] : List zb)⟩ : za)] : List za)).bind fun c19 => (zw c19.1 0).bind fun c30 => (zb8 ([(⟨3, 5, ([(⟨(2 : UInt8), 2⟩ : zb)] : List zb)⟩ : za), (⟨5, 9, ([(⟨(1 : UInt8), 7⟩ : zb)] : List zb)⟩ : za)] : List za) 4).bind fun c38 => (zcl ([(⟨3, 5, ([(⟨(2 : UInt8), 2⟩ : zb)] : List zb)⟩ : za), (⟨5, 9, ([(⟨(1 : UInt8), 7⟩ : zb)] : List zb)⟩ : za)] : List za) 4 6).bind fun c47 => ((if ((((c19.2 == 0) && ((c19.1.length : Int) == 11)) && (c30.2.2 == 0)) && (c30.2.1 == 11)) = true then (zE ([(⟨3, 5, ([(⟨(2 : UInt8), 2⟩ : zb)] : List zb)⟩ : za), (⟨5, 9, ([(⟨(1 : UInt8), 7⟩ : zb)] : List zb)⟩ : za)] : List za) c30.1).bind fun c59 => some c59 else some false)).bind fun c56 => ((if (c56 && ((c38.length : Int) == 1)) = true then (getI c38 0).bind fun y66 => some (y66.N == 2) else some false)).bind fun c63 => ((if (c63 && ((c47.length : Int) == 2)) = true then (getI c47 0).bind fun y76 => some (y76.To == 4) else some false)).bind fun c73 => ((if c73 = true then (getI c47 1).bind fun y90 => some (y90.From == 6) else some false)).bind fun c87 => ((if c87 = true then (zB []).bind fun c104 => some c104 else some false)).bind fun c101 => ((if c101 = true then (zce ([(⟨3, 5, ([(⟨(2 : UInt8), 2⟩ : zb)] : List zb)⟩ : za), (⟨5, 9, ([(⟨(1 : UInt8), 7⟩ : zb)] : List zb)⟩ : za)] : List za)).bind fun c111 => some ((c111.length : Int) == 2) else some false)).bind fun c108 => some c108
def zj (rec29 : Int → Int → Option Bool) (p0 : (List zb)) (x78 : Int) (x79 : Int) (x188 : Int) : Option Bool :=
  ((if (decide (x188 > 0)) = true then (getI p0 x79).bind fun y192 => some (y192.N != 0) else some false)).bind fun c189 => (if (c189 || (decide (x188 > x78))) = true then some false else (if (decide ((IntKind.i64.wrap ((IntKind.i64.wrap (x78 - x188)) + 1)) > 8)) = true then some false else rec29 (IntKind.i64.wrap ((IntKind.i64.wrap (x78 - x188)) + 1)) (IntKind.i64.wrap (x79 + 1))))
def zbk (rec29 : Int → Int → Option Bool) (p0 : (List zb)) (x78 : Int) (x79 : Int) (y156 : zb) (x220 : Bool) : Option Bool :=
  (if x220 = true then zj rec29 p0 x78 x79 1 else (if ((y156.Kind.toNat : Int) == 5) = true then zj rec29 p0 x78 x79 2 else some false))
def zbw (rec29 : Int → Int → Option Bool) (p0 : (List zb)) (x78 : Int) (x79 : Int) (y156 : zb) (x201 : Bool) : Option Bool :=
  (if x201 = true then zj rec29 p0 x78 x79 0 else (if ((y156.Kind.toNat : Int) == 2) = true then (getI p0 x79).bind fun y204 => ((if (decide (y204.N < 0)) = true then some true else (getI p0 x79).bind fun y212 => some (decide (y212.N > 15)))).bind fun c209 => (if c209 = true then some false else zj rec29 p0 x78 x79 0) else (if ((y156.Kind.toNat : Int) == 4) = true then zbk rec29 p0 x78 x79 y156 ((y156.Kind.toNat : Int) == 4) else zbk rec29 p0 x78 x79 y156 ((y156.Kind.toNat : Int) == 6))))
def zq (rec29 : Int → Int → Option Bool) (p0 : (List zb)) (x78 : Int) (x79 : Int) : Option Bool :=
  (if (decide (x79 < (p0.length : Int))) = true then (getI p0 x79).bind fun y156 => (if ((y156.Kind.toNat : Int) == 1) = true then zbw rec29 p0 x78 x79 y156 ((y156.Kind.toNat : Int) == 1) else zbw rec29 p0 x78 x79 y156 ((y156.Kind.toNat : Int) == 3)) else ((if (decide ((p0.length : Int) ≤ 16)) = true then (if ((p0.length : Int) == 0) = true then some true else some (x78 == 1)) else some false)).bind fun c225 => some c225)
def zl (p0 : (List zb)) : Nat → Int → Int → Option Bool
  | 0, _, _ => none
  | n + 1, x78, x79 => zq (zl p0 n) p0 x78 x79
def zH (p0 : (List zb)) : Option Bool :=
  zl p0 big 0 0
def zbA (rec4 : Int → Int → Option Bool) (p0 : (List za)) (x85 : Int) (x86 : Int) : Option Bool :=
  (if (decide (x86 < (p0.length : Int))) = true then (getI p0 x86).bind fun y170 => ((if (decide (y170.From < x85)) = true then some true else (getI p0 x86).bind fun y182 => (getI p0 x86).bind fun y191 => some (decide (y182.To ≤ y191.From)))).bind fun c179 => ((if c179 = true then some true else (getI p0 x86).bind fun y203 => some (decide (y203.To > 16777216)))).bind fun c200 => ((if c200 = true then some true else (getI p0 x86).bind fun y215 => some ((y215.At.length : Int) == 0))).bind fun c212 => ((if c212 = true then some true else (getI p0 x86).bind fun y227 => (zH y227.At).bind fun c236 => some (!c236))).bind fun c224 => (if c224 = true then some false else (getI p0 x86).bind fun y241 => rec4 y241.To (IntKind.i64.wrap (x86 + 1))) else some (decide ((p0.length : Int) ≤ 4000)))
def zY (p0 : (List za)) : Nat → Int → Int → Option Bool
  | 0, _, _ => none
  | n + 1, x85, x86 => zbA (zY p0 n) p0 x85 x86
def zb6 (p0 : (List za)) : Option Bool :=
  zY p0 big 0 0
def zX (p0 : Int) (p1 : Int) : Option Bool :=
  ((if (decide ((IntKind.i64.wrap (7 * p1)) ≥ 64)) = true then some true else (shlO .u64 1 (IntKind.u64.wrap (IntKind.i64.wrap (7 * p1)))).bind fun y6 => some (decide (p0 < y6)))).bind fun c3 => some c3
def zS (rec4 : (List UInt8) → Int → Option (List UInt8)) (p0 : (List UInt8)) (x18 : List UInt8) (x21 : Int) : Option (List UInt8) :=
  (if (decide (x21 < (p0.length : Int))) = true then (getI p0 x21).bind fun y35 => (room (x18.length + 1)).bind fun _ => rec4 (x18 ++ [y35]) (IntKind.i64.wrap (x21 + 1)) else some x18)
def zbc (p0 : (List UInt8)) : Nat → (List UInt8) → Int → Option (List UInt8)
  | 0, _, _ => none
  | n + 1, x18, x21 => zS (zbc p0 n) p0 x18 x21
def zbI (p0 : (List UInt8)) : Option (List UInt8) :=
  zbc p0 big ([]) 0
def zL (rec9 : Int → (List UInt8) → Int → Option (List UInt8)) (p3 : Int) (x41 : Int) (x47 : Int) (x73 : Int) (x77 : List UInt8) : Option (List UInt8) :=
  (if (decide (x47 < (IntKind.i64.wrap (p3 - 1)))) = true then (u8o (IntKind.u8.wrap (IntKind.u64.wrap ((Int.tmod x41 128) + 128)))).bind fun z80 => (room (x77.length + 1)).bind fun _ => rec9 x73 (x77 ++ [z80]) (IntKind.i64.wrap (x47 + 1)) else (u8o (IntKind.u8.wrap (Int.tmod x41 128))).bind fun z86 => (room (x77.length + 1)).bind fun _ => rec9 x73 (x77 ++ [z86]) (IntKind.i64.wrap (x47 + 1)))
def z3 (rec9 : Int → (List UInt8) → Int → Option (List UInt8)) (p2 : Bool) (p3 : Int) (x41 : Int) (x45 : List UInt8) (x47 : Int) : Option (List UInt8) :=
  (if (decide (x47 < p3)) = true then (if p2 = true then zL rec9 p3 x41 x47 (orI .u64 (IntKind.u64.wrap (Int.tdiv x41 128)) 18302628885633695744) x45 else zL rec9 p3 x41 x47 (IntKind.u64.wrap (Int.tdiv x41 128)) x45) else some x45)
def zk (p2 : Bool) (p3 : Int) : Nat → Int → (List UInt8) → Int → Option (List UInt8)
  | 0, _, _, _ => none
  | n + 1, x41, x45, x47 => z3 (zk p2 p3 n) p2 p3 x41 x45 x47
def zC (p0 : (List UInt8)) (p1 : Int) (p2 : Bool) (p3 : Int) : Option (List UInt8) :=
  (zbI p0).bind fun c5 => zk p2 p3 big p1 c5 0
def zN (rec4 : Int → Option (List UInt8)) (p0 : (List UInt8)) (p1 : Int) (x19 : Int) : Option (List UInt8) :=
  (zX p1 x19).bind fun c35 => (if (!c35) = true then rec4 (IntKind.i64.wrap (x19 + 1)) else (zC p0 p1 false x19).bind fun c40 => some c40)
def zF (p0 : (List UInt8)) (p1 : Int) : Nat → Int → Option (List UInt8)
  | 0, _ => none
  | n + 1, x19 => zN (zF p0 p1 n) p0 p1 x19
def zbM (p0 : (List UInt8)) (p1 : Int) : Option (List UInt8) :=
  zF p0 p1 big 1
def zba (p0 : Int) (p1 : Int) : Option Bool :=
  (if (decide ((IntKind.i64.wrap ((IntKind.i64.wrap (7 * p1)) - 1)) ≥ 63)) = true then some true else (shlO .i64 1 (IntKind.u64.wrap (IntKind.i64.wrap ((IntKind.i64.wrap (7 * p1)) - 1)))).bind fun y4 => ((if (decide (p0 ≥ (IntKind.i64.wrap (0 - y4)))) = true then (shlO .i64 1 (IntKind.u64.wrap (IntKind.i64.wrap ((IntKind.i64.wrap (7 * p1)) - 1)))).bind fun y9 => some (decide (p0 < y9)) else some false)).bind fun c6 => some c6)
def zbt (rec4 : Int → Option (List UInt8)) (p0 : (List UInt8)) (p1 : Int) (x19 : Int) : Option (List UInt8) :=
  (zba p1 x19).bind fun c35 => (if (!c35) = true then rec4 (IntKind.i64.wrap (x19 + 1)) else (zC p0 (IntKind.u64.wrap p1) (decide (p1 < 0)) x19).bind fun c40 => some c40)
def zI (p0 : (List UInt8)) (p1 : Int) : Nat → Int → Option (List UInt8)
  | 0, _ => none
  | n + 1, x19 => zbt (zI p0 p1 n) p0 p1 x19
def zb5 (p0 : (List UInt8)) (p1 : Int) : Option (List UInt8) :=
  zI p0 p1 big 1
def zK (rec4 : Int → Option Bool) (p1 : (List UInt8)) (y4 : (List UInt8)) (x27 : Int) : Option Bool :=
  (if (decide (x27 < (y4.length : Int))) = true then (getI y4 x27).bind fun y44 => (if (decide (x27 < (p1.length : Int))) = true then (getI p1 x27).bind fun y50 => (if ((y44.toNat : Int) != (y50.toNat : Int)) = true then some false else rec4 (IntKind.i64.wrap (x27 + 1))) else (if ((y44.toNat : Int) != (IntKind.u8.wrap (IntKind.i64.wrap ((IntKind.i64.wrap (8 + (p1.length : Int))) - x27)))) = true then some false else rec4 (IntKind.i64.wrap (x27 + 1)))) else some true)
def zbj (p1 : (List UInt8)) (y4 : (List UInt8)) : Nat → Int → Option Bool
  | 0, _ => none
  | n + 1, x27 => zK (zbj p1 y4 n) p1 y4 x27
def zbE (p0 : (List UInt8)) (q0 : (List UInt8)) (p1 : (List UInt8)) : Option Bool :=
  (if (((p0.length : Int) != (p1.length : Int)) || (decide ((q0.length : Int) < (IntKind.i64.wrap ((p0.length : Int) + 8))))) = true then some false else (cutI q0 0 (IntKind.i64.wrap ((p0.length : Int) + 8))).bind fun y4 => zbj p1 y4 big 0)
def zbg (rec4 : Int → Option Int) (p0 : (List UInt8)) (p1 : Int) (x12 : Int) : Option Int :=
  (if ((decide (x12 < 10)) && (decide ((IntKind.i64.wrap (p1 + x12)) < (p0.length : Int)))) = true then (getI p0 (IntKind.i64.wrap (p1 + x12))).bind fun y22 => (if (decide ((y22.toNat : Int) < 128)) = true then some (IntKind.i64.wrap (x12 + 1)) else rec4 (IntKind.i64.wrap (x12 + 1))) else some 0)
def zbf (p0 : (List UInt8)) (p1 : Int) : Nat → Int → Option Int
  | 0, _ => none
  | n + 1, x12 => zbg (zbf p0 p1 n) p0 p1 x12
def zbo (p0 : (List UInt8)) (p1 : Int) : Option Int :=
  zbf p0 p1 big 0
def z1 (rec4 : Int → Int → Option Int) (p0 : (List UInt8)) (p1 : Int) (x12 : Int) (x13 : Int) : Option Int :=
  (if (decide (x13 ≥ 0)) = true then (getI p0 (IntKind.i64.wrap (p1 + x13))).bind fun y22 => rec4 (IntKind.u64.wrap ((IntKind.u64.wrap (128 * x12)) + (IntKind.u64.wrap (Int.tmod (y22.toNat : Int) 128)))) (IntKind.i64.wrap (x13 - 1)) else some x12)
def zbp (p0 : (List UInt8)) (p1 : Int) : Nat → Int → Int → Option Int
  | 0, _, _ => none
  | n + 1, x12, x13 => z1 (zbp p0 p1 n) p0 p1 x12 x13
def zv (p0 : (List UInt8)) (p1 : Int) (p2 : Int) : Option Int :=
  zbp p0 p1 big 0 (IntKind.i64.wrap (p2 - 1))
def zbz (rec4 : Int → Option Bool) (p0 : (List UInt8)) (p1 : Int) (p2 : (List UInt8)) (x21 : Int) : Option Bool :=
  (if (decide (x21 < (p2.length : Int))) = true then (getI p0 (IntKind.i64.wrap (p1 + x21))).bind fun y36 => (getI p2 x21).bind fun y41 => (if ((y36.toNat : Int) != (y41.toNat : Int)) = true then some false else rec4 (IntKind.i64.wrap (x21 + 1))) else some true)
def zbb (p0 : (List UInt8)) (p1 : Int) (p2 : (List UInt8)) : Nat → Int → Option Bool
  | 0, _ => none
  | n + 1, x21 => zbz (zbb p0 p1 p2 n) p0 p1 p2 x21
def zu (p0 : (List UInt8)) (p1 : Int) (p2 : (List UInt8)) : Option Bool :=
  (if (decide ((p2.length : Int) > (IntKind.i64.wrap ((p0.length : Int) - p1)))) = true then some false else zbb p0 p1 p2 big 0)
def zt (p0 : (List UInt8)) (p1 : Int) : Option (Int × Int × Int) :=
  (if ((decide (p1 < 0)) || (decide (p1 > (p0.length : Int)))) = true then some (0, 0, 1) else (zbo p0 p1).bind fun c4 => (zv p0 p1 c4).bind fun c8 => ((if (c4 == 0) = true then some true else (zbM [] c8).bind fun c15 => (zu p0 p1 c15).bind fun c26 => some (!c26))).bind fun c12 => (if c12 = true then some (0, 0, 5) else some (c8, (IntKind.i64.wrap (p1 + c4)), 0)))
def zg (p0 : (List UInt8)) (p1 : Int) : Option (Int × Int × Bool) :=
  (zt p0 p1).bind fun c3 => (if ((c3.2.2 != 0) || (decide (c3.1 > 16777216))) = true then some (0, 0, false) else some ((IntKind.i64.wrap c3.1), c3.2.1, true))
def zz (p0 : (List UInt8)) (p1 : Int) (c4 : Int) (x22 : Int) : Option (Int × Int × Int) :=
  (zb5 [] (IntKind.i64.wrap x22)).bind fun c23 => (zu p0 p1 c23).bind fun c34 => (if (!c34) = true then some (0, 0, 5) else some ((IntKind.i64.wrap x22), (IntKind.i64.wrap (p1 + c4)), 0))
def zy (p0 : (List UInt8)) (p1 : Int) : Option (Int × Int × Int) :=
  (if ((decide (p1 < 0)) || (decide (p1 > (p0.length : Int)))) = true then some (0, 0, 1) else (zbo p0 p1).bind fun c4 => (if (c4 == 0) = true then some (0, 0, 5) else (zv p0 p1 c4).bind fun c9 => (getI p0 (IntKind.i64.wrap ((IntKind.i64.wrap (p1 + c4)) - 1))).bind fun y13 => (if ((decide ((y13.toNat : Int) ≥ 64)) && (decide (c4 < 10))) = true then (shlO .u64 1 (IntKind.u64.wrap (IntKind.i64.wrap (7 * c4)))).bind fun y40 => zz p0 p1 c4 (IntKind.u64.wrap (c9 - y40)) else zz p0 p1 c4 c9)))
def zm (rec4 : Int → (List zb) → Int → Option ((List zb) × Int × Int)) (p0 : (List UInt8)) (c4 : Int × Int × Int) (x42 : Int) (x46 : List zb) (x48 : Int) : Option ((List zb) × Int × Int) :=
  (if (decide (x48 < (IntKind.i64.wrap c4.1))) = true then (if (decide (x42 ≥ (p0.length : Int))) = true then some ([], 0, 5) else (getI p0 x42).bind fun y83 => (if ((((y83.toNat : Int) == 1) || ((y83.toNat : Int) == 2)) || ((y83.toNat : Int) == 3)) = true then (zy p0 (IntKind.i64.wrap (x42 + 1))).bind fun c90 => (if (c90.2.2 != 0) = true then some ([], 0, 5) else (room (x46.length + 1)).bind fun _ => rec4 c90.2.1 (x46 ++ [(⟨y83, c90.1⟩ : zb)]) (IntKind.i64.wrap (x48 + 1))) else (room (x46.length + 1)).bind fun _ => rec4 (IntKind.i64.wrap (x42 + 1)) (x46 ++ [(⟨y83, 0⟩ : zb)]) (IntKind.i64.wrap (x48 + 1)))) else (zH x46).bind fun c107 => (if (!c107) = true then some ([], 0, 5) else some (x46, x42, 0)))
def zbx (p0 : (List UInt8)) (c4 : Int × Int × Int) : Nat → Int → (List zb) → Int → Option ((List zb) × Int × Int)
  | 0, _, _, _ => none
  | n + 1, x42, x46, x48 => zm (zbx p0 c4 n) p0 c4 x42 x46 x48
def zZ (p0 : (List UInt8)) (p1 : Int) : Option ((List zb) × Int × Int) :=
  (if ((decide (p1 < 0)) || (decide (p1 > (p0.length : Int)))) = true then some ([], 0, 1) else (zt p0 p1).bind fun c4 => (if ((c4.2.2 != 0) || (decide (c4.1 > 16))) = true then some ([], 0, 5) else zbx p0 c4 big c4.2.1 ([]) 0))
def zp (rec4 : Int → (List za) → Int → Int → Option ((List za) × Int × Int)) (p0 : (List UInt8)) (c4 : Int × Int × Bool) (x43 : Int) (x47 : List za) (x49 : Int) (x50 : Int) : Option ((List za) × Int × Int) :=
  (if (decide (x50 < c4.1)) = true then (zg p0 x43).bind fun c86 => (if (!c86.2.2) = true then some ([], 0, 5) else (zg p0 c86.2.1).bind fun c91 => (if (!c91.2.2) = true then some ([], 0, 5) else (zZ p0 c91.2.1).bind fun c96 => (if (c96.2.2 != 0) = true then some ([], 0, 5) else (room (x47.length + 1)).bind fun _ => (if (decide ((IntKind.i64.wrap ((IntKind.i64.wrap (x49 + c86.1)) + c91.1)) > 16777216)) = true then some ([], 0, 5) else rec4 c96.2.1 (x47 ++ [(⟨(IntKind.i64.wrap (x49 + c86.1)), (IntKind.i64.wrap ((IntKind.i64.wrap (x49 + c86.1)) + c91.1)), c96.1⟩ : za)]) (IntKind.i64.wrap ((IntKind.i64.wrap (x49 + c86.1)) + c91.1)) (IntKind.i64.wrap (x50 + 1)))))) else (zb6 x47).bind fun c113 => (if (!c113) = true then some ([], 0, 5) else some (x47, x43, 0)))
def z7 (p0 : (List UInt8)) (c4 : Int × Int × Bool) : Nat → Int → (List za) → Int → Int → Option ((List za) × Int × Int)
  | 0, _, _, _, _ => none
  | n + 1, x43, x47, x49, x50 => zp (z7 p0 c4 n) p0 c4 x43 x47 x49 x50
def zM (p0 : (List UInt8)) (p1 : Int) : Option ((List za) × Int × Int) :=
  (if ((decide (p1 < 0)) || (decide (p1 > (p0.length : Int)))) = true then some ([], 0, 1) else (zg p0 p1).bind fun c4 => (if ((!c4.2.2) || (decide (c4.1 > 4000))) = true then some ([], 0, 5) else z7 p0 c4 big c4.2.1 ([]) 0 0))
def zbS (p0 : (List UInt8)) (p1 : Int) : Option Bool :=
  (if (decide ((p0.length : Int) > 8192)) = true then (zG ).bind fun c4 => some c4 else (zbF p0).bind fun c8 => (zw c8.1 p1).bind fun c19 => (zM p0 p1).bind fun c27 => (zE c19.1 c27.1).bind fun c35 => ((if ((c35 && (c19.2.1 == c27.2.1)) && (c19.2.2 == c27.2.2)) = true then (zbE c8.1 c8.2 p0).bind fun c42 => some c42 else some false)).bind fun c39 => ((if c39 = true then (zG ).bind fun c49 => some c49 else some false)).bind fun c46 => some c46)
end Go.Proofs.Ytjcehfjmmbbblaa
