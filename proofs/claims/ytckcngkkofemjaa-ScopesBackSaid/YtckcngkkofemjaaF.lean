import Derived.Test.YtckcngkkofemjaaAd
import Derived.Test.YtckcngkkofemjaaFM
namespace Go.Proofs.Ytckcngkkofemjaa
open Go.Ab Go.RowKit
set_option linter.unusedVariables false
set_option linter.unusedSimpArgs false
set_option maxRecDepth 10000
set_option maxHeartbeats 1000000
structure zg where
  Kind : UInt8
  N : Int
  deriving DecidableEq
def zq : Ty zg where
  sz := 2
  R := fun σ x cs => cs = [.int .u8 x.Kind.toNat, .int .i64 x.N]
  len := by rintro σ x cs rfl; rfl
  one := by rintro σ x cs rfl; rfl
  mono := by rintro σ σ' x cs hle rfl; rfl
structure ze where
  From : Int
  To : Int
  At : (List zg)
  deriving DecidableEq
def zk : Ty ze where
  sz := 3
  R := fun σ x cs => ∃ v2, cs = [.int .i64 x.From, .int .i64 x.To, v2] ∧ RdT zq σ v2 x.At
  len := by rintro σ x cs ⟨v2, rfl, h0⟩; rfl
  one := by rintro σ x cs ⟨v2, rfl, h0⟩; obtain ⟨_, ⟨_, _, rfl, _⟩, _⟩ := h0; rfl
  mono := by rintro σ σ' x cs hle ⟨v2, rfl, h0⟩; exact ⟨v2, rfl, h0.le hle⟩
structure zp where
  Kind : UInt8
  N : Int
  Name : ByteArray
  deriving DecidableEq
def zfj : Ty zp where
  sz := 3
  R := fun σ x cs => cs = [.int .u8 x.Kind.toNat, .int .i64 x.N, .string x.Name]
  len := by rintro σ x cs rfl; rfl
  one := by rintro σ x cs rfl; rfl
  mono := by rintro σ σ' x cs hle rfl; rfl
structure zh where
  Name : ByteArray
  Type_ : zp
  Words : Int
  Fields : (List ByteArray)
  deriving DecidableEq
def zn : Ty zh where
  sz := 6
  R := fun σ x cs => ∃ v5, cs = [.string x.Name, .int .u8 x.Type_.Kind.toNat, .int .i64 x.Type_.N, .string x.Type_.Name, .int .i64 x.Words, v5] ∧ RdT Ty.str σ v5 x.Fields
  len := by rintro σ x cs ⟨v5, rfl, h0⟩; rfl
  one := by rintro σ x cs ⟨v5, rfl, h0⟩; obtain ⟨_, ⟨_, _, rfl, _⟩, _⟩ := h0; rfl
  mono := by rintro σ σ' x cs hle ⟨v5, rfl, h0⟩; exact ⟨v5, rfl, h0.le hle⟩
structure zc where
  Name : ByteArray
  From : Int
  To : Int
  Vars : (List zh)
  Spans : (List (List ze))
  deriving DecidableEq
def zj : Ty zc where
  sz := 5
  R := fun σ x cs => ∃ v3 v4, cs = [.string x.Name, .int .i64 x.From, .int .i64 x.To, v3, v4] ∧ RdT zn σ v3 x.Vars ∧ RdT (Ty.slice zk) σ v4 x.Spans
  len := by rintro σ x cs ⟨v3, v4, rfl, h0, h1⟩; rfl
  one := by rintro σ x cs ⟨v3, v4, rfl, h0, h1⟩; obtain ⟨_, ⟨_, _, rfl, _⟩, _⟩ := h0; obtain ⟨_, ⟨_, _, rfl, _⟩, _⟩ := h1; rfl
  mono := by rintro σ σ' x cs hle ⟨v3, v4, rfl, h0, h1⟩; exact ⟨v3, v4, rfl, h0.le hle, h1.le hle⟩
structure zi where
  Func : Int
  Line : Int
  Scope : (List Int)
  deriving DecidableEq
def zl : Ty zi where
  sz := 3
  R := fun σ x cs => ∃ v2, cs = [.int .i64 x.Func, .int .i64 x.Line, v2] ∧ RdT (Ty.int .i64) σ v2 x.Scope
  len := by rintro σ x cs ⟨v2, rfl, h0⟩; rfl
  one := by rintro σ x cs ⟨v2, rfl, h0⟩; obtain ⟨_, ⟨_, _, rfl, _⟩, _⟩ := h0; rfl
  mono := by rintro σ σ' x cs hle ⟨v2, rfl, h0⟩; exact ⟨v2, rfl, h0.le hle⟩
structure zu where
  L : (List zc)
  Points : (List zi)
  deriving DecidableEq
def zet : Ty zu where
  sz := 2
  R := fun σ x cs => ∃ v0 v1, cs = [v0, v1] ∧ RdT zj σ v0 x.L ∧ RdT zl σ v1 x.Points
  len := by rintro σ x cs ⟨v0, v1, rfl, h0, h1⟩; rfl
  one := by rintro σ x cs ⟨v0, v1, rfl, h0, h1⟩; obtain ⟨_, ⟨_, _, rfl, _⟩, _⟩ := h0; obtain ⟨_, ⟨_, _, rfl, _⟩, _⟩ := h1; rfl
  mono := by rintro σ σ' x cs hle ⟨v0, v1, rfl, h0, h1⟩; exact ⟨v0, v1, rfl, h0.le hle, h1.le hle⟩
structure zdo where
  deriving DecidableEq
structure zdg where
  deriving DecidableEq
structure zdc where
  deriving DecidableEq
inductive zo where
  | nil : zo
  | c_number (a : Int) : zo
  | c_reg (a : Int) : zo
  | c_base (a : Int) : zo
  | c_word (a : zdo) : zo
  | c_add (a : zdg) : zo
  | c_neg (a : zdc) : zo
  deriving DecidableEq
def zv : zo → Value
  | .nil => .nilIface
  | .c_number a => .iface 139 (.int .i64 a)
  | .c_reg a => .iface 140 (.int .i64 a)
  | .c_base a => .iface 141 (.int .i64 a)
  | .c_word a => .iface 143 (.agg #[])
  | .c_add a => .iface 144 (.agg #[])
  | .c_neg a => .iface 145 (.agg #[])
theorem zfF (x : zo) : one (zv x) = true := by cases x <;> rfl
theorem zeB (x : zo) : (zv x).cells.toList = [zv x] := by cases x <;> rfl
def zdu : Ty zo where
  sz := 1
  R := fun σ x cs => cs = [zv x]
  len := by rintro σ x cs rfl; rfl
  one := by rintro σ x cs rfl; simp [zfF]
  mono := by rintro σ σ' x cs hle rfl; rfl
structure zm where
  b : (List UInt8)
  deriving DecidableEq
structure zd where
  b : (List UInt8)
  at_ : Int
  failed : Bool
  deriving DecidableEq
def zcK (rec4 : Int → Int → Option Bool) (p0 : (List ze)) (x24 : Int) (x25 : Int) : Option Bool :=
  (if ((decide (x25 < (p0.length : Int))) && (decide (x25 ≤ 5000))) = true then (getI p0 x25).bind fun y48 => (getI p0 x25).bind fun y57 => (if (decide ((y57.At.length : Int) > 1000)) = true then some true else rec4 (IntKind.i64.wrap (x24 + (minI (y48.At.length : Int) 1000))) (IntKind.i64.wrap (x25 + 1))) else some ((decide ((p0.length : Int) > 5000)) || (decide (x24 > 20000))))
def zbV (p0 : (List ze)) : Nat → Int → Int → Option Bool
  | 0, _, _ => none
  | n + 1, x24, x25 => zcK (zbV p0 n) p0 x24 x25
def zdr (p0 : (List ze)) : Option Bool :=
  zbV p0 big 0 0
def zb2 (rec96 : Int → Option Bool) (rec94 : Int → Int → Option Bool) (y1394 : zc) (x1624 : Int) (x1627 : Int) (y1839 : zh) (x1903 : Int) : Option Bool :=
  (getI y1394.Vars x1627).bind fun y1930 => (if (decide (x1903 < (y1930.Fields.length : Int))) = true then (getI y1394.Vars x1627).bind fun y1940 => (getI y1940.Fields x1903).bind fun y1949 => (if (decide ((y1949.size : Int) > 1000)) = true then some true else rec96 (IntKind.i64.wrap (x1903 + 1))) else rec94 (IntKind.i64.wrap (x1624 + (minI (y1839.Fields.length : Int) 32768))) (IntKind.i64.wrap (x1627 + 1)))
def zc8 (rec94 : Int → Int → Option Bool) (y1394 : zc) (x1624 : Int) (x1627 : Int) (y1839 : zh) : Nat → Int → Option Bool
  | 0, _ => none
  | n + 1, x1903 => zb2 (zc8 rec94 y1394 x1624 x1627 y1839 n) rec94 y1394 x1624 x1627 y1839 x1903
def zcU (rec98 : Int → Int → Option Bool) (rec84 : Int → Int → Option Bool) (x700 : Int) (y1394 : zc) (x1988 : Int) (x1991 : Int) : Option Bool :=
  (if (decide (x1991 < (y1394.Spans.length : Int))) = true then (getI y1394.Spans x1991).bind fun y2021 => ((if (decide ((IntKind.i64.wrap (x1988 + (minI (y2021.length : Int) 32768))) > 2000)) = true then some true else (getI y1394.Spans x1991).bind fun y2033 => (zdr y2033).bind fun c2042 => some c2042)).bind fun c2030 => (if c2030 = true then some true else rec98 (IntKind.i64.wrap (x1988 + (minI (y2021.length : Int) 32768))) (IntKind.i64.wrap (x1991 + 1))) else rec84 x1988 (IntKind.i64.wrap (x700 + 1)))
def zcD (rec84 : Int → Int → Option Bool) (x700 : Int) (y1394 : zc) : Nat → Int → Int → Option Bool
  | 0, _, _ => none
  | n + 1, x1988, x1991 => zcU (zcD rec84 x700 y1394 n) rec84 x700 y1394 x1988 x1991
def zbA (rec94 : Int → Int → Option Bool) (rec84 : Int → Int → Option Bool) (x700 : Int) (y1394 : zc) (x1624 : Int) (x1627 : Int) : Option Bool :=
  (if (decide (x1627 < (y1394.Vars.length : Int))) = true then (getI y1394.Vars x1627).bind fun y1839 => (getI y1394.Vars x1627).bind fun y1848 => ((if (decide ((y1848.Name.size : Int) > 1000)) = true then some true else (getI y1394.Vars x1627).bind fun y1860 => some (decide ((y1860.Type_.Name.size : Int) > 1000)))).bind fun c1857 => (if (c1857 || (decide ((IntKind.i64.wrap (x1624 + (minI (y1839.Fields.length : Int) 32768))) > 2000))) = true then some true else zc8 rec94 y1394 x1624 x1627 y1839 big 0) else zcD rec84 x700 y1394 big x1624 0)
def zL (rec84 : Int → Int → Option Bool) (x700 : Int) (y1394 : zc) : Nat → Int → Int → Option Bool
  | 0, _, _ => none
  | n + 1, x1624, x1627 => zbA (zL rec84 x700 y1394 n) rec84 x700 y1394 x1624 x1627
def zbT (rec100 : Int → Int → Option Bool) (p0 : zu) (x2061 : Int) (x2062 : Int) : Option Bool :=
  (if (decide (x2062 < (p0.Points.length : Int))) = true then (getI p0.Points x2062).bind fun y2075 => rec100 (IntKind.i64.wrap (x2061 + (minI (y2075.Scope.length : Int) 32768))) (IntKind.i64.wrap (x2062 + 1)) else some (decide (x2061 > 20000)))
def zcG (p0 : zu) : Nat → Int → Int → Option Bool
  | 0, _, _ => none
  | n + 1, x2061, x2062 => zbT (zcG p0 n) p0 x2061 x2062
def zbz (rec84 : Int → Int → Option Bool) (p0 : zu) (x699 : Int) (x700 : Int) : Option Bool :=
  (if (decide (x700 < (p0.L.length : Int))) = true then (getI p0.L x700).bind fun y1394 => (if (((decide ((y1394.Name.size : Int) > 1000)) || (decide ((y1394.Vars.length : Int) > 100))) || (decide ((y1394.Spans.length : Int) > 100))) = true then some true else zL rec84 x700 y1394 big x699 0) else zcG p0 big x699 0)
def zx (p0 : zu) : Nat → Int → Int → Option Bool
  | 0, _, _ => none
  | n + 1, x699, x700 => zbz (zx p0 n) p0 x699 x700
def zbi (p0 : zu) : Option Bool :=
  (if ((decide ((p0.L.length : Int) > 100)) || (decide ((p0.Points.length : Int) > 1100))) = true then some true else zx p0 big 0 0)
def zdN (rec4 : Int → Option (Int × Bool)) (p0 : (List zc)) (p1 : Int) (x21 : Int) : Option (Int × Bool) :=
  (if (decide (x21 < (p0.length : Int))) = true then (getI p0 x21).bind fun y40 => (if ((decide (y40.From ≤ p1)) && (decide (p1 < y40.To))) = true then some (x21, true) else rec4 (IntKind.i64.wrap (x21 + 1))) else some (0, false))
def zdx (p0 : (List zc)) (p1 : Int) : Nat → Int → Option (Int × Bool)
  | 0, _ => none
  | n + 1, x21 => zdN (zdx p0 p1 n) p0 p1 x21
def zdM (p0 : (List zc)) (p1 : Int) : Option (Int × Bool) :=
  zdx p0 p1 big 0
def zdQ (rec4 : Int → Bool → Int → Option (Int × Bool)) (p0 : (List zc)) (p3 : ByteArray) (y6 : zi) (x53 : Int) (x54 : Bool) (x57 : Int) : Option (Int × Bool) :=
  (if (decide (x57 < (y6.Scope.length : Int))) = true then (getI y6.Scope x57).bind fun y92 => (getI p0 y6.Func).bind fun y97 => ((if ((decide (y92 ≥ 0)) && (decide (y92 < (y97.Vars.length : Int)))) = true then (getI y97.Vars y92).bind fun y113 => some (strEq y113.Name p3) else some false)).bind fun c110 => (if c110 = true then rec4 y92 true (IntKind.i64.wrap (x57 + 1)) else rec4 x53 x54 (IntKind.i64.wrap (x57 + 1))) else some (x53, x54))
def zdp (p0 : (List zc)) (p3 : ByteArray) (y6 : zi) : Nat → Int → Bool → Int → Option (Int × Bool)
  | 0, _, _, _ => none
  | n + 1, x53, x54, x57 => zdQ (zdp p0 p3 y6 n) p0 p3 y6 x53 x54 x57
def zdP (p0 : (List zc)) (p1 : (List zi)) (p2 : Int) (p3 : ByteArray) : Option (Int × Bool) :=
  (if ((decide (p2 < 0)) || (decide (p2 ≥ (p1.length : Int)))) = true then some (0, false) else (getI p1 p2).bind fun y6 => (if ((decide (y6.Func < 0)) || (decide (y6.Func ≥ (p0.length : Int)))) = true then some (0, false) else zdp p0 p3 y6 big 0 false 0))
def zbS (rec4 : Int → Option Bool) (p0 : zh) (p1 : zh) (x22 : Int) : Option Bool :=
  (if (decide (x22 < (p0.Fields.length : Int))) = true then (getI p0.Fields x22).bind fun y37 => (getI p1.Fields x22).bind fun y42 => (if (!(strEq y37 y42)) = true then some false else rec4 (IntKind.i64.wrap (x22 + 1))) else some true)
def zc0 (p0 : zh) (p1 : zh) : Nat → Int → Option Bool
  | 0, _ => none
  | n + 1, x22 => zbS (zc0 p0 p1 n) p0 p1 x22
def zbc (p0 : zh) (p1 : zh) : Option Bool :=
  (if ((((!(strEq p0.Name p1.Name)) || (!(( (p0.Type_.Kind.toNat : Int) == (p1.Type_.Kind.toNat : Int)) && (( p0.Type_.N == p1.Type_.N) && ((strEq p0.Type_.Name p1.Type_.Name) && true))))) || (p0.Words != p1.Words)) || ((p0.Fields.length : Int) != (p1.Fields.length : Int))) = true then some false else zc0 p0 p1 big 0)
def zch (rec4 : Int → Option Bool) (p0 : (List zg)) (p1 : (List zg)) (x20 : Int) : Option Bool :=
  (if (decide (x20 < (p0.length : Int))) = true then (getI p0 x20).bind fun y35 => (getI p1 x20).bind fun y40 => (if (!(( (y35.Kind.toNat : Int) == (y40.Kind.toNat : Int)) && (( y35.N == y40.N) && true))) = true then some false else rec4 (IntKind.i64.wrap (x20 + 1))) else some true)
def zbF (p0 : (List zg)) (p1 : (List zg)) : Nat → Int → Option Bool
  | 0, _ => none
  | n + 1, x20 => zch (zbF p0 p1 n) p0 p1 x20
def zbv (p0 : (List zg)) (p1 : (List zg)) : Option Bool :=
  (if ((p0.length : Int) != (p1.length : Int)) = true then some false else zbF p0 p1 big 0)
def zcw (rec4 : Int → Option Bool) (p0 : (List ze)) (p1 : (List ze)) (x74 : Int) : Option Bool :=
  (if (decide (x74 < (p0.length : Int))) = true then (getI p0 x74).bind fun y143 => (getI p1 x74).bind fun y152 => ((if (y143.From != y152.From) = true then some true else (getI p0 x74).bind fun y164 => (getI p1 x74).bind fun y173 => some (y164.To != y173.To))).bind fun c161 => ((if c161 = true then some true else (getI p0 x74).bind fun y185 => (getI p1 x74).bind fun y194 => (zbv y185.At y194.At).bind fun c203 => some (!c203))).bind fun c182 => (if c182 = true then some false else rec4 (IntKind.i64.wrap (x74 + 1))) else some true)
def zcr (p0 : (List ze)) (p1 : (List ze)) : Nat → Int → Option Bool
  | 0, _ => none
  | n + 1, x74 => zcw (zcr p0 p1 n) p0 p1 x74
def zbQ (p0 : (List ze)) (p1 : (List ze)) : Option Bool :=
  (if ((p0.length : Int) != (p1.length : Int)) = true then some false else zcr p0 p1 big 0)
def zcy (rec52 : Int → Option Bool) (rec44 : Int → Option Bool) (p0 : (List zc)) (p1 : (List zc)) (x932 : Int) (x2654 : Int) : Option Bool :=
  (getI p0 x932).bind fun y2719 => (if (decide (x2654 < (y2719.Spans.length : Int))) = true then (getI p0 x932).bind fun y2733 => (getI y2733.Spans x2654).bind fun y2746 => (getI p1 x932).bind fun y2755 => (getI y2755.Spans x2654).bind fun y2768 => (zbQ y2746 y2768).bind fun c2777 => (if (!c2777) = true then some false else rec52 (IntKind.i64.wrap (x2654 + 1))) else rec44 (IntKind.i64.wrap (x932 + 1)))
def zcM (rec44 : Int → Option Bool) (p0 : (List zc)) (p1 : (List zc)) (x932 : Int) : Nat → Int → Option Bool
  | 0, _ => none
  | n + 1, x2654 => zcy (zcM rec44 p0 p1 x932 n) rec44 p0 p1 x932 x2654
def zbu (rec50 : Int → Option Bool) (rec44 : Int → Option Bool) (p0 : (List zc)) (p1 : (List zc)) (x932 : Int) (x2264 : Int) : Option Bool :=
  (getI p0 x932).bind fun y2524 => (if (decide (x2264 < (y2524.Vars.length : Int))) = true then (getI p0 x932).bind fun y2538 => (getI y2538.Vars x2264).bind fun y2551 => (getI p1 x932).bind fun y2560 => (getI y2560.Vars x2264).bind fun y2573 => (zbc (⟨y2551.Name, (⟨y2551.Type_.Kind, y2551.Type_.N, y2551.Type_.Name⟩ : zp), y2551.Words, y2551.Fields⟩ : zh) (⟨y2573.Name, (⟨y2573.Type_.Kind, y2573.Type_.N, y2573.Type_.Name⟩ : zp), y2573.Words, y2573.Fields⟩ : zh)).bind fun c2582 => (if (!c2582) = true then some false else rec50 (IntKind.i64.wrap (x2264 + 1))) else zcM rec44 p0 p1 x932 big 0)
def zbI (rec44 : Int → Option Bool) (p0 : (List zc)) (p1 : (List zc)) (x932 : Int) : Nat → Int → Option Bool
  | 0, _ => none
  | n + 1, x2264 => zbu (zbI rec44 p0 p1 x932 n) rec44 p0 p1 x932 x2264
def zc2 (rec44 : Int → Option Bool) (p0 : (List zc)) (p1 : (List zc)) (x932 : Int) : Option Bool :=
  (if (decide (x932 < (p0.length : Int))) = true then (getI p0 x932).bind fun y1859 => (getI p1 x932).bind fun y1872 => ((if (!(strEq y1859.Name y1872.Name)) = true then some true else (getI p0 x932).bind fun y1888 => (getI p1 x932).bind fun y1901 => some (y1888.From != y1901.From))).bind fun c1885 => ((if c1885 = true then some true else (getI p0 x932).bind fun y1917 => (getI p1 x932).bind fun y1930 => some (y1917.To != y1930.To))).bind fun c1914 => ((if c1914 = true then some true else (getI p0 x932).bind fun y1946 => (getI p1 x932).bind fun y1959 => some ((y1946.Vars.length : Int) != (y1959.Vars.length : Int)))).bind fun c1943 => ((if c1943 = true then some true else (getI p0 x932).bind fun y1975 => (getI p1 x932).bind fun y1988 => some ((y1975.Spans.length : Int) != (y1988.Spans.length : Int)))).bind fun c1972 => (if c1972 = true then some false else zbI rec44 p0 p1 x932 big 0) else some true)
def zz (p0 : (List zc)) (p1 : (List zc)) : Nat → Int → Option Bool
  | 0, _ => none
  | n + 1, x932 => zc2 (zz p0 p1 n) p0 p1 x932
def zbh (p0 : (List zc)) (p1 : (List zc)) : Option Bool :=
  (if ((p0.length : Int) != (p1.length : Int)) = true then some false else zz p0 p1 big 0)
def zc4 (rec16 : Int → Option Bool) (rec14 : Int → Option Bool) (p0 : (List zi)) (p1 : (List zi)) (x193 : Int) (x485 : Int) : Option Bool :=
  (getI p0 x193).bind fun y526 => (if (decide (x485 < (y526.Scope.length : Int))) = true then (getI p0 x193).bind fun y536 => (getI y536.Scope x485).bind fun y545 => (getI p1 x193).bind fun y550 => (getI y550.Scope x485).bind fun y559 => (if (y545 != y559) = true then some false else rec16 (IntKind.i64.wrap (x485 + 1))) else rec14 (IntKind.i64.wrap (x193 + 1)))
def zb5 (rec14 : Int → Option Bool) (p0 : (List zi)) (p1 : (List zi)) (x193 : Int) : Nat → Int → Option Bool
  | 0, _ => none
  | n + 1, x485 => zc4 (zb5 rec14 p0 p1 x193 n) rec14 p0 p1 x193 x485
def zb0 (rec14 : Int → Option Bool) (p0 : (List zi)) (p1 : (List zi)) (x193 : Int) : Option Bool :=
  (if (decide (x193 < (p0.length : Int))) = true then (getI p0 x193).bind fun y381 => (getI p1 x193).bind fun y390 => ((if (y381.Func != y390.Func) = true then some true else (getI p0 x193).bind fun y402 => (getI p1 x193).bind fun y411 => some (y402.Line != y411.Line))).bind fun c399 => ((if c399 = true then some true else (getI p0 x193).bind fun y423 => (getI p1 x193).bind fun y432 => some ((y423.Scope.length : Int) != (y432.Scope.length : Int)))).bind fun c420 => (if c420 = true then some false else zb5 rec14 p0 p1 x193 big 0) else some true)
def zI (p0 : (List zi)) (p1 : (List zi)) : Nat → Int → Option Bool
  | 0, _ => none
  | n + 1, x193 => zb0 (zI p0 p1 n) p0 p1 x193
def zbd (p0 : (List zi)) (p1 : (List zi)) : Option Bool :=
  (if ((p0.length : Int) != (p1.length : Int)) = true then some false else zI p0 p1 big 0)
def zbt (rec4 : Int → Option Bool) (p0 : ByteArray) (x21 : Int) : Option Bool :=
  (if (decide (x21 < ((p0.data.toList).length : Int))) = true then (getI (p0.data.toList) x21).bind fun y37 => (if ((decide ((y37.toNat : Int) ≥ 97)) && (decide ((y37.toNat : Int) ≤ 122))) = true then (if ((decide ((y37.toNat : Int) ≥ 97)) && (decide ((y37.toNat : Int) ≤ 122))) = true then rec4 (IntKind.i64.wrap (x21 + 1)) else some false) else (if ((decide ((y37.toNat : Int) ≥ 65)) && (decide ((y37.toNat : Int) ≤ 90))) = true then (if ((decide ((y37.toNat : Int) ≥ 65)) && (decide ((y37.toNat : Int) ≤ 90))) = true then rec4 (IntKind.i64.wrap (x21 + 1)) else some false) else (if ((decide ((y37.toNat : Int) ≥ 48)) && (decide ((y37.toNat : Int) ≤ 57))) = true then (if ((decide ((y37.toNat : Int) ≥ 48)) && (decide ((y37.toNat : Int) ≤ 57))) = true then rec4 (IntKind.i64.wrap (x21 + 1)) else some false) else (if ((y37.toNat : Int) == 95) = true then rec4 (IntKind.i64.wrap (x21 + 1)) else some false)))) else some ((decide ((p0.size : Int) ≥ 1)) && (decide ((p0.size : Int) ≤ 24))))
def zbX (p0 : ByteArray) : Nat → Int → Option Bool
  | 0, _ => none
  | n + 1, x21 => zbt (zbX p0 n) p0 x21
def z3 (p0 : ByteArray) : Option Bool :=
  zbX p0 big 0
def zco (rec6 : Bool → Int → Option Bool) (p0 : zh) (x32 : Bool) (x34 : Int) : Option Bool :=
  (if (decide (x34 < (p0.Fields.length : Int))) = true then (getI p0.Fields x34).bind fun y50 => ((if x32 = true then (z3 y50).bind fun c58 => some c58 else some false)).bind fun c55 => rec6 c55 (IntKind.i64.wrap (x34 + 1)) else some x32)
def zc3 (p0 : zh) : Nat → Bool → Int → Option Bool
  | 0, _, _ => none
  | n + 1, x32, x34 => zco (zc3 p0 n) p0 x32 x34
def zbN (p0 : zh) (x10 : Bool) : Option Bool :=
  (if x10 = true then some ((((strEq p0.Type_.Name (⟨#[]⟩ : ByteArray)) && ((p0.Fields.length : Int) == 0)) && (p0.Type_.N == 0)) && (p0.Words == 1)) else (if ((p0.Type_.Kind.toNat : Int) == 3) = true then some (((((strEq p0.Type_.Name (⟨#[]⟩ : ByteArray)) && ((p0.Fields.length : Int) == 0)) && (decide (p0.Type_.N ≥ 1))) && (decide (p0.Type_.N ≤ 16))) && (p0.Words == p0.Type_.N)) else (if ((p0.Type_.Kind.toNat : Int) == 4) = true then (z3 p0.Type_.Name).bind fun c14 => zc3 p0 big ((((c14 && (p0.Type_.N == 0)) && (p0.Words == (p0.Fields.length : Int))) && (decide (p0.Words ≥ 1))) && (decide (p0.Words ≤ 8))) 0 else some false)))
def zbm (p0 : zh) : Option Bool :=
  (z3 p0.Name).bind fun c3 => (if (!c3) = true then some false else (if ((p0.Type_.Kind.toNat : Int) == 1) = true then zbN p0 ((p0.Type_.Kind.toNat : Int) == 1) else zbN p0 ((p0.Type_.Kind.toNat : Int) == 2)))
def zcL (p0 : zg) : Option (zo × Bool) :=
  (if ((p0.Kind.toNat : Int) == 1) = true then some ((zo.c_number p0.N), true) else (if ((p0.Kind.toNat : Int) == 2) = true then some ((zo.c_reg p0.N), ((decide (p0.N ≥ 0)) && (decide (p0.N < 16)))) else (if ((p0.Kind.toNat : Int) == 3) = true then some ((zo.c_base p0.N), true) else (if ((p0.Kind.toNat : Int) == 4) = true then some ((zo.c_word (⟨⟩ : zdo)), (p0.N == 0)) else (if ((p0.Kind.toNat : Int) == 5) = true then some ((zo.c_add (⟨⟩ : zdg)), (p0.N == 0)) else (if ((p0.Kind.toNat : Int) == 6) = true then some ((zo.c_neg (⟨⟩ : zdc)), (p0.N == 0)) else some (zo.nil, false)))))))
def zdb (p0 : Int) : Option Int :=
  some 0
def zdn (p0 : Int) : Option Int :=
  some 0
def zde (p0 : Int) : Option Int :=
  some 0
def zdt (p0 : zdo) : Option Int :=
  some 1
def zds (p0 : zdg) : Option Int :=
  some 2
def zda (p0 : zdc) : Option Int :=
  some 1
def zc1 (x : zo)  : Option Int :=
  match x with
  | .nil => none
  | .c_number a => zdb a
  | .c_reg a => zdn a
  | .c_base a => zde a
  | .c_word a => zdt a
  | .c_add a => zds a
  | .c_neg a => zda a
def zcQ (rec4 : (List zo) → Int → Int → Option ((List zo) × Bool)) (p0 : (List zg)) (x42 : List zo) (x44 : Int) (x46 : Int) : Option ((List zo) × Bool) :=
  (if (decide (x46 < (p0.length : Int))) = true then (getI p0 x46).bind fun y82 => (zcL (⟨y82.Kind, y82.N⟩ : zg)).bind fun c88 => ((if (!c88.2) = true then some true else (zc1 c88.1).bind fun c95 => some (decide (c95 > x44)))).bind fun c92 => (if c92 = true then some ([], false) else (zc1 c88.1).bind fun c100 => (if (decide ((IntKind.i64.wrap (x44 + (IntKind.i64.wrap (1 - c100)))) > 8)) = true then some ([], false) else (room (x42.length + 1)).bind fun _ => rec4 (x42 ++ [c88.1]) (IntKind.i64.wrap (x44 + (IntKind.i64.wrap (1 - c100)))) (IntKind.i64.wrap (x46 + 1)))) else ((if (decide ((p0.length : Int) ≤ 16)) = true then (if ((p0.length : Int) == 0) = true then some true else some (x44 == 1)) else some false)).bind fun c110 => some (x42, c110))
def zbO (p0 : (List zg)) : Nat → (List zo) → Int → Int → Option ((List zo) × Bool)
  | 0, _, _, _ => none
  | n + 1, x42, x44, x46 => zcQ (zbO p0 n) p0 x42 x44 x46
def zce (p0 : (List zg)) : Option ((List zo) × Bool) :=
  zbO p0 big ([]) 0 0
def zW (p0 : (List zg)) : Option Bool :=
  (zce p0).bind fun c2 => some c2.2
def zct (rec4 : Int → Int → Option Bool) (p0 : (List ze)) (x24 : Int) (x26 : Int) : Option Bool :=
  (if (decide (x26 < (p0.length : Int))) = true then (getI p0 x26).bind fun y48 => ((if ((((decide (y48.From < x24)) || (decide (y48.To ≤ y48.From))) || (decide (y48.To > 16777216))) || ((y48.At.length : Int) == 0)) = true then some true else (zW y48.At).bind fun c61 => some (!c61))).bind fun c58 => (if c58 = true then some false else rec4 y48.To (IntKind.i64.wrap (x26 + 1))) else some (decide ((p0.length : Int) ≤ 4000)))
def zcR (p0 : (List ze)) : Nat → Int → Int → Option Bool
  | 0, _, _ => none
  | n + 1, x24, x26 => zct (zcR p0 n) p0 x24 x26
def z7 (p0 : (List ze)) : Option Bool :=
  zcR p0 big 0 0
def zcP (rec4 : Int → Option Bool) (p0 : zc) (x70 : Int) : Option Bool :=
  (if (decide (x70 < (p0.Vars.length : Int))) = true then (getI p0.Vars x70).bind fun y128 => (getI p0.Spans x70).bind fun y138 => (zbm (⟨y128.Name, (⟨y128.Type_.Kind, y128.Type_.N, y128.Type_.Name⟩ : zp), y128.Words, y128.Fields⟩ : zh)).bind fun c147 => ((if (!c147) = true then some true else (z7 y138).bind fun c154 => some (!c154))).bind fun c151 => (if c151 = true then some false else ((if (decide ((y138.length : Int) > 0)) = true then (getI y138 0).bind fun y162 => (if (decide (y162.From < p0.From)) = true then some true else (getI y138 (IntKind.i64.wrap ((y138.length : Int) - 1))).bind fun y172 => some (decide (y172.To > p0.To))) else some false)).bind fun c159 => (if c159 = true then some false else rec4 (IntKind.i64.wrap (x70 + 1)))) else some true)
def zbW (p0 : zc) : Nat → Int → Option Bool
  | 0, _ => none
  | n + 1, x70 => zcP (zbW p0 n) p0 x70
def zba (p0 : zc) (p1 : Int) : Option Bool :=
  (z3 p0.Name).bind fun c4 => (if ((((((!c4) || (decide (p0.From < p1))) || (decide (p0.To ≤ p0.From))) || (decide (p0.To > 16777216))) || (decide ((p0.Vars.length : Int) > 64))) || ((p0.Spans.length : Int) != (p0.Vars.length : Int))) = true then some false else zbW p0 big 0)
def zbZ (rec4 : Int → Int → Option Bool) (p0 : zi) (p1 : (List zc)) (x33 : Int) (x35 : Int) : Option Bool :=
  (if (decide (x35 < (p0.Scope.length : Int))) = true then (getI p0.Scope x35).bind fun y61 => ((if (decide (y61 ≤ x33)) = true then some true else (getI p1 p0.Func).bind fun y69 => some (decide (y61 ≥ (y69.Vars.length : Int))))).bind fun c66 => (if c66 = true then some false else rec4 y61 (IntKind.i64.wrap (x35 + 1))) else some true)
def zcp (p0 : zi) (p1 : (List zc)) : Nat → Int → Int → Option Bool
  | 0, _, _ => none
  | n + 1, x33, x35 => zbZ (zcp p0 p1 n) p0 p1 x33 x35
def z8 (p0 : zi) (p1 : (List zc)) : Option Bool :=
  (if ((((decide (p0.Func < 0)) || (decide (p0.Func ≥ (p1.length : Int)))) || (decide (p0.Line < 1))) || (decide (p0.Line > 1048576))) = true then some false else zcp p0 p1 big (-1) 0)
def zbw (rec16 : Int → Option Bool) (p0 : (List zc)) (p1 : (List zi)) (x206 : Int) : Option Bool :=
  (if (decide (x206 < (p1.length : Int))) = true then (getI p1 x206).bind fun y225 => (z8 (⟨y225.Func, y225.Line, y225.Scope⟩ : zi) p0).bind fun c235 => (if (!c235) = true then some false else rec16 (IntKind.i64.wrap (x206 + 1))) else some ((decide ((p0.length : Int) ≤ 64)) && (decide ((p1.length : Int) ≤ 1000))))
def zcS (p0 : (List zc)) (p1 : (List zi)) : Nat → Int → Option Bool
  | 0, _ => none
  | n + 1, x206 => zbw (zcS p0 p1 n) p0 p1 x206
def zcI (rec14 : Int → Int → Option Bool) (p0 : (List zc)) (p1 : (List zi)) (x84 : Int) (x86 : Int) : Option Bool :=
  (if (decide (x86 < (p0.length : Int))) = true then (getI p0 x86).bind fun y165 => (zba (⟨y165.Name, y165.From, y165.To, y165.Vars, y165.Spans⟩ : zc) x84).bind fun c179 => (if (!c179) = true then some false else rec14 y165.To (IntKind.i64.wrap (x86 + 1))) else zcS p0 p1 big 0)
def zbq (p0 : (List zc)) (p1 : (List zi)) : Nat → Int → Int → Option Bool
  | 0, _, _ => none
  | n + 1, x84, x86 => zcI (zbq p0 p1 n) p0 p1 x84 x86
def zR (p0 : (List zc)) (p1 : (List zi)) : Option Bool :=
  zbq p0 p1 big 0 0
def zbf (p0 : (List UInt8)) : Option (List UInt8) := (room p0.length).bind fun _ => some p0
def zc6 (rec4 : Int → (List UInt8) → Option (List UInt8))  (x30 : Int) (x34 : List UInt8) : Option (List UInt8) :=
  (if (decide (x30 > 127)) = true then (u8o (orI .u8 (IntKind.u8.wrap x30) 128)).bind fun z51 => (room (x34.length + 1)).bind fun _ => rec4 (shrI .u64 x30 7) (x34 ++ [z51]) else (u8o (IntKind.u8.wrap x30)).bind fun z57 => (room (x34.length + 1)).bind fun _ => some (x34 ++ [z57]))
def zbC  : Nat → Int → (List UInt8) → Option (List UInt8)
  | 0, _, _ => none
  | n + 1, x30, x34 => zc6 (zbC  n)  x30 x34
def zC (p0 : (List UInt8)) (p1 : Int) : Option (List UInt8) :=
  (zbf p0).bind fun c3 => zbC  big p1 c3
def zdq (p1 : Int) : Option (List UInt8) :=
  (if (decide ((IntKind.i64.wrap (p1 - (IntKind.i64.wrap (0 - 0)))) > 0)) = true then (nneg (IntKind.i64.wrap (p1 - (IntKind.i64.wrap (0 - 0))))).bind fun _ => (room (([] : List UInt8).length + Int.toNat (IntKind.i64.wrap (p1 - (IntKind.i64.wrap (0 - 0)))))).bind fun _ => (cutI (([] : List UInt8) ++ List.replicate (Int.toNat (IntKind.i64.wrap (p1 - (IntKind.i64.wrap (0 - 0))))) (0 : UInt8)) 0 0).bind fun y12 => some y12 else some ([]))
def zcA (_n0 : (List UInt8)) (p1 : Int) : Option (List UInt8) :=
  (if (decide (p1 < 0)) = true then none else zdq p1)
def zcW (rec16 : (List UInt8) → Int → Option (List UInt8)) (p0 : (List (List UInt8))) (x211 : List UInt8) (x214 : Int) : Option (List UInt8) :=
  (if (decide (x214 < (p0.length : Int))) = true then (getI p0 x214).bind fun y232 => (room (x211.length + y232.length)).bind fun _ => rec16 (x211 ++ y232) (IntKind.i64.wrap (x214 + 1)) else some x211)
def zbE (p0 : (List (List UInt8))) : Nat → (List UInt8) → Int → Option (List UInt8)
  | 0, _, _ => none
  | n + 1, x211, x214 => zcW (zbE p0 n) p0 x211 x214
def zcO (rec14 : Int → Int → Option (List UInt8)) (p0 : (List (List UInt8))) (x84 : Int) (x86 : Int) : Option (List UInt8) :=
  (if (decide (x86 < (p0.length : Int))) = true then (getI p0 x86).bind fun y168 => (if (decide ((IntKind.i64.wrap (x84 + (y168.length : Int))) < 0)) = true then none else rec14 (IntKind.i64.wrap (x84 + (y168.length : Int))) (IntKind.i64.wrap (x86 + 1))) else (zcA [] x84).bind fun c178 => zbE p0 big c178 0)
def zbs (p0 : (List (List UInt8))) : Nat → Int → Int → Option (List UInt8)
  | 0, _, _ => none
  | n + 1, x84, x86 => zcO (zbs p0 n) p0 x84 x86
def zdd (p0 : (List (List UInt8))) : Option (List UInt8) :=
  zbs p0 big 0 0
def zcj (p0 : (List UInt8)) (p1 : ByteArray) : Option ((List UInt8) × Int) :=
  (if (decide ((p1.size : Int) > 255)) = true then some ([], 1) else (u8o (IntKind.u8.wrap (p1.size : Int))).bind fun z4 => (zdd ([p0, ([z4] : List UInt8), (p1.data.toList)] : List (List UInt8))).bind fun c21 => some (c21, 0))
def zcX (p0 : Int) : Option Bool :=
  some ((decide (p0 ≥ 1)) && (decide (p0 ≤ 3)))
def zbr (rec4 : Int → (List UInt8) → Option (List UInt8))  (x30 : Int) (x34 : List UInt8) : Option (List UInt8) :=
  (if ((decide (x30 > 63)) || (decide (x30 < (-64)))) = true then (u8o (orI .u8 (IntKind.u8.wrap x30) 128)).bind fun z51 => (room (x34.length + 1)).bind fun _ => rec4 (shrI .i64 x30 7) (x34 ++ [z51]) else (u8o (andI .u8 (IntKind.u8.wrap x30) 127)).bind fun z57 => (room (x34.length + 1)).bind fun _ => some (x34 ++ [z57]))
def zbM  : Nat → Int → (List UInt8) → Option (List UInt8)
  | 0, _, _ => none
  | n + 1, x30, x34 => zbr (zbM  n)  x30 x34
def z6 (p0 : (List UInt8)) (p1 : Int) : Option (List UInt8) :=
  (zbf p0).bind fun c3 => zbM  big p1 c3
def zcB (rec4 : (List UInt8) → Int → Option ((List UInt8) × Int)) (p1 : (List zg)) (x54 : List UInt8) (x57 : Int) : Option ((List UInt8) × Int) :=
  (if (decide (x57 < (p1.length : Int))) = true then (getI p1 x57).bind fun y88 => (room (x54.length + 1)).bind fun _ => (zcX (y88.Kind.toNat : Int)).bind fun c99 => (if c99 = true then (z6 (x54 ++ [y88.Kind]) y88.N).bind fun c106 => rec4 c106 (IntKind.i64.wrap (x57 + 1)) else rec4 (x54 ++ [y88.Kind]) (IntKind.i64.wrap (x57 + 1))) else some (x54, 0))
def zbH (p1 : (List zg)) : Nat → (List UInt8) → Int → Option ((List UInt8) × Int)
  | 0, _, _ => none
  | n + 1, x54, x57 => zcB (zbH p1 n) p1 x54 x57
def zcH (p0 : (List UInt8)) (p1 : (List zg)) : Option ((List UInt8) × Int) :=
  (zW p1).bind fun c3 => (if (!c3) = true then some ([], 1) else (zC p0 (IntKind.u64.wrap (p1.length : Int))).bind fun c8 => zbH p1 big c8 0)
def zbU (rec4 : (List UInt8) → Int → Int → Option ((List UInt8) × Int)) (p1 : (List ze)) (x70 : List UInt8) (x72 : Int) (x74 : Int) : Option ((List UInt8) × Int) :=
  (if (decide (x74 < (p1.length : Int))) = true then (getI p1 x74).bind fun y121 => (zC x70 (IntKind.u64.wrap (IntKind.i64.wrap (y121.From - x72)))).bind fun c133 => (zC c133 (IntKind.u64.wrap (IntKind.i64.wrap (y121.To - y121.From)))).bind fun c144 => (zcH c144 y121.At).bind fun c155 => rec4 c155.1 y121.To (IntKind.i64.wrap (x74 + 1)) else some (x70, 0))
def zcZ (p1 : (List ze)) : Nat → (List UInt8) → Int → Int → Option ((List UInt8) × Int)
  | 0, _, _, _ => none
  | n + 1, x70, x72, x74 => zbU (zcZ p1 n) p1 x70 x72 x74
def zbR (p0 : (List UInt8)) (p1 : (List ze)) : Option ((List UInt8) × Int) :=
  (z7 p1).bind fun c3 => (if (!c3) = true then some ([], 1) else (zC p0 (IntKind.u64.wrap (p1.length : Int))).bind fun c8 => zcZ p1 big c8 0 0)
def zM (q0 : zm) (p1 : ByteArray) : Option zm :=
  (zcj q0.b p1).bind fun c5 => some (⟨c5.1⟩ : zm)
def zy (q0 : zm) (p1 : Int) : Option zm :=
  (zC q0.b (IntKind.u64.wrap p1)).bind fun c5 => some (⟨c5⟩ : zm)
def zV (p2 : (List ze)) (x116 : List UInt8) : Option zm :=
  (zbR x116 p2).bind fun c121 => some (⟨c121.1⟩ : zm)
def zcd (rec10 : (List UInt8) → Int → Option zm) (p1 : zh) (p2 : (List ze)) (x184 : List UInt8) (x188 : Int) : Option zm :=
  (if (decide (x188 < (p1.Fields.length : Int))) = true then (getI p1.Fields x188).bind fun y206 => (zM (⟨x184⟩ : zm) y206).bind fun c211 => rec10 c211.b (IntKind.i64.wrap (x188 + 1)) else zV p2 x184)
def zca (p1 : zh) (p2 : (List ze)) : Nat → (List UInt8) → Int → Option zm
  | 0, _, _ => none
  | n + 1, x184, x188 => zcd (zca p1 p2 n) p1 p2 x184 x188
def zbg (q0 : zm) (p1 : zh) (p2 : (List ze)) : Option zm :=
  (zM (⟨q0.b⟩ : zm) p1.Name).bind fun c5 => (room (c5.b.length + ([p1.Type_.Kind] : List UInt8).length)).bind fun _ => (if ((p1.Type_.Kind.toNat : Int) == 3) = true then (zy (⟨(c5.b ++ ([p1.Type_.Kind] : List UInt8))⟩ : zm) p1.Type_.N).bind fun c131 => zV p2 c131.b else (if ((p1.Type_.Kind.toNat : Int) == 4) = true then (zM (⟨(c5.b ++ ([p1.Type_.Kind] : List UInt8))⟩ : zm) p1.Type_.Name).bind fun c141 => (zy (⟨c141.b⟩ : zm) (p1.Fields.length : Int)).bind fun c150 => zca p1 p2 big c150.b 0 else zV p2 (c5.b ++ ([p1.Type_.Kind] : List UInt8))))
def zc7 (rec4 : (List UInt8) → Int → Option zm) (p1 : zc) (x81 : List UInt8) (x86 : Int) : Option zm :=
  (if (decide (x86 < (p1.Vars.length : Int))) = true then (getI p1.Vars x86).bind fun y118 => (getI p1.Spans x86).bind fun y128 => (zbg (⟨x81⟩ : zm) (⟨y118.Name, (⟨y118.Type_.Kind, y118.Type_.N, y118.Type_.Name⟩ : zp), y118.Words, y118.Fields⟩ : zh) y128).bind fun c137 => rec4 c137.b (IntKind.i64.wrap (x86 + 1)) else some (⟨x81⟩ : zm))
def zcC (p1 : zc) : Nat → (List UInt8) → Int → Option zm
  | 0, _, _ => none
  | n + 1, x81, x86 => zc7 (zcC p1 n) p1 x81 x86
def zbj (q0 : zm) (p1 : zc) (p2 : Int) : Option zm :=
  (zM (⟨q0.b⟩ : zm) p1.Name).bind fun c5 => (zy (⟨c5.b⟩ : zm) (IntKind.i64.wrap (p1.From - p2))).bind fun c14 => (zy (⟨c14.b⟩ : zm) (IntKind.i64.wrap (p1.To - p1.From))).bind fun c23 => (zy (⟨c23.b⟩ : zm) (p1.Vars.length : Int)).bind fun c32 => zcC p1 big c32.b 0
def zbp (rec52 : (List UInt8) → Int → Option ((List UInt8) × Int)) (rec50 : (List UInt8) → Int → Option ((List UInt8) × Int)) (x868 : Int) (y970 : zi) (x1032 : List UInt8) (x1036 : Int) : Option ((List UInt8) × Int) :=
  (if (decide (x1036 < (y970.Scope.length : Int))) = true then (getI y970.Scope x1036).bind fun y1054 => (zy (⟨x1032⟩ : zm) y1054).bind fun c1059 => rec52 c1059.b (IntKind.i64.wrap (x1036 + 1)) else rec50 x1032 (IntKind.i64.wrap (x868 + 1)))
def zcm (rec50 : (List UInt8) → Int → Option ((List UInt8) × Int)) (x868 : Int) (y970 : zi) : Nat → (List UInt8) → Int → Option ((List UInt8) × Int)
  | 0, _, _ => none
  | n + 1, x1032, x1036 => zbp (zcm rec50 x868 y970 n) rec50 x868 y970 x1032 x1036
def zcz (rec50 : (List UInt8) → Int → Option ((List UInt8) × Int)) (p2 : (List zi)) (x865 : List UInt8) (x868 : Int) : Option ((List UInt8) × Int) :=
  (if (decide (x868 < (p2.length : Int))) = true then (getI p2 x868).bind fun y970 => (zy (⟨x865⟩ : zm) y970.Func).bind fun c980 => (zy (⟨c980.b⟩ : zm) y970.Line).bind fun c989 => (zy (⟨c989.b⟩ : zm) (y970.Scope.length : Int)).bind fun c998 => zcm rec50 x868 y970 big c998.b 0 else some (x865, 0))
def zF (p2 : (List zi)) : Nat → (List UInt8) → Int → Option ((List UInt8) × Int)
  | 0, _, _ => none
  | n + 1, x865, x868 => zcz (zF p2 n) p2 x865 x868
def zbJ (rec44 : (List UInt8) → Int → Int → Option ((List UInt8) × Int)) (p1 : (List zc)) (p2 : (List zi)) (x374 : List UInt8) (x376 : Int) (x378 : Int) : Option ((List UInt8) × Int) :=
  (if (decide (x378 < (p1.length : Int))) = true then (getI p1 x378).bind fun y725 => (zbj (⟨x374⟩ : zm) (⟨y725.Name, y725.From, y725.To, y725.Vars, y725.Spans⟩ : zc) x376).bind fun c739 => rec44 c739.b y725.To (IntKind.i64.wrap (x378 + 1)) else (zy (⟨x374⟩ : zm) (p2.length : Int)).bind fun c748 => zF p2 big c748.b 0)
def zcb (p1 : (List zc)) (p2 : (List zi)) : Nat → (List UInt8) → Int → Int → Option ((List UInt8) × Int)
  | 0, _, _, _ => none
  | n + 1, x374, x376, x378 => zbJ (zcb p1 p2 n) p1 p2 x374 x376 x378
def zT (p0 : (List UInt8)) (p1 : (List zc)) (p2 : (List zi)) : Option ((List UInt8) × Int) :=
  (zR p1 p2).bind fun c4 => (if (!c4) = true then some ([], 1) else (zC p0 (IntKind.u64.wrap (p1.length : Int))).bind fun c9 => zcb p1 p2 big c9 0 0)
def zcx (rec4 : Int → Int → Option (Int × Int)) (p0 : (List UInt8)) (x18 : Int) (x19 : Int) : Option (Int × Int) :=
  (if (decide (x19 < (minI (p0.length : Int) 10))) = true then (getI p0 x19).bind fun y36 => (shlO .u64 (IntKind.u64.wrap (andI .u8 (y36.toNat : Int) 127)) (IntKind.i64.wrap (7 * x19))).bind fun y41 => (getI p0 x19).bind fun y43 => (if (decide ((y43.toNat : Int) < 128)) = true then some ((orI .u64 x18 y41), (IntKind.i64.wrap (x19 + 1))) else rec4 (orI .u64 x18 y41) (IntKind.i64.wrap (x19 + 1))) else some (0, 0))
def zcc (p0 : (List UInt8)) : Nat → Int → Int → Option (Int × Int)
  | 0, _, _ => none
  | n + 1, x18, x19 => zcx (zcc p0 n) p0 x18 x19
def zcq (p0 : (List UInt8)) : Option (Int × Int) :=
  zcc p0 big 0 0
def zcF (rec4 : Int → Option Bool) (p0 : (List UInt8)) (p1 : (List UInt8)) (x20 : Int) : Option Bool :=
  (if (decide (x20 < (p0.length : Int))) = true then (getI p0 x20).bind fun y35 => (getI p1 x20).bind fun y40 => (if ((y35.toNat : Int) != (y40.toNat : Int)) = true then some false else rec4 (IntKind.i64.wrap (x20 + 1))) else some true)
def zbL (p0 : (List UInt8)) (p1 : (List UInt8)) : Nat → Int → Option Bool
  | 0, _ => none
  | n + 1, x20 => zcF (zbL p0 p1 n) p0 p1 x20
def z9 (p0 : (List UInt8)) (p1 : (List UInt8)) : Option Bool :=
  (if ((p0.length : Int) != (p1.length : Int)) = true then some false else zbL p0 p1 big 0)
def zdw (p0 : Int) (p1 : Int) : Option Int :=
  some p0
def zdy (p0 : (List UInt8)) (p1 : Int) : Option (Int × Int × Int) :=
  (if ((decide (p1 < 0)) || (decide (p1 > (p0.length : Int)))) = true then some (0, 0, 1) else (cutI p0 p1 (p0.length : Int)).bind fun y6 => (zcq y6).bind fun c11 => (zdw c11.1 c11.2).bind fun c15 => ((if (c11.2 == 0) = true then some true else (cutI p0 p1 (IntKind.i64.wrap (p1 + c11.2))).bind fun y22 => (zC [] c15).bind fun c27 => (z9 c27 y22).bind fun c38 => some (!c38))).bind fun c19 => (if c19 = true then some (0, 0, 5) else some (c15, (IntKind.i64.wrap (p1 + c11.2)), 0)))
def zK (p0 : (List UInt8)) (p1 : Int) : Option (Int × Int × Int) :=
  (zdy p0 p1).bind fun c3 => some (c3.1, c3.2.1, c3.2.2)
def zr (q0 : zd) (p1 : Int) : Option (Int × zd) :=
  (zK q0.b q0.at_).bind fun c3 => (if ((q0.failed || (c3.2.2 != 0)) || (decide (c3.1 > (IntKind.u64.wrap p1)))) = true then some (0, (⟨q0.b, q0.at_, true⟩ : zd)) else some ((IntKind.i64.wrap c3.1), (⟨q0.b, c3.2.1, q0.failed⟩ : zd)))
def zP (p0 : (List UInt8)) (p1 : Int) (p2 : Int) : Option ((List UInt8) × Int × Int) :=
  (if ((decide (p1 < 0)) || (decide (p1 > (p0.length : Int)))) = true then some ([], 0, 1) else (cutI p0 p1 (p0.length : Int)).bind fun y5 => (if (decide ((y5.length : Int) ≥ p2)) = true then (cutI y5 0 p2).bind fun y11 => some (y11, (IntKind.i64.wrap (p1 + p2)), 0) else some ([], 0, 5)))
def zN (p0 : (List UInt8)) (p1 : Int) : Option (Int × Int × Int) :=
  (zP p0 p1 1).bind fun c3 => (if (c3.2.2 != 0) = true then some (0, 0, c3.2.2) else (getI c3.1 0).bind fun y12 => some ((y12.toNat : Int), c3.2.1, 0))
def zG (p0 : (List UInt8)) (p1 : Int) : Option (ByteArray × Int × Int) :=
  (zN p0 p1).bind fun c3 => (if (c3.2.2 != 0) = true then some ((⟨#[]⟩ : ByteArray), 0, c3.2.2) else (zP p0 c3.2.1 (IntKind.i64.wrap c3.1)).bind fun c8 => some ((⟨c8.1.toArray⟩ : ByteArray), c8.2.1, c8.2.2))
def zB (q0 : zd) : Option (ByteArray × zd) :=
  (zG q0.b q0.at_).bind fun c2 => (if (q0.failed || (c2.2.2 != 0)) = true then some ((⟨#[]⟩ : ByteArray), (⟨q0.b, q0.at_, true⟩ : zd)) else some (c2.1, (⟨q0.b, c2.2.1, q0.failed⟩ : zd)))
def zJ (q0 : zd) : Option (Int × zd) :=
  (zN q0.b q0.at_).bind fun c2 => (if (q0.failed || (c2.2.2 != 0)) = true then some (0, (⟨q0.b, q0.at_, true⟩ : zd)) else some (c2.1, (⟨q0.b, c2.2.1, q0.failed⟩ : zd)))
def zdE (rec4 : (List UInt8) → Int → Bool → (List ByteArray) → Int → Option ((List ByteArray) × zd))  (x30 : List UInt8) (x32 : Int) (x33 : Bool) (x37 : List ByteArray) (x39 : Int) : Option ((List ByteArray) × zd) :=
  (if ((decide (x39 > 0)) && (!x33)) = true then (zB (⟨x30, x32, x33⟩ : zd)).bind fun c56 => (room (x37.length + 1)).bind fun _ => rec4 c56.2.b c56.2.at_ c56.2.failed (x37 ++ [c56.1]) (IntKind.i64.wrap (x39 - 1)) else some (x37, (⟨x30, x32, x33⟩ : zd)))
def zbl  : Nat → (List UInt8) → Int → Bool → (List ByteArray) → Int → Option ((List ByteArray) × zd)
  | 0, _, _, _, _, _ => none
  | n + 1, x30, x32, x33, x37, x39 => zdE (zbl  n)  x30 x32 x33 x37 x39
def zb7 (q0 : zd) (p1 : Int) : Option ((List ByteArray) × zd) :=
  (zr (⟨q0.b, q0.at_, q0.failed⟩ : zd) p1).bind fun c4 => zbl  big c4.2.b c4.2.at_ c4.2.failed ([]) c4.1
def z0 (q0 : zd) : Option (zh × zd) :=
  (zB (⟨q0.b, q0.at_, q0.failed⟩ : zd)).bind fun c3 => (zJ (⟨c3.2.b, c3.2.at_, c3.2.failed⟩ : zd)).bind fun c12 => (if (c12.1 == 3) = true then (zr (⟨c12.2.b, c12.2.at_, c12.2.failed⟩ : zd) 16).bind fun c21 => (u8o c12.1).bind fun z29 => some ((⟨c3.1, (⟨z29, c21.1, (⟨#[]⟩ : ByteArray)⟩ : zp), c21.1, []⟩ : zh), (⟨c21.2.b, c21.2.at_, c21.2.failed⟩ : zd)) else (if (c12.1 == 4) = true then (zB (⟨c12.2.b, c12.2.at_, c12.2.failed⟩ : zd)).bind fun c31 => (zb7 (⟨c31.2.b, c31.2.at_, c31.2.failed⟩ : zd) 8).bind fun c39 => (u8o c12.1).bind fun z54 => some ((⟨c3.1, (⟨z54, 0, c31.1⟩ : zp), (c39.1.length : Int), c39.1⟩ : zh), (⟨c39.2.b, c39.2.at_, c39.2.failed⟩ : zd)) else (u8o c12.1).bind fun z55 => some ((⟨c3.1, (⟨z55, 0, (⟨#[]⟩ : ByteArray)⟩ : zp), 1, []⟩ : zh), (⟨c12.2.b, c12.2.at_, c12.2.failed⟩ : zd))))
def zbx (p0 : Int) (p1 : Int) : Option Int :=
  (shlO .u64 p0 (maxI 0 (IntKind.i64.wrap (64 - (IntKind.i64.wrap (7 * p1)))))).bind fun y3 => (shrO .i64 (IntKind.i64.wrap y3) (maxI 0 (IntKind.i64.wrap (64 - (IntKind.i64.wrap (7 * p1)))))).bind fun y5 => some y5
def zdA (p0 : (List UInt8)) (p1 : Int) : Option (Int × Int × Int) :=
  (if ((decide (p1 < 0)) || (decide (p1 > (p0.length : Int)))) = true then some (0, 0, 1) else (cutI p0 p1 (p0.length : Int)).bind fun y6 => (zcq y6).bind fun c11 => (zbx c11.1 c11.2).bind fun c15 => ((if (c11.2 == 0) = true then some true else (cutI p0 p1 (IntKind.i64.wrap (p1 + c11.2))).bind fun y22 => (z6 [] c15).bind fun c27 => (z9 c27 y22).bind fun c38 => some (!c38))).bind fun c19 => (if c19 = true then some (0, 0, 5) else some (c15, (IntKind.i64.wrap (p1 + c11.2)), 0)))
def zbG (p0 : (List UInt8)) (p1 : Int) : Option (Int × Int × Int) :=
  (zdA p0 p1).bind fun c3 => some (c3.1, c3.2.1, c3.2.2)
def z2 (rec4 : (List zg) → Int → Int → Option ((List zg) × Int × Int)) (p0 : (List UInt8)) (c4 : Int × Int × Int) (x49 : List zg) (x51 : Int) (x52 : Int) : Option ((List zg) × Int × Int) :=
  (if (decide (x52 < c4.1)) = true then (if (decide (x51 ≥ (p0.length : Int))) = true then some ([], 0, 5) else (getI p0 x51).bind fun y91 => (zcX (y91.toNat : Int)).bind fun c97 => (if c97 = true then (zbG p0 (IntKind.i64.wrap (x51 + 1))).bind fun c102 => (if (c102.2.2 != 0) = true then some ([], 0, 5) else (room (x49.length + 1)).bind fun _ => rec4 (x49 ++ [(⟨y91, c102.1⟩ : zg)]) c102.2.1 (IntKind.u64.wrap (x52 + 1))) else (room (x49.length + 1)).bind fun _ => rec4 (x49 ++ [(⟨y91, 0⟩ : zg)]) (IntKind.i64.wrap (x51 + 1)) (IntKind.u64.wrap (x52 + 1)))) else (zW x49).bind fun c119 => (if (!c119) = true then some ([], 0, 5) else some (x49, x51, 0)))
def zcJ (p0 : (List UInt8)) (c4 : Int × Int × Int) : Nat → (List zg) → Int → Int → Option ((List zg) × Int × Int)
  | 0, _, _, _ => none
  | n + 1, x49, x51, x52 => z2 (zcJ p0 c4 n) p0 c4 x49 x51 x52
def zby (p0 : (List UInt8)) (p1 : Int) : Option ((List zg) × Int × Int) :=
  (if ((decide (p1 < 0)) || (decide (p1 > (p0.length : Int)))) = true then some ([], 0, 1) else (zK p0 p1).bind fun c4 => (if ((c4.2.2 != 0) || (decide (c4.1 > 16))) = true then some ([], 0, 5) else zcJ p0 c4 big ([]) c4.2.1 0))
def zcV (p0 : (List UInt8)) (p1 : Int) (p2 : Int) : Option (ze × Int × Bool) :=
  (zK p0 p1).bind fun c5 => (if ((c5.2.2 != 0) || (decide (c5.1 > 16777216))) = true then some ((⟨0, 0, []⟩ : ze), 0, false) else (zK p0 c5.2.1).bind fun c10 => (if ((c10.2.2 != 0) || (decide (c10.1 > 16777216))) = true then some ((⟨0, 0, []⟩ : ze), 0, false) else (zby p0 c10.2.1).bind fun c15 => some ((⟨(IntKind.i64.wrap (p2 + (IntKind.i64.wrap c5.1))), (IntKind.i64.wrap ((IntKind.i64.wrap (p2 + (IntKind.i64.wrap c5.1))) + (IntKind.i64.wrap c10.1))), c15.1⟩ : ze), c15.2.1, ((c15.2.2 == 0) && (decide ((IntKind.i64.wrap ((IntKind.i64.wrap (p2 + (IntKind.i64.wrap c5.1))) + (IntKind.i64.wrap c10.1))) ≤ 16777216))))))
def z1 (rec4 : (List ze) → Int → Int → Int → Option ((List ze) × Int × Int)) (p0 : (List UInt8)) (c4 : Int × Int × Int) (x42 : List ze) (x44 : Int) (x45 : Int) (x46 : Int) : Option ((List ze) × Int × Int) :=
  (if (decide (x46 < c4.1)) = true then (zcV p0 x44 x45).bind fun c78 => (if (!c78.2.2) = true then some ([], 0, 5) else (room (x42.length + ([(⟨c78.1.From, c78.1.To, c78.1.At⟩ : ze)] : List ze).length)).bind fun _ => rec4 (x42 ++ ([(⟨c78.1.From, c78.1.To, c78.1.At⟩ : ze)] : List ze)) c78.2.1 c78.1.To (IntKind.u64.wrap (x46 + 1))) else (z7 x42).bind fun c101 => (if (!c101) = true then some ([], 0, 5) else some (x42, x44, 0)))
def zbK (p0 : (List UInt8)) (c4 : Int × Int × Int) : Nat → (List ze) → Int → Int → Int → Option ((List ze) × Int × Int)
  | 0, _, _, _, _ => none
  | n + 1, x42, x44, x45, x46 => z1 (zbK p0 c4 n) p0 c4 x42 x44 x45 x46
def zc9 (p0 : (List UInt8)) (p1 : Int) : Option ((List ze) × Int × Int) :=
  (if ((decide (p1 < 0)) || (decide (p1 > (p0.length : Int)))) = true then some ([], 0, 1) else (zK p0 p1).bind fun c4 => (if ((c4.2.2 != 0) || (decide (c4.1 > 4000))) = true then some ([], 0, 5) else zbK p0 c4 big ([]) c4.2.1 0 0))
def z5 (q0 : zd) : Option ((List ze) × zd) :=
  (zc9 q0.b q0.at_).bind fun c2 => (if (q0.failed || (c2.2.2 != 0)) = true then some ([], (⟨q0.b, q0.at_, true⟩ : zd)) else some (c2.1, (⟨q0.b, c2.2.1, q0.failed⟩ : zd)))
def zS (qf0 : zd) (qf1 : zc) : Option (zh × zd × zc) :=
  (z0 (⟨qf0.b, qf0.at_, qf0.failed⟩ : zd)).bind fun c2 => (z5 (⟨c2.2.b, c2.2.at_, c2.2.failed⟩ : zd)).bind fun c15 => (room (qf1.Spans.length + ([c15.1] : List (List ze)).length)).bind fun _ => some ((⟨c2.1.Name, (⟨c2.1.Type_.Kind, c2.1.Type_.N, c2.1.Type_.Name⟩ : zp), c2.1.Words, c2.1.Fields⟩ : zh), (⟨c15.2.b, c15.2.at_, c15.2.failed⟩ : zd), (⟨qf1.Name, qf1.From, qf1.To, qf1.Vars, (qf1.Spans ++ ([c15.1] : List (List ze)))⟩ : zc))
def zdF (rec4 : (List UInt8) → Int → Bool → ByteArray → Int → Int → (List zh) → (List (List ze)) → (List zh) → Int → Option ((List zh) × zd × zc))  (x50 : List UInt8) (x52 : Int) (x53 : Bool) (x55 : ByteArray) (x56 : Int) (x57 : Int) (x60 : List zh) (x65 : List (List ze)) (x70 : List zh) (x72 : Int) : Option ((List zh) × zd × zc) :=
  (if ((decide (x72 > 0)) && (!x53)) = true then (zS (⟨x50, x52, x53⟩ : zd) (⟨x55, x56, x57, x60, x65⟩ : zc)).bind fun c102 => (room (x70.length + 1)).bind fun _ => rec4 c102.2.1.b c102.2.1.at_ c102.2.1.failed c102.2.2.Name c102.2.2.From c102.2.2.To c102.2.2.Vars c102.2.2.Spans (x70 ++ [(⟨c102.1.Name, (⟨c102.1.Type_.Kind, c102.1.Type_.N, c102.1.Type_.Name⟩ : zp), c102.1.Words, c102.1.Fields⟩ : zh)]) (IntKind.i64.wrap (x72 - 1)) else some (x70, (⟨x50, x52, x53⟩ : zd), (⟨x55, x56, x57, x60, x65⟩ : zc)))
def zcs  : Nat → (List UInt8) → Int → Bool → ByteArray → Int → Int → (List zh) → (List (List ze)) → (List zh) → Int → Option ((List zh) × zd × zc)
  | 0, _, _, _, _, _, _, _, _, _, _ => none
  | n + 1, x50, x52, x53, x55, x56, x57, x60, x65, x70, x72 => zdF (zcs  n)  x50 x52 x53 x55 x56 x57 x60 x65 x70 x72
def zcl (q0 : zd) (p1 : Int) (q2_1 : zc) : Option ((List zh) × zd × zc) :=
  (zr (⟨q0.b, q0.at_, q0.failed⟩ : zd) p1).bind fun c4 => zcs  big c4.2.b c4.2.at_ c4.2.failed q2_1.Name q2_1.From q2_1.To q2_1.Vars q2_1.Spans ([]) c4.1
def zbD (x21 : List UInt8) (x23 : Int) (x24 : Bool) (x27 : ByteArray) (x28 : Int) : Option (zc × zd × Int) :=
  (zr (⟨x21, x23, x24⟩ : zd) 16777216).bind fun c29 => (zcl (⟨c29.2.b, c29.2.at_, (c29.2.failed || (decide ((IntKind.i64.wrap (x28 + c29.1)) > 16777216)))⟩ : zd) 64 (⟨x27, x28, (IntKind.i64.wrap (x28 + c29.1)), [], ([] : List (List ze))⟩ : zc)).bind fun c38 => some ((⟨c38.2.2.Name, c38.2.2.From, c38.2.2.To, c38.1, c38.2.2.Spans⟩ : zc), (⟨c38.2.1.b, c38.2.1.at_, c38.2.1.failed⟩ : zd), (IntKind.i64.wrap (x28 + c29.1)))
def zO (qf0 : zd) (qf1 : Int) : Option (zc × zd × Int) :=
  (zB (⟨qf0.b, qf0.at_, qf0.failed⟩ : zd)).bind fun c64 => (zr (⟨c64.2.b, c64.2.at_, c64.2.failed⟩ : zd) 16777216).bind fun c72 => zbD c72.2.b c72.2.at_ c72.2.failed c64.1 (IntKind.i64.wrap (qf1 + c72.1))
def zdS (rec4 : (List UInt8) → Int → Bool → Int → (List zc) → Int → Option ((List zc) × zd × Int))  (x39 : List UInt8) (x41 : Int) (x42 : Bool) (x44 : Int) (x48 : List zc) (x50 : Int) : Option ((List zc) × zd × Int) :=
  (if ((decide (x50 > 0)) && (!x42)) = true then (zO (⟨x39, x41, x42⟩ : zd) x44).bind fun c75 => (room (x48.length + 1)).bind fun _ => rec4 c75.2.1.b c75.2.1.at_ c75.2.1.failed c75.2.2 (x48 ++ [(⟨c75.1.Name, c75.1.From, c75.1.To, c75.1.Vars, c75.1.Spans⟩ : zc)]) (IntKind.i64.wrap (x50 - 1)) else some (x48, (⟨x39, x41, x42⟩ : zd), x44))
def zbB  : Nat → (List UInt8) → Int → Bool → Int → (List zc) → Int → Option ((List zc) × zd × Int)
  | 0, _, _, _, _, _, _ => none
  | n + 1, x39, x41, x42, x44, x48, x50 => zdS (zbB  n)  x39 x41 x42 x44 x48 x50
def zbn (q0 : zd) (p1 : Int) (q2_1 : Int) : Option ((List zc) × zd × Int) :=
  (zr (⟨q0.b, q0.at_, q0.failed⟩ : zd) p1).bind fun c4 => zbB  big c4.2.b c4.2.at_ c4.2.failed q2_1 ([]) c4.1
def zU (qf0 : zd) : Option (Int × zd) :=
  (zr (⟨qf0.b, qf0.at_, qf0.failed⟩ : zd) 64).bind fun c1 => some (c1.1, (⟨c1.2.b, c1.2.at_, c1.2.failed⟩ : zd))
def zdD (rec4 : (List UInt8) → Int → Bool → (List Int) → Int → Option ((List Int) × zd))  (x31 : List UInt8) (x33 : Int) (x34 : Bool) (x39 : List Int) (x41 : Int) : Option ((List Int) × zd) :=
  (if ((decide (x41 > 0)) && (!x34)) = true then (zU (⟨x31, x33, x34⟩ : zd)).bind fun c58 => (room (x39.length + 1)).bind fun _ => rec4 c58.2.b c58.2.at_ c58.2.failed (x39 ++ [c58.1]) (IntKind.i64.wrap (x41 - 1)) else some (x39, (⟨x31, x33, x34⟩ : zd)))
def zbe  : Nat → (List UInt8) → Int → Bool → (List Int) → Int → Option ((List Int) × zd)
  | 0, _, _, _, _, _ => none
  | n + 1, x31, x33, x34, x39, x41 => zdD (zbe  n)  x31 x33 x34 x39 x41
def zcu (q0 : zd) (p1 : Int) : Option ((List Int) × zd) :=
  (zr (⟨q0.b, q0.at_, q0.failed⟩ : zd) p1).bind fun c4 => zbe  big c4.2.b c4.2.at_ c4.2.failed ([]) c4.1
def zb9 (x21 : List UInt8) (x23 : Int) (x24 : Bool) (x27 : Int) (x28 : Int) : Option (zi × zd) :=
  (zcu (⟨x21, x23, x24⟩ : zd) 64).bind fun c29 => some ((⟨x27, x28, c29.1⟩ : zi), (⟨c29.2.b, c29.2.at_, c29.2.failed⟩ : zd))
def zZ (qf0 : zd) : Option (zi × zd) :=
  (zr (⟨qf0.b, qf0.at_, qf0.failed⟩ : zd) 64).bind fun c44 => (zr (⟨c44.2.b, c44.2.at_, c44.2.failed⟩ : zd) 1048576).bind fun c52 => zb9 c52.2.b c52.2.at_ c52.2.failed c44.1 c52.1
def zdC (rec4 : (List UInt8) → Int → Bool → (List zi) → Int → Option ((List zi) × zd))  (x35 : List UInt8) (x37 : Int) (x38 : Bool) (x43 : List zi) (x45 : Int) : Option ((List zi) × zd) :=
  (if ((decide (x45 > 0)) && (!x38)) = true then (zZ (⟨x35, x37, x38⟩ : zd)).bind fun c66 => (room (x43.length + 1)).bind fun _ => rec4 c66.2.b c66.2.at_ c66.2.failed (x43 ++ [(⟨c66.1.Func, c66.1.Line, c66.1.Scope⟩ : zi)]) (IntKind.i64.wrap (x45 - 1)) else some (x43, (⟨x35, x37, x38⟩ : zd)))
def zbk  : Nat → (List UInt8) → Int → Bool → (List zi) → Int → Option ((List zi) × zd)
  | 0, _, _, _, _, _ => none
  | n + 1, x35, x37, x38, x43, x45 => zdC (zbk  n)  x35 x37 x38 x43 x45
def zcn (q0 : zd) (p1 : Int) : Option ((List zi) × zd) :=
  (zr (⟨q0.b, q0.at_, q0.failed⟩ : zd) p1).bind fun c4 => zbk  big c4.2.b c4.2.at_ c4.2.failed ([]) c4.1
def zH (p0 : (List UInt8)) (p1 : Int) : Option ((List zc) × (List zi) × Int × Int) :=
  (if ((decide (p1 < 0)) || (decide (p1 > (p0.length : Int)))) = true then some ([], [], 0, 1) else (zbn (⟨p0, p1, false⟩ : zd) 64 0).bind fun c9 => (zcn (⟨c9.2.1.b, c9.2.1.at_, c9.2.1.failed⟩ : zd) 1000).bind fun c22 => ((if c22.2.failed = true then some true else (zR c9.1 c22.1).bind fun c42 => some (!c42))).bind fun c39 => (if c39 = true then some ([], [], 0, 5) else some (c9.1, c22.1, c22.2.at_, 0)))
def zdJ  : Option zu :=
  some (⟨([(⟨(⟨#[102]⟩ : ByteArray), 0, 9, ([(⟨(⟨#[120]⟩ : ByteArray), (⟨(1 : UInt8), 0, (⟨#[]⟩ : ByteArray)⟩ : zp), 1, []⟩ : zh)] : List zh), ([([(⟨2, 5, ([(⟨(2 : UInt8), 1⟩ : zg)] : List zg)⟩ : ze)] : List ze)] : List (List ze))⟩ : zc)] : List zc), ([(⟨0, 3, ([0] : List Int)⟩ : zi)] : List zi)⟩ : zu)
def zbb  : Option Bool :=
  (zdJ ).bind fun c1 => (zT [] c1.L c1.Points).bind fun c14 => (zH c14.1 0).bind fun c25 => (zdM c25.1 8).bind fun c37 => (zdP c25.1 c25.2.1 0 (⟨#[120]⟩ : ByteArray)).bind fun c41 => ((if ((((c14.2 == 0) && ((c14.1.length : Int) == 20)) && (c25.2.2.2 == 0)) && (c25.2.2.1 == 20)) = true then (zbh c25.1 c1.L).bind fun c48 => some c48 else some false)).bind fun c45 => ((if c45 = true then (zbd c25.2.1 c1.Points).bind fun c55 => some c55 else some false)).bind fun c52 => some ((((c52 && (c37.1 == 0)) && c37.2) && (c41.1 == 0)) && c41.2)
def zbP (p0 : (List zg)) : Option (List zg) :=
  (room (([] : List zg).length + p0.length)).bind fun _ => some (([] : List zg) ++ p0)
def zb6 (rec4 : (List ze) → Int → Option (List ze)) (p0 : (List ze)) (x52 : List ze) (x54 : Int) : Option (List ze) :=
  (if (decide (x54 < (p0.length : Int))) = true then (getI p0 x54).bind fun y101 => (getI p0 x54).bind fun y110 => (getI p0 x54).bind fun y119 => (zbP y119.At).bind fun c128 => (room (x52.length + 1)).bind fun _ => rec4 (x52 ++ [(⟨y101.From, y110.To, c128⟩ : ze)]) (IntKind.i64.wrap (x54 + 1)) else some x52)
def zcY (p0 : (List ze)) : Nat → (List ze) → Int → Option (List ze)
  | 0, _, _ => none
  | n + 1, x52, x54 => zb6 (zcY p0 n) p0 x52 x54
def zdi (p0 : (List ze)) : Option (List ze) :=
  zcY p0 big ([]) 0
def zb8 (rec52 : (List zc) → (List zh) → (List (List ze)) → Int → Option (List zc)) (rec44 : (List zc) → Int → Option (List zc)) (p0 : (List zc)) (x869 : Int) (y1763 : zc) (y1776 : zc) (y1789 : zc) (x2505 : List zc) (x2510 : List zh) (x2515 : List (List ze)) (x2517 : Int) : Option (List zc) :=
  (getI p0 x869).bind fun y2586 => (if (decide (x2517 < (y2586.Spans.length : Int))) = true then (getI p0 x869).bind fun y2600 => (getI y2600.Spans x2517).bind fun y2613 => (zdi y2613).bind fun c2622 => (room (x2515.length + ([c2622] : List (List ze)).length)).bind fun _ => rec52 x2505 x2510 (x2515 ++ ([c2622] : List (List ze))) (IntKind.i64.wrap (x2517 + 1)) else (room (x2505.length + 1)).bind fun _ => rec44 (x2505 ++ [(⟨y1763.Name, y1776.From, y1789.To, x2510, x2515⟩ : zc)]) (IntKind.i64.wrap (x869 + 1)))
def zcg (rec44 : (List zc) → Int → Option (List zc)) (p0 : (List zc)) (x869 : Int) (y1763 : zc) (y1776 : zc) (y1789 : zc) : Nat → (List zc) → (List zh) → (List (List ze)) → Int → Option (List zc)
  | 0, _, _, _, _ => none
  | n + 1, x2505, x2510, x2515, x2517 => zb8 (zcg rec44 p0 x869 y1763 y1776 y1789 n) rec44 p0 x869 y1763 y1776 y1789 x2505 x2510 x2515 x2517
def zcv (rec50 : (List zc) → (List zh) → Int → Option (List zc)) (rec44 : (List zc) → Int → Option (List zc)) (p0 : (List zc)) (x869 : Int) (y1763 : zc) (y1776 : zc) (y1789 : zc) (x2080 : List zc) (x2085 : List zh) (x2087 : Int) : Option (List zc) :=
  (getI p0 x869).bind fun y2371 => (if (decide (x2087 < (y2371.Vars.length : Int))) = true then (getI p0 x869).bind fun y2385 => (getI y2385.Vars x2087).bind fun y2398 => (room (([] : List ByteArray).length + y2398.Fields.length)).bind fun _ => (room (x2085.length + 1)).bind fun _ => rec50 x2080 (x2085 ++ [(⟨y2398.Name, (⟨y2398.Type_.Kind, y2398.Type_.N, y2398.Type_.Name⟩ : zp), y2398.Words, (([] : List ByteArray) ++ y2398.Fields)⟩ : zh)]) (IntKind.i64.wrap (x2087 + 1)) else zcg rec44 p0 x869 y1763 y1776 y1789 big x2080 x2085 ([]) 0)
def zcE (rec44 : (List zc) → Int → Option (List zc)) (p0 : (List zc)) (x869 : Int) (y1763 : zc) (y1776 : zc) (y1789 : zc) : Nat → (List zc) → (List zh) → Int → Option (List zc)
  | 0, _, _, _ => none
  | n + 1, x2080, x2085, x2087 => zcv (zcE rec44 p0 x869 y1763 y1776 y1789 n) rec44 p0 x869 y1763 y1776 y1789 x2080 x2085 x2087
def zc5 (rec44 : (List zc) → Int → Option (List zc)) (p0 : (List zc)) (x867 : List zc) (x869 : Int) : Option (List zc) :=
  (if (decide (x869 < (p0.length : Int))) = true then (getI p0 x869).bind fun y1763 => (getI p0 x869).bind fun y1776 => (getI p0 x869).bind fun y1789 => zcE rec44 p0 x869 y1763 y1776 y1789 big x867 ([]) 0 else some x867)
def zA (p0 : (List zc)) : Nat → (List zc) → Int → Option (List zc)
  | 0, _, _ => none
  | n + 1, x867, x869 => zc5 (zA p0 n) p0 x867 x869
def zdk (p0 : (List zc)) : Option (List zc) :=
  zA p0 big ([]) 0
def zcf (rec4 : (List zi) → Int → Option (List zi)) (p0 : (List zi)) (x52 : List zi) (x54 : Int) : Option (List zi) :=
  (if (decide (x54 < (p0.length : Int))) = true then (getI p0 x54).bind fun y101 => (getI p0 x54).bind fun y110 => (getI p0 x54).bind fun y119 => (room (([] : List Int).length + y119.Scope.length)).bind fun _ => (room (x52.length + 1)).bind fun _ => rec4 (x52 ++ [(⟨y101.Func, y110.Line, (([] : List Int) ++ y119.Scope)⟩ : zi)]) (IntKind.i64.wrap (x54 + 1)) else some x52)
def zci (p0 : (List zi)) : Nat → (List zi) → Int → Option (List zi)
  | 0, _, _ => none
  | n + 1, x52, x54 => zcf (zci p0 n) p0 x52 x54
def zdz (p0 : (List zi)) : Option (List zi) :=
  zci p0 big ([]) 0
def zbY (rec4 : (List UInt8) → Int → Option (List UInt8)) (p0 : (List UInt8)) (x18 : List UInt8) (x21 : Int) : Option (List UInt8) :=
  (if (decide (x21 < (p0.length : Int))) = true then (getI p0 x21).bind fun y35 => (room (x18.length + 1)).bind fun _ => rec4 (x18 ++ [y35]) (IntKind.i64.wrap (x21 + 1)) else some x18)
def zcN (p0 : (List UInt8)) : Nat → (List UInt8) → Int → Option (List UInt8)
  | 0, _, _ => none
  | n + 1, x18, x21 => zbY (zcN p0 n) p0 x18 x21
def zdf (p0 : (List UInt8)) : Option (List UInt8) :=
  zcN p0 big ([]) 0
def zbo (p2 : (List UInt8)) : Option Bool :=
  (zH p2 0).bind fun c101 => (if (c101.2.2.2 != 0) = true then ((if ((((c101.1.length : Int) == 0) && ((c101.2.1.length : Int) == 0)) && (c101.2.2.1 == 0)) = true then (zbb ).bind fun c117 => some c117 else some false)).bind fun c114 => some c114 else (zT [] c101.1 c101.2.1).bind fun c121 => (zR c101.1 c101.2.1).bind fun c130 => ((if (((c130 && (c121.2 == 0)) && (decide (c101.2.2.1 ≥ 2))) && (decide (c101.2.2.1 ≤ (p2.length : Int)))) = true then (cutI p2 0 c101.2.2.1).bind fun y139 => (zck c121.1 y139).bind fun c144 => some c144 else some false)).bind fun c136 => ((if c136 = true then (zbb ).bind fun c151 => some c151 else some false)).bind fun c148 => some c148)
def zdj (p0 : (List UInt8)) (p1 : zu) (p2 : (List UInt8)) : Option Bool :=
  ((if ((decide ((p0.length : Int) > 1024)) || (decide ((p2.length : Int) > 4096))) = true then some true else (zbi (⟨p1.L, p1.Points⟩ : zu)).bind fun c8 => some c8)).bind fun c5 => (if c5 = true then (zbb ).bind fun c13 => some c13 else (zdk p1.L).bind fun c17 => (zdz p1.Points).bind fun c26 => (zT p0 c17 c26).bind fun c39 => (zR p1.L p1.Points).bind fun c48 => (if (!((c39.2 == 0) == c48)) = true then some false else (if (c39.2 == 0) = true then (zdf c39.1).bind fun c158 => (room (c158.length + p2.length)).bind fun _ => (zH (c158 ++ p2) (p0.length : Int)).bind fun c174 => ((if ((c174.2.2.2 != 0) || (c174.2.2.1 != (c39.1.length : Int))) = true then some true else (zbh c174.1 p1.L).bind fun c189 => some (!c189))).bind fun c186 => ((if c186 = true then some true else (zbd c174.2.1 p1.Points).bind fun c196 => some (!c196))).bind fun c193 => (if c193 = true then some false else zbo p2) else (if ((c39.1.length : Int) != 0) = true then some false else zbo p2))))
end Go.Proofs.Ytckcngkkofemjaa
