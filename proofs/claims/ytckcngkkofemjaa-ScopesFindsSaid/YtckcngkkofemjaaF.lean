import Derived.Test.YtckcngkkofemjaaAd
import Derived.Test.YtckcngkkofemjaaFM
namespace Go.Proofs.Ytckcngkkofemjaa
open Go.Ab Go.RowKit
set_option linter.unusedVariables false
set_option linter.unusedSimpArgs false
set_option maxRecDepth 10000
set_option maxHeartbeats 1000000
structure zd where
  Kind : UInt8
  N : Int
  deriving DecidableEq
def zn : Ty zd where
  sz := 2
  R := fun σ x cs => cs = [.int .u8 x.Kind.toNat, .int .i64 x.N]
  len := by rintro σ x cs rfl; rfl
  one := by rintro σ x cs rfl; rfl
  mono := by rintro σ σ' x cs hle rfl; rfl
structure zc where
  From : Int
  To : Int
  At : (List zd)
  deriving DecidableEq
def zh : Ty zc where
  sz := 3
  R := fun σ x cs => ∃ v2, cs = [.int .i64 x.From, .int .i64 x.To, v2] ∧ RdT zn σ v2 x.At
  len := by rintro σ x cs ⟨v2, rfl, h0⟩; rfl
  one := by rintro σ x cs ⟨v2, rfl, h0⟩; obtain ⟨_, ⟨_, _, rfl, _⟩, _⟩ := h0; rfl
  mono := by rintro σ σ' x cs hle ⟨v2, rfl, h0⟩; exact ⟨v2, rfl, h0.le hle⟩
structure zl where
  Kind : UInt8
  N : Int
  Name : ByteArray
  deriving DecidableEq
def zes : Ty zl where
  sz := 3
  R := fun σ x cs => cs = [.int .u8 x.Kind.toNat, .int .i64 x.N, .string x.Name]
  len := by rintro σ x cs rfl; rfl
  one := by rintro σ x cs rfl; rfl
  mono := by rintro σ σ' x cs hle rfl; rfl
structure zf where
  Name : ByteArray
  Type_ : zl
  Words : Int
  Fields : (List ByteArray)
  deriving DecidableEq
def zk : Ty zf where
  sz := 6
  R := fun σ x cs => ∃ v5, cs = [.string x.Name, .int .u8 x.Type_.Kind.toNat, .int .i64 x.Type_.N, .string x.Type_.Name, .int .i64 x.Words, v5] ∧ RdT Ty.str σ v5 x.Fields
  len := by rintro σ x cs ⟨v5, rfl, h0⟩; rfl
  one := by rintro σ x cs ⟨v5, rfl, h0⟩; obtain ⟨_, ⟨_, _, rfl, _⟩, _⟩ := h0; rfl
  mono := by rintro σ σ' x cs hle ⟨v5, rfl, h0⟩; exact ⟨v5, rfl, h0.le hle⟩
structure za where
  Name : ByteArray
  From : Int
  To : Int
  Vars : (List zf)
  Spans : (List (List zc))
  deriving DecidableEq
def zg : Ty za where
  sz := 5
  R := fun σ x cs => ∃ v3 v4, cs = [.string x.Name, .int .i64 x.From, .int .i64 x.To, v3, v4] ∧ RdT zk σ v3 x.Vars ∧ RdT (Ty.slice zh) σ v4 x.Spans
  len := by rintro σ x cs ⟨v3, v4, rfl, h0, h1⟩; rfl
  one := by rintro σ x cs ⟨v3, v4, rfl, h0, h1⟩; obtain ⟨_, ⟨_, _, rfl, _⟩, _⟩ := h0; obtain ⟨_, ⟨_, _, rfl, _⟩, _⟩ := h1; rfl
  mono := by rintro σ σ' x cs hle ⟨v3, v4, rfl, h0, h1⟩; exact ⟨v3, v4, rfl, h0.le hle, h1.le hle⟩
structure ze where
  Func : Int
  Line : Int
  Scope : (List Int)
  deriving DecidableEq
def zi : Ty ze where
  sz := 3
  R := fun σ x cs => ∃ v2, cs = [.int .i64 x.Func, .int .i64 x.Line, v2] ∧ RdT (Ty.int .i64) σ v2 x.Scope
  len := by rintro σ x cs ⟨v2, rfl, h0⟩; rfl
  one := by rintro σ x cs ⟨v2, rfl, h0⟩; obtain ⟨_, ⟨_, _, rfl, _⟩, _⟩ := h0; rfl
  mono := by rintro σ σ' x cs hle ⟨v2, rfl, h0⟩; exact ⟨v2, rfl, h0.le hle⟩
structure zp where
  L : (List za)
  Points : (List ze)
  deriving DecidableEq
def ze0 : Ty zp where
  sz := 2
  R := fun σ x cs => ∃ v0 v1, cs = [v0, v1] ∧ RdT zg σ v0 x.L ∧ RdT zi σ v1 x.Points
  len := by rintro σ x cs ⟨v0, v1, rfl, h0, h1⟩; rfl
  one := by rintro σ x cs ⟨v0, v1, rfl, h0, h1⟩; obtain ⟨_, ⟨_, _, rfl, _⟩, _⟩ := h0; obtain ⟨_, ⟨_, _, rfl, _⟩, _⟩ := h1; rfl
  mono := by rintro σ σ' x cs hle ⟨v0, v1, rfl, h0, h1⟩; exact ⟨v0, v1, rfl, h0.le hle, h1.le hle⟩
structure zce where
  deriving DecidableEq
structure zcn where
  deriving DecidableEq
structure zb5 where
  deriving DecidableEq
inductive zm where
  | nil : zm
  | c_number (a : Int) : zm
  | c_reg (a : Int) : zm
  | c_base (a : Int) : zm
  | c_word (a : zce) : zm
  | c_add (a : zcn) : zm
  | c_neg (a : zb5) : zm
  deriving DecidableEq
def zq : zm → Value
  | .nil => .nilIface
  | .c_number a => .iface 139 (.int .i64 a)
  | .c_reg a => .iface 140 (.int .i64 a)
  | .c_base a => .iface 141 (.int .i64 a)
  | .c_word a => .iface 143 (.agg #[])
  | .c_add a => .iface 144 (.agg #[])
  | .c_neg a => .iface 145 (.agg #[])
theorem zd6 (x : zm) : one (zq x) = true := by cases x <;> rfl
theorem zea (x : zm) : (zq x).cells.toList = [zq x] := by cases x <;> rfl
def zb3 : Ty zm where
  sz := 1
  R := fun σ x cs => cs = [zq x]
  len := by rintro σ x cs rfl; rfl
  one := by rintro σ x cs rfl; simp [zd6]
  mono := by rintro σ σ' x cs hle rfl; rfl
structure zj where
  b : (List UInt8)
  deriving DecidableEq
structure zb where
  b : (List UInt8)
  at_ : Int
  failed : Bool
  deriving DecidableEq
def zbc (rec4 : Int → Int → Option Bool) (p0 : (List zc)) (x24 : Int) (x25 : Int) : Option Bool :=
  (if ((decide (x25 < (p0.length : Int))) && (decide (x25 ≤ 5000))) = true then (getI p0 x25).bind fun y48 => (getI p0 x25).bind fun y57 => (if (decide ((y57.At.length : Int) > 1000)) = true then some true else rec4 (IntKind.i64.wrap (x24 + (minI (y48.At.length : Int) 1000))) (IntKind.i64.wrap (x25 + 1))) else some ((decide ((p0.length : Int) > 5000)) || (decide (x24 > 20000))))
def zbC (p0 : (List zc)) : Nat → Int → Int → Option Bool
  | 0, _, _ => none
  | n + 1, x24, x25 => zbc (zbC p0 n) p0 x24 x25
def zbM (p0 : (List zc)) : Option Bool :=
  zbC p0 big 0 0
def z3 (rec96 : Int → Option Bool) (rec94 : Int → Int → Option Bool) (y1394 : za) (x1624 : Int) (x1627 : Int) (y1839 : zf) (x1903 : Int) : Option Bool :=
  (getI y1394.Vars x1627).bind fun y1930 => (if (decide (x1903 < (y1930.Fields.length : Int))) = true then (getI y1394.Vars x1627).bind fun y1940 => (getI y1940.Fields x1903).bind fun y1949 => (if (decide ((y1949.size : Int) > 1000)) = true then some true else rec96 (IntKind.i64.wrap (x1903 + 1))) else rec94 (IntKind.i64.wrap (x1624 + (minI (y1839.Fields.length : Int) 32768))) (IntKind.i64.wrap (x1627 + 1)))
def zbo (rec94 : Int → Int → Option Bool) (y1394 : za) (x1624 : Int) (x1627 : Int) (y1839 : zf) : Nat → Int → Option Bool
  | 0, _ => none
  | n + 1, x1903 => z3 (zbo rec94 y1394 x1624 x1627 y1839 n) rec94 y1394 x1624 x1627 y1839 x1903
def z0 (rec98 : Int → Int → Option Bool) (rec84 : Int → Int → Option Bool) (x700 : Int) (y1394 : za) (x1988 : Int) (x1991 : Int) : Option Bool :=
  (if (decide (x1991 < (y1394.Spans.length : Int))) = true then (getI y1394.Spans x1991).bind fun y2021 => ((if (decide ((IntKind.i64.wrap (x1988 + (minI (y2021.length : Int) 32768))) > 2000)) = true then some true else (getI y1394.Spans x1991).bind fun y2033 => (zbM y2033).bind fun c2042 => some c2042)).bind fun c2030 => (if c2030 = true then some true else rec98 (IntKind.i64.wrap (x1988 + (minI (y2021.length : Int) 32768))) (IntKind.i64.wrap (x1991 + 1))) else rec84 x1988 (IntKind.i64.wrap (x700 + 1)))
def zW (rec84 : Int → Int → Option Bool) (x700 : Int) (y1394 : za) : Nat → Int → Int → Option Bool
  | 0, _, _ => none
  | n + 1, x1988, x1991 => z0 (zW rec84 x700 y1394 n) rec84 x700 y1394 x1988 x1991
def zR (rec94 : Int → Int → Option Bool) (rec84 : Int → Int → Option Bool) (x700 : Int) (y1394 : za) (x1624 : Int) (x1627 : Int) : Option Bool :=
  (if (decide (x1627 < (y1394.Vars.length : Int))) = true then (getI y1394.Vars x1627).bind fun y1839 => (getI y1394.Vars x1627).bind fun y1848 => ((if (decide ((y1848.Name.size : Int) > 1000)) = true then some true else (getI y1394.Vars x1627).bind fun y1860 => some (decide ((y1860.Type_.Name.size : Int) > 1000)))).bind fun c1857 => (if (c1857 || (decide ((IntKind.i64.wrap (x1624 + (minI (y1839.Fields.length : Int) 32768))) > 2000))) = true then some true else zbo rec94 y1394 x1624 x1627 y1839 big 0) else zW rec84 x700 y1394 big x1624 0)
def zB (rec84 : Int → Int → Option Bool) (x700 : Int) (y1394 : za) : Nat → Int → Int → Option Bool
  | 0, _, _ => none
  | n + 1, x1624, x1627 => zR (zB rec84 x700 y1394 n) rec84 x700 y1394 x1624 x1627
def zbu (rec100 : Int → Int → Option Bool) (p0 : zp) (x2061 : Int) (x2062 : Int) : Option Bool :=
  (if (decide (x2062 < (p0.Points.length : Int))) = true then (getI p0.Points x2062).bind fun y2075 => rec100 (IntKind.i64.wrap (x2061 + (minI (y2075.Scope.length : Int) 32768))) (IntKind.i64.wrap (x2062 + 1)) else some (decide (x2061 > 20000)))
def zbb (p0 : zp) : Nat → Int → Int → Option Bool
  | 0, _, _ => none
  | n + 1, x2061, x2062 => zbu (zbb p0 n) p0 x2061 x2062
def zbe (rec84 : Int → Int → Option Bool) (p0 : zp) (x699 : Int) (x700 : Int) : Option Bool :=
  (if (decide (x700 < (p0.L.length : Int))) = true then (getI p0.L x700).bind fun y1394 => (if (((decide ((y1394.Name.size : Int) > 1000)) || (decide ((y1394.Vars.length : Int) > 100))) || (decide ((y1394.Spans.length : Int) > 100))) = true then some true else zB rec84 x700 y1394 big x699 0) else zbb p0 big x699 0)
def zs (p0 : zp) : Nat → Int → Int → Option Bool
  | 0, _, _ => none
  | n + 1, x699, x700 => zbe (zs p0 n) p0 x699 x700
def zL (p0 : zp) : Option Bool :=
  (if ((decide ((p0.L.length : Int) > 100)) || (decide ((p0.Points.length : Int) > 1100))) = true then some true else zs p0 big 0 0)
def zbk (rec4 : Int → Option (Int × Bool)) (p0 : (List za)) (p1 : Int) (x21 : Int) : Option (Int × Bool) :=
  (if (decide (x21 < (p0.length : Int))) = true then (getI p0 x21).bind fun y40 => (if ((decide (y40.From ≤ p1)) && (decide (p1 < y40.To))) = true then some (x21, true) else rec4 (IntKind.i64.wrap (x21 + 1))) else some (0, false))
def zbs (p0 : (List za)) (p1 : Int) : Nat → Int → Option (Int × Bool)
  | 0, _ => none
  | n + 1, x21 => zbk (zbs p0 p1 n) p0 p1 x21
def zbd (p0 : (List za)) (p1 : Int) : Option (Int × Bool) :=
  zbs p0 p1 big 0
def zbf (rec4 : Int → Bool → Int → Option (Int × Bool)) (p0 : (List za)) (p3 : ByteArray) (y6 : ze) (x53 : Int) (x54 : Bool) (x57 : Int) : Option (Int × Bool) :=
  (if (decide (x57 < (y6.Scope.length : Int))) = true then (getI y6.Scope x57).bind fun y92 => (getI p0 y6.Func).bind fun y97 => ((if ((decide (y92 ≥ 0)) && (decide (y92 < (y97.Vars.length : Int)))) = true then (getI y97.Vars y92).bind fun y113 => some (strEq y113.Name p3) else some false)).bind fun c110 => (if c110 = true then rec4 y92 true (IntKind.i64.wrap (x57 + 1)) else rec4 x53 x54 (IntKind.i64.wrap (x57 + 1))) else some (x53, x54))
def zV (p0 : (List za)) (p3 : ByteArray) (y6 : ze) : Nat → Int → Bool → Int → Option (Int × Bool)
  | 0, _, _, _ => none
  | n + 1, x53, x54, x57 => zbf (zV p0 p3 y6 n) p0 p3 y6 x53 x54 x57
def zH (p0 : (List za)) (p1 : (List ze)) (p2 : Int) (p3 : ByteArray) : Option (Int × Bool) :=
  (if ((decide (p2 < 0)) || (decide (p2 ≥ (p1.length : Int)))) = true then some (0, false) else (getI p1 p2).bind fun y6 => (if ((decide (y6.Func < 0)) || (decide (y6.Func ≥ (p0.length : Int)))) = true then some (0, false) else zV p0 p3 y6 big 0 false 0))
def zO (rec4 : Int → Option Bool) (p0 : zf) (p1 : zf) (x22 : Int) : Option Bool :=
  (if (decide (x22 < (p0.Fields.length : Int))) = true then (getI p0.Fields x22).bind fun y37 => (getI p1.Fields x22).bind fun y42 => (if (!(strEq y37 y42)) = true then some false else rec4 (IntKind.i64.wrap (x22 + 1))) else some true)
def zbj (p0 : zf) (p1 : zf) : Nat → Int → Option Bool
  | 0, _ => none
  | n + 1, x22 => zO (zbj p0 p1 n) p0 p1 x22
def zN (p0 : zf) (p1 : zf) : Option Bool :=
  (if ((((!(strEq p0.Name p1.Name)) || (!(( (p0.Type_.Kind.toNat : Int) == (p1.Type_.Kind.toNat : Int)) && (( p0.Type_.N == p1.Type_.N) && ((strEq p0.Type_.Name p1.Type_.Name) && true))))) || (p0.Words != p1.Words)) || ((p0.Fields.length : Int) != (p1.Fields.length : Int))) = true then some false else zbj p0 p1 big 0)
def zbg (rec4 : Int → Option Bool) (p0 : (List zd)) (p1 : (List zd)) (x20 : Int) : Option Bool :=
  (if (decide (x20 < (p0.length : Int))) = true then (getI p0 x20).bind fun y35 => (getI p1 x20).bind fun y40 => (if (!(( (y35.Kind.toNat : Int) == (y40.Kind.toNat : Int)) && (( y35.N == y40.N) && true))) = true then some false else rec4 (IntKind.i64.wrap (x20 + 1))) else some true)
def zT (p0 : (List zd)) (p1 : (List zd)) : Nat → Int → Option Bool
  | 0, _ => none
  | n + 1, x20 => zbg (zT p0 p1 n) p0 p1 x20
def zbw (p0 : (List zd)) (p1 : (List zd)) : Option Bool :=
  (if ((p0.length : Int) != (p1.length : Int)) = true then some false else zT p0 p1 big 0)
def zbq (rec4 : Int → Option Bool) (p0 : (List zc)) (p1 : (List zc)) (x74 : Int) : Option Bool :=
  (if (decide (x74 < (p0.length : Int))) = true then (getI p0 x74).bind fun y143 => (getI p1 x74).bind fun y152 => ((if (y143.From != y152.From) = true then some true else (getI p0 x74).bind fun y164 => (getI p1 x74).bind fun y173 => some (y164.To != y173.To))).bind fun c161 => ((if c161 = true then some true else (getI p0 x74).bind fun y185 => (getI p1 x74).bind fun y194 => (zbw y185.At y194.At).bind fun c203 => some (!c203))).bind fun c182 => (if c182 = true then some false else rec4 (IntKind.i64.wrap (x74 + 1))) else some true)
def z6 (p0 : (List zc)) (p1 : (List zc)) : Nat → Int → Option Bool
  | 0, _ => none
  | n + 1, x74 => zbq (z6 p0 p1 n) p0 p1 x74
def zbv (p0 : (List zc)) (p1 : (List zc)) : Option Bool :=
  (if ((p0.length : Int) != (p1.length : Int)) = true then some false else z6 p0 p1 big 0)
def z2 (rec52 : Int → Option Bool) (rec44 : Int → Option Bool) (p0 : (List za)) (p1 : (List za)) (x932 : Int) (x2654 : Int) : Option Bool :=
  (getI p0 x932).bind fun y2719 => (if (decide (x2654 < (y2719.Spans.length : Int))) = true then (getI p0 x932).bind fun y2733 => (getI y2733.Spans x2654).bind fun y2746 => (getI p1 x932).bind fun y2755 => (getI y2755.Spans x2654).bind fun y2768 => (zbv y2746 y2768).bind fun c2777 => (if (!c2777) = true then some false else rec52 (IntKind.i64.wrap (x2654 + 1))) else rec44 (IntKind.i64.wrap (x932 + 1)))
def zbl (rec44 : Int → Option Bool) (p0 : (List za)) (p1 : (List za)) (x932 : Int) : Nat → Int → Option Bool
  | 0, _ => none
  | n + 1, x2654 => z2 (zbl rec44 p0 p1 x932 n) rec44 p0 p1 x932 x2654
def zby (rec50 : Int → Option Bool) (rec44 : Int → Option Bool) (p0 : (List za)) (p1 : (List za)) (x932 : Int) (x2264 : Int) : Option Bool :=
  (getI p0 x932).bind fun y2524 => (if (decide (x2264 < (y2524.Vars.length : Int))) = true then (getI p0 x932).bind fun y2538 => (getI y2538.Vars x2264).bind fun y2551 => (getI p1 x932).bind fun y2560 => (getI y2560.Vars x2264).bind fun y2573 => (zN (⟨y2551.Name, (⟨y2551.Type_.Kind, y2551.Type_.N, y2551.Type_.Name⟩ : zl), y2551.Words, y2551.Fields⟩ : zf) (⟨y2573.Name, (⟨y2573.Type_.Kind, y2573.Type_.N, y2573.Type_.Name⟩ : zl), y2573.Words, y2573.Fields⟩ : zf)).bind fun c2582 => (if (!c2582) = true then some false else rec50 (IntKind.i64.wrap (x2264 + 1))) else zbl rec44 p0 p1 x932 big 0)
def zY (rec44 : Int → Option Bool) (p0 : (List za)) (p1 : (List za)) (x932 : Int) : Nat → Int → Option Bool
  | 0, _ => none
  | n + 1, x2264 => zby (zY rec44 p0 p1 x932 n) rec44 p0 p1 x932 x2264
def z7 (rec44 : Int → Option Bool) (p0 : (List za)) (p1 : (List za)) (x932 : Int) : Option Bool :=
  (if (decide (x932 < (p0.length : Int))) = true then (getI p0 x932).bind fun y1859 => (getI p1 x932).bind fun y1872 => ((if (!(strEq y1859.Name y1872.Name)) = true then some true else (getI p0 x932).bind fun y1888 => (getI p1 x932).bind fun y1901 => some (y1888.From != y1901.From))).bind fun c1885 => ((if c1885 = true then some true else (getI p0 x932).bind fun y1917 => (getI p1 x932).bind fun y1930 => some (y1917.To != y1930.To))).bind fun c1914 => ((if c1914 = true then some true else (getI p0 x932).bind fun y1946 => (getI p1 x932).bind fun y1959 => some ((y1946.Vars.length : Int) != (y1959.Vars.length : Int)))).bind fun c1943 => ((if c1943 = true then some true else (getI p0 x932).bind fun y1975 => (getI p1 x932).bind fun y1988 => some ((y1975.Spans.length : Int) != (y1988.Spans.length : Int)))).bind fun c1972 => (if c1972 = true then some false else zY rec44 p0 p1 x932 big 0) else some true)
def zu (p0 : (List za)) (p1 : (List za)) : Nat → Int → Option Bool
  | 0, _ => none
  | n + 1, x932 => z7 (zu p0 p1 n) p0 p1 x932
def zI (p0 : (List za)) (p1 : (List za)) : Option Bool :=
  (if ((p0.length : Int) != (p1.length : Int)) = true then some false else zu p0 p1 big 0)
def zbz (rec16 : Int → Option Bool) (rec14 : Int → Option Bool) (p0 : (List ze)) (p1 : (List ze)) (x193 : Int) (x485 : Int) : Option Bool :=
  (getI p0 x193).bind fun y526 => (if (decide (x485 < (y526.Scope.length : Int))) = true then (getI p0 x193).bind fun y536 => (getI y536.Scope x485).bind fun y545 => (getI p1 x193).bind fun y550 => (getI y550.Scope x485).bind fun y559 => (if (y545 != y559) = true then some false else rec16 (IntKind.i64.wrap (x485 + 1))) else rec14 (IntKind.i64.wrap (x193 + 1)))
def zQ (rec14 : Int → Option Bool) (p0 : (List ze)) (p1 : (List ze)) (x193 : Int) : Nat → Int → Option Bool
  | 0, _ => none
  | n + 1, x485 => zbz (zQ rec14 p0 p1 x193 n) rec14 p0 p1 x193 x485
def zU (rec14 : Int → Option Bool) (p0 : (List ze)) (p1 : (List ze)) (x193 : Int) : Option Bool :=
  (if (decide (x193 < (p0.length : Int))) = true then (getI p0 x193).bind fun y381 => (getI p1 x193).bind fun y390 => ((if (y381.Func != y390.Func) = true then some true else (getI p0 x193).bind fun y402 => (getI p1 x193).bind fun y411 => some (y402.Line != y411.Line))).bind fun c399 => ((if c399 = true then some true else (getI p0 x193).bind fun y423 => (getI p1 x193).bind fun y432 => some ((y423.Scope.length : Int) != (y432.Scope.length : Int)))).bind fun c420 => (if c420 = true then some false else zQ rec14 p0 p1 x193 big 0) else some true)
def zz (p0 : (List ze)) (p1 : (List ze)) : Nat → Int → Option Bool
  | 0, _ => none
  | n + 1, x193 => zU (zz p0 p1 n) p0 p1 x193
def zM (p0 : (List ze)) (p1 : (List ze)) : Option Bool :=
  (if ((p0.length : Int) != (p1.length : Int)) = true then some false else zz p0 p1 big 0)
def zcT (rec4 : Int → Option Bool) (p0 : ByteArray) (x21 : Int) : Option Bool :=
  (if (decide (x21 < ((p0.data.toList).length : Int))) = true then (getI (p0.data.toList) x21).bind fun y37 => (if ((decide ((y37.toNat : Int) ≥ 97)) && (decide ((y37.toNat : Int) ≤ 122))) = true then (if ((decide ((y37.toNat : Int) ≥ 97)) && (decide ((y37.toNat : Int) ≤ 122))) = true then rec4 (IntKind.i64.wrap (x21 + 1)) else some false) else (if ((decide ((y37.toNat : Int) ≥ 65)) && (decide ((y37.toNat : Int) ≤ 90))) = true then (if ((decide ((y37.toNat : Int) ≥ 65)) && (decide ((y37.toNat : Int) ≤ 90))) = true then rec4 (IntKind.i64.wrap (x21 + 1)) else some false) else (if ((decide ((y37.toNat : Int) ≥ 48)) && (decide ((y37.toNat : Int) ≤ 57))) = true then (if ((decide ((y37.toNat : Int) ≥ 48)) && (decide ((y37.toNat : Int) ≤ 57))) = true then rec4 (IntKind.i64.wrap (x21 + 1)) else some false) else (if ((y37.toNat : Int) == 95) = true then rec4 (IntKind.i64.wrap (x21 + 1)) else some false)))) else some ((decide ((p0.size : Int) ≥ 1)) && (decide ((p0.size : Int) ≤ 24))))
def zb7 (p0 : ByteArray) : Nat → Int → Option Bool
  | 0, _ => none
  | n + 1, x21 => zcT (zb7 p0 n) p0 x21
def zJ (p0 : ByteArray) : Option Bool :=
  zb7 p0 big 0
def zcI (rec6 : Bool → Int → Option Bool) (p0 : zf) (x32 : Bool) (x34 : Int) : Option Bool :=
  (if (decide (x34 < (p0.Fields.length : Int))) = true then (getI p0.Fields x34).bind fun y50 => ((if x32 = true then (zJ y50).bind fun c58 => some c58 else some false)).bind fun c55 => rec6 c55 (IntKind.i64.wrap (x34 + 1)) else some x32)
def zb1 (p0 : zf) : Nat → Bool → Int → Option Bool
  | 0, _, _ => none
  | n + 1, x32, x34 => zcI (zb1 p0 n) p0 x32 x34
def zcb (p0 : zf) (x10 : Bool) : Option Bool :=
  (if x10 = true then some ((((strEq p0.Type_.Name (⟨#[]⟩ : ByteArray)) && ((p0.Fields.length : Int) == 0)) && (p0.Type_.N == 0)) && (p0.Words == 1)) else (if ((p0.Type_.Kind.toNat : Int) == 3) = true then some (((((strEq p0.Type_.Name (⟨#[]⟩ : ByteArray)) && ((p0.Fields.length : Int) == 0)) && (decide (p0.Type_.N ≥ 1))) && (decide (p0.Type_.N ≤ 16))) && (p0.Words == p0.Type_.N)) else (if ((p0.Type_.Kind.toNat : Int) == 4) = true then (zJ p0.Type_.Name).bind fun c14 => zb1 p0 big ((((c14 && (p0.Type_.N == 0)) && (p0.Words == (p0.Fields.length : Int))) && (decide (p0.Words ≥ 1))) && (decide (p0.Words ≤ 8))) 0 else some false)))
def zcQ (p0 : zf) : Option Bool :=
  (zJ p0.Name).bind fun c3 => (if (!c3) = true then some false else (if ((p0.Type_.Kind.toNat : Int) == 1) = true then zcb p0 ((p0.Type_.Kind.toNat : Int) == 1) else zcb p0 ((p0.Type_.Kind.toNat : Int) == 2)))
def zcH (p0 : zd) : Option (zm × Bool) :=
  (if ((p0.Kind.toNat : Int) == 1) = true then some ((zm.c_number p0.N), true) else (if ((p0.Kind.toNat : Int) == 2) = true then some ((zm.c_reg p0.N), ((decide (p0.N ≥ 0)) && (decide (p0.N < 16)))) else (if ((p0.Kind.toNat : Int) == 3) = true then some ((zm.c_base p0.N), true) else (if ((p0.Kind.toNat : Int) == 4) = true then some ((zm.c_word (⟨⟩ : zce)), (p0.N == 0)) else (if ((p0.Kind.toNat : Int) == 5) = true then some ((zm.c_add (⟨⟩ : zcn)), (p0.N == 0)) else (if ((p0.Kind.toNat : Int) == 6) = true then some ((zm.c_neg (⟨⟩ : zb5)), (p0.N == 0)) else some (zm.nil, false)))))))
def zda (p0 : Int) : Option Int :=
  some 0
def zc4 (p0 : Int) : Option Int :=
  some 0
def zcG (p0 : Int) : Option Int :=
  some 0
def zcA (p0 : zce) : Option Int :=
  some 1
def zdp (p0 : zcn) : Option Int :=
  some 2
def zdu (p0 : zb5) : Option Int :=
  some 1
def zdq (x : zm)  : Option Int :=
  match x with
  | .nil => none
  | .c_number a => zda a
  | .c_reg a => zc4 a
  | .c_base a => zcG a
  | .c_word a => zcA a
  | .c_add a => zdp a
  | .c_neg a => zdu a
def zdm (rec4 : (List zm) → Int → Int → Option ((List zm) × Bool)) (p0 : (List zd)) (x42 : List zm) (x44 : Int) (x46 : Int) : Option ((List zm) × Bool) :=
  (if (decide (x46 < (p0.length : Int))) = true then (getI p0 x46).bind fun y82 => (zcH (⟨y82.Kind, y82.N⟩ : zd)).bind fun c88 => ((if (!c88.2) = true then some true else (zdq c88.1).bind fun c95 => some (decide (c95 > x44)))).bind fun c92 => (if c92 = true then some ([], false) else (zdq c88.1).bind fun c100 => (if (decide ((IntKind.i64.wrap (x44 + (IntKind.i64.wrap (1 - c100)))) > 8)) = true then some ([], false) else (room (x42.length + 1)).bind fun _ => rec4 (x42 ++ [c88.1]) (IntKind.i64.wrap (x44 + (IntKind.i64.wrap (1 - c100)))) (IntKind.i64.wrap (x46 + 1)))) else ((if (decide ((p0.length : Int) ≤ 16)) = true then (if ((p0.length : Int) == 0) = true then some true else some (x44 == 1)) else some false)).bind fun c110 => some (x42, c110))
def zbN (p0 : (List zd)) : Nat → (List zm) → Int → Int → Option ((List zm) × Bool)
  | 0, _, _, _ => none
  | n + 1, x42, x44, x46 => zdm (zbN p0 n) p0 x42 x44 x46
def zcB (p0 : (List zd)) : Option ((List zm) × Bool) :=
  zbN p0 big ([]) 0 0
def zbp (p0 : (List zd)) : Option Bool :=
  (zcB p0).bind fun c2 => some c2.2
def zc6 (rec4 : Int → Int → Option Bool) (p0 : (List zc)) (x24 : Int) (x26 : Int) : Option Bool :=
  (if (decide (x26 < (p0.length : Int))) = true then (getI p0 x26).bind fun y48 => ((if ((((decide (y48.From < x24)) || (decide (y48.To ≤ y48.From))) || (decide (y48.To > 16777216))) || ((y48.At.length : Int) == 0)) = true then some true else (zbp y48.At).bind fun c61 => some (!c61))).bind fun c58 => (if c58 = true then some false else rec4 y48.To (IntKind.i64.wrap (x26 + 1))) else some (decide ((p0.length : Int) ≤ 4000)))
def zb2 (p0 : (List zc)) : Nat → Int → Int → Option Bool
  | 0, _, _ => none
  | n + 1, x24, x26 => zc6 (zb2 p0 n) p0 x24 x26
def zbx (p0 : (List zc)) : Option Bool :=
  zb2 p0 big 0 0
def zcM (rec4 : Int → Option Bool) (p0 : za) (x70 : Int) : Option Bool :=
  (if (decide (x70 < (p0.Vars.length : Int))) = true then (getI p0.Vars x70).bind fun y128 => (getI p0.Spans x70).bind fun y138 => (zcQ (⟨y128.Name, (⟨y128.Type_.Kind, y128.Type_.N, y128.Type_.Name⟩ : zl), y128.Words, y128.Fields⟩ : zf)).bind fun c147 => ((if (!c147) = true then some true else (zbx y138).bind fun c154 => some (!c154))).bind fun c151 => (if c151 = true then some false else ((if (decide ((y138.length : Int) > 0)) = true then (getI y138 0).bind fun y162 => (if (decide (y162.From < p0.From)) = true then some true else (getI y138 (IntKind.i64.wrap ((y138.length : Int) - 1))).bind fun y172 => some (decide (y172.To > p0.To))) else some false)).bind fun c159 => (if c159 = true then some false else rec4 (IntKind.i64.wrap (x70 + 1)))) else some true)
def zbV (p0 : za) : Nat → Int → Option Bool
  | 0, _ => none
  | n + 1, x70 => zcM (zbV p0 n) p0 x70
def zcs (p0 : za) (p1 : Int) : Option Bool :=
  (zJ p0.Name).bind fun c4 => (if ((((((!c4) || (decide (p0.From < p1))) || (decide (p0.To ≤ p0.From))) || (decide (p0.To > 16777216))) || (decide ((p0.Vars.length : Int) > 64))) || ((p0.Spans.length : Int) != (p0.Vars.length : Int))) = true then some false else zbV p0 big 0)
def zcv (rec4 : Int → Int → Option Bool) (p0 : ze) (p1 : (List za)) (x33 : Int) (x35 : Int) : Option Bool :=
  (if (decide (x35 < (p0.Scope.length : Int))) = true then (getI p0.Scope x35).bind fun y61 => ((if (decide (y61 ≤ x33)) = true then some true else (getI p1 p0.Func).bind fun y69 => some (decide (y61 ≥ (y69.Vars.length : Int))))).bind fun c66 => (if c66 = true then some false else rec4 y61 (IntKind.i64.wrap (x35 + 1))) else some true)
def zbS (p0 : ze) (p1 : (List za)) : Nat → Int → Int → Option Bool
  | 0, _, _ => none
  | n + 1, x33, x35 => zcv (zbS p0 p1 n) p0 p1 x33 x35
def zc1 (p0 : ze) (p1 : (List za)) : Option Bool :=
  (if ((((decide (p0.Func < 0)) || (decide (p0.Func ≥ (p1.length : Int)))) || (decide (p0.Line < 1))) || (decide (p0.Line > 1048576))) = true then some false else zbS p0 p1 big (-1) 0)
def zdE (rec16 : Int → Option Bool) (p0 : (List za)) (p1 : (List ze)) (x206 : Int) : Option Bool :=
  (if (decide (x206 < (p1.length : Int))) = true then (getI p1 x206).bind fun y225 => (zc1 (⟨y225.Func, y225.Line, y225.Scope⟩ : ze) p0).bind fun c235 => (if (!c235) = true then some false else rec16 (IntKind.i64.wrap (x206 + 1))) else some ((decide ((p0.length : Int) ≤ 64)) && (decide ((p1.length : Int) ≤ 1000))))
def zbJ (p0 : (List za)) (p1 : (List ze)) : Nat → Int → Option Bool
  | 0, _ => none
  | n + 1, x206 => zdE (zbJ p0 p1 n) p0 p1 x206
def zcK (rec14 : Int → Int → Option Bool) (p0 : (List za)) (p1 : (List ze)) (x84 : Int) (x86 : Int) : Option Bool :=
  (if (decide (x86 < (p0.length : Int))) = true then (getI p0 x86).bind fun y165 => (zcs (⟨y165.Name, y165.From, y165.To, y165.Vars, y165.Spans⟩ : za) x84).bind fun c179 => (if (!c179) = true then some false else rec14 y165.To (IntKind.i64.wrap (x86 + 1))) else zbJ p0 p1 big 0)
def zbQ (p0 : (List za)) (p1 : (List ze)) : Nat → Int → Int → Option Bool
  | 0, _, _ => none
  | n + 1, x84, x86 => zcK (zbQ p0 p1 n) p0 p1 x84 x86
def zbT (p0 : (List za)) (p1 : (List ze)) : Option Bool :=
  zbQ p0 p1 big 0 0
def zb6 (p0 : (List UInt8)) : Option (List UInt8) := (room p0.length).bind fun _ => some p0
def zcO (rec4 : Int → (List UInt8) → Option (List UInt8))  (x30 : Int) (x34 : List UInt8) : Option (List UInt8) :=
  (if (decide (x30 > 127)) = true then (u8o (orI .u8 (IntKind.u8.wrap x30) 128)).bind fun z51 => (room (x34.length + 1)).bind fun _ => rec4 (shrI .u64 x30 7) (x34 ++ [z51]) else (u8o (IntKind.u8.wrap x30)).bind fun z57 => (room (x34.length + 1)).bind fun _ => some (x34 ++ [z57]))
def zco  : Nat → Int → (List UInt8) → Option (List UInt8)
  | 0, _, _ => none
  | n + 1, x30, x34 => zcO (zco  n)  x30 x34
def zA (p0 : (List UInt8)) (p1 : Int) : Option (List UInt8) :=
  (zb6 p0).bind fun c3 => zco  big p1 c3
def zdn (p1 : Int) : Option (List UInt8) :=
  (if (decide ((IntKind.i64.wrap (p1 - (IntKind.i64.wrap (0 - 0)))) > 0)) = true then (nneg (IntKind.i64.wrap (p1 - (IntKind.i64.wrap (0 - 0))))).bind fun _ => (room (([] : List UInt8).length + Int.toNat (IntKind.i64.wrap (p1 - (IntKind.i64.wrap (0 - 0)))))).bind fun _ => (cutI (([] : List UInt8) ++ List.replicate (Int.toNat (IntKind.i64.wrap (p1 - (IntKind.i64.wrap (0 - 0))))) (0 : UInt8)) 0 0).bind fun y12 => some y12 else some ([]))
def zcD (_n0 : (List UInt8)) (p1 : Int) : Option (List UInt8) :=
  (if (decide (p1 < 0)) = true then none else zdn p1)
def zcu (rec16 : (List UInt8) → Int → Option (List UInt8)) (p0 : (List (List UInt8))) (x211 : List UInt8) (x214 : Int) : Option (List UInt8) :=
  (if (decide (x214 < (p0.length : Int))) = true then (getI p0 x214).bind fun y232 => (room (x211.length + y232.length)).bind fun _ => rec16 (x211 ++ y232) (IntKind.i64.wrap (x214 + 1)) else some x211)
def zbF (p0 : (List (List UInt8))) : Nat → (List UInt8) → Int → Option (List UInt8)
  | 0, _, _ => none
  | n + 1, x211, x214 => zcu (zbF p0 n) p0 x211 x214
def zcR (rec14 : Int → Int → Option (List UInt8)) (p0 : (List (List UInt8))) (x84 : Int) (x86 : Int) : Option (List UInt8) :=
  (if (decide (x86 < (p0.length : Int))) = true then (getI p0 x86).bind fun y168 => (if (decide ((IntKind.i64.wrap (x84 + (y168.length : Int))) < 0)) = true then none else rec14 (IntKind.i64.wrap (x84 + (y168.length : Int))) (IntKind.i64.wrap (x86 + 1))) else (zcD [] x84).bind fun c178 => zbF p0 big c178 0)
def zcc (p0 : (List (List UInt8))) : Nat → Int → Int → Option (List UInt8)
  | 0, _, _ => none
  | n + 1, x84, x86 => zcR (zcc p0 n) p0 x84 x86
def zdi (p0 : (List (List UInt8))) : Option (List UInt8) :=
  zcc p0 big 0 0
def zdr (p0 : (List UInt8)) (p1 : ByteArray) : Option ((List UInt8) × Int) :=
  (if (decide ((p1.size : Int) > 255)) = true then some ([], 1) else (u8o (IntKind.u8.wrap (p1.size : Int))).bind fun z4 => (zdi ([p0, ([z4] : List UInt8), (p1.data.toList)] : List (List UInt8))).bind fun c21 => some (c21, 0))
def zch (p0 : Int) : Option Bool :=
  some ((decide (p0 ≥ 1)) && (decide (p0 ≤ 3)))
def zdC (rec4 : Int → (List UInt8) → Option (List UInt8))  (x30 : Int) (x34 : List UInt8) : Option (List UInt8) :=
  (if ((decide (x30 > 63)) || (decide (x30 < (-64)))) = true then (u8o (orI .u8 (IntKind.u8.wrap x30) 128)).bind fun z51 => (room (x34.length + 1)).bind fun _ => rec4 (shrI .i64 x30 7) (x34 ++ [z51]) else (u8o (andI .u8 (IntKind.u8.wrap x30) 127)).bind fun z57 => (room (x34.length + 1)).bind fun _ => some (x34 ++ [z57]))
def zbG  : Nat → Int → (List UInt8) → Option (List UInt8)
  | 0, _, _ => none
  | n + 1, x30, x34 => zdC (zbG  n)  x30 x34
def zcg (p0 : (List UInt8)) (p1 : Int) : Option (List UInt8) :=
  (zb6 p0).bind fun c3 => zbG  big p1 c3
def zdB (rec4 : (List UInt8) → Int → Option ((List UInt8) × Int)) (p1 : (List zd)) (x54 : List UInt8) (x57 : Int) : Option ((List UInt8) × Int) :=
  (if (decide (x57 < (p1.length : Int))) = true then (getI p1 x57).bind fun y88 => (room (x54.length + 1)).bind fun _ => (zch (y88.Kind.toNat : Int)).bind fun c99 => (if c99 = true then (zcg (x54 ++ [y88.Kind]) y88.N).bind fun c106 => rec4 c106 (IntKind.i64.wrap (x57 + 1)) else rec4 (x54 ++ [y88.Kind]) (IntKind.i64.wrap (x57 + 1))) else some (x54, 0))
def zbK (p1 : (List zd)) : Nat → (List UInt8) → Int → Option ((List UInt8) × Int)
  | 0, _, _ => none
  | n + 1, x54, x57 => zdB (zbK p1 n) p1 x54 x57
def zcF (p0 : (List UInt8)) (p1 : (List zd)) : Option ((List UInt8) × Int) :=
  (zbp p1).bind fun c3 => (if (!c3) = true then some ([], 1) else (zA p0 (IntKind.u64.wrap (p1.length : Int))).bind fun c8 => zbK p1 big c8 0)
def zcz (rec4 : (List UInt8) → Int → Int → Option ((List UInt8) × Int)) (p1 : (List zc)) (x70 : List UInt8) (x72 : Int) (x74 : Int) : Option ((List UInt8) × Int) :=
  (if (decide (x74 < (p1.length : Int))) = true then (getI p1 x74).bind fun y121 => (zA x70 (IntKind.u64.wrap (IntKind.i64.wrap (y121.From - x72)))).bind fun c133 => (zA c133 (IntKind.u64.wrap (IntKind.i64.wrap (y121.To - y121.From)))).bind fun c144 => (zcF c144 y121.At).bind fun c155 => rec4 c155.1 y121.To (IntKind.i64.wrap (x74 + 1)) else some (x70, 0))
def zcf (p1 : (List zc)) : Nat → (List UInt8) → Int → Int → Option ((List UInt8) × Int)
  | 0, _, _, _ => none
  | n + 1, x70, x72, x74 => zcz (zcf p1 n) p1 x70 x72 x74
def zds (p0 : (List UInt8)) (p1 : (List zc)) : Option ((List UInt8) × Int) :=
  (zbx p1).bind fun c3 => (if (!c3) = true then some ([], 1) else (zA p0 (IntKind.u64.wrap (p1.length : Int))).bind fun c8 => zcf p1 big c8 0 0)
def zK (q0 : zj) (p1 : ByteArray) : Option zj :=
  (zdr q0.b p1).bind fun c5 => some (⟨c5.1⟩ : zj)
def zw (q0 : zj) (p1 : Int) : Option zj :=
  (zA q0.b (IntKind.u64.wrap p1)).bind fun c5 => some (⟨c5⟩ : zj)
def zbr (p2 : (List zc)) (x116 : List UInt8) : Option zj :=
  (zds x116 p2).bind fun c121 => some (⟨c121.1⟩ : zj)
def zcW (rec10 : (List UInt8) → Int → Option zj) (p1 : zf) (p2 : (List zc)) (x184 : List UInt8) (x188 : Int) : Option zj :=
  (if (decide (x188 < (p1.Fields.length : Int))) = true then (getI p1.Fields x188).bind fun y206 => (zK (⟨x184⟩ : zj) y206).bind fun c211 => rec10 c211.b (IntKind.i64.wrap (x188 + 1)) else zbr p2 x184)
def zbI (p1 : zf) (p2 : (List zc)) : Nat → (List UInt8) → Int → Option zj
  | 0, _, _ => none
  | n + 1, x184, x188 => zcW (zbI p1 p2 n) p1 p2 x184 x188
def zdb (q0 : zj) (p1 : zf) (p2 : (List zc)) : Option zj :=
  (zK (⟨q0.b⟩ : zj) p1.Name).bind fun c5 => (room (c5.b.length + ([p1.Type_.Kind] : List UInt8).length)).bind fun _ => (if ((p1.Type_.Kind.toNat : Int) == 3) = true then (zw (⟨(c5.b ++ ([p1.Type_.Kind] : List UInt8))⟩ : zj) p1.Type_.N).bind fun c131 => zbr p2 c131.b else (if ((p1.Type_.Kind.toNat : Int) == 4) = true then (zK (⟨(c5.b ++ ([p1.Type_.Kind] : List UInt8))⟩ : zj) p1.Type_.Name).bind fun c141 => (zw (⟨c141.b⟩ : zj) (p1.Fields.length : Int)).bind fun c150 => zbI p1 p2 big c150.b 0 else zbr p2 (c5.b ++ ([p1.Type_.Kind] : List UInt8))))
def zdA (rec4 : (List UInt8) → Int → Option zj) (p1 : za) (x81 : List UInt8) (x86 : Int) : Option zj :=
  (if (decide (x86 < (p1.Vars.length : Int))) = true then (getI p1.Vars x86).bind fun y118 => (getI p1.Spans x86).bind fun y128 => (zdb (⟨x81⟩ : zj) (⟨y118.Name, (⟨y118.Type_.Kind, y118.Type_.N, y118.Type_.Name⟩ : zl), y118.Words, y118.Fields⟩ : zf) y128).bind fun c137 => rec4 c137.b (IntKind.i64.wrap (x86 + 1)) else some (⟨x81⟩ : zj))
def zcp (p1 : za) : Nat → (List UInt8) → Int → Option zj
  | 0, _, _ => none
  | n + 1, x81, x86 => zdA (zcp p1 n) p1 x81 x86
def zde (q0 : zj) (p1 : za) (p2 : Int) : Option zj :=
  (zK (⟨q0.b⟩ : zj) p1.Name).bind fun c5 => (zw (⟨c5.b⟩ : zj) (IntKind.i64.wrap (p1.From - p2))).bind fun c14 => (zw (⟨c14.b⟩ : zj) (IntKind.i64.wrap (p1.To - p1.From))).bind fun c23 => (zw (⟨c23.b⟩ : zj) (p1.Vars.length : Int)).bind fun c32 => zcp p1 big c32.b 0
def zc2 (rec52 : (List UInt8) → Int → Option ((List UInt8) × Int)) (rec50 : (List UInt8) → Int → Option ((List UInt8) × Int)) (x868 : Int) (y970 : ze) (x1032 : List UInt8) (x1036 : Int) : Option ((List UInt8) × Int) :=
  (if (decide (x1036 < (y970.Scope.length : Int))) = true then (getI y970.Scope x1036).bind fun y1054 => (zw (⟨x1032⟩ : zj) y1054).bind fun c1059 => rec52 c1059.b (IntKind.i64.wrap (x1036 + 1)) else rec50 x1032 (IntKind.i64.wrap (x868 + 1)))
def zbY (rec50 : (List UInt8) → Int → Option ((List UInt8) × Int)) (x868 : Int) (y970 : ze) : Nat → (List UInt8) → Int → Option ((List UInt8) × Int)
  | 0, _, _ => none
  | n + 1, x1032, x1036 => zc2 (zbY rec50 x868 y970 n) rec50 x868 y970 x1032 x1036
def zcx (rec50 : (List UInt8) → Int → Option ((List UInt8) × Int)) (p2 : (List ze)) (x865 : List UInt8) (x868 : Int) : Option ((List UInt8) × Int) :=
  (if (decide (x868 < (p2.length : Int))) = true then (getI p2 x868).bind fun y970 => (zw (⟨x865⟩ : zj) y970.Func).bind fun c980 => (zw (⟨c980.b⟩ : zj) y970.Line).bind fun c989 => (zw (⟨c989.b⟩ : zj) (y970.Scope.length : Int)).bind fun c998 => zbY rec50 x868 y970 big c998.b 0 else some (x865, 0))
def zE (p2 : (List ze)) : Nat → (List UInt8) → Int → Option ((List UInt8) × Int)
  | 0, _, _ => none
  | n + 1, x865, x868 => zcx (zE p2 n) p2 x865 x868
def zcC (rec44 : (List UInt8) → Int → Int → Option ((List UInt8) × Int)) (p1 : (List za)) (p2 : (List ze)) (x374 : List UInt8) (x376 : Int) (x378 : Int) : Option ((List UInt8) × Int) :=
  (if (decide (x378 < (p1.length : Int))) = true then (getI p1 x378).bind fun y725 => (zde (⟨x374⟩ : zj) (⟨y725.Name, y725.From, y725.To, y725.Vars, y725.Spans⟩ : za) x376).bind fun c739 => rec44 c739.b y725.To (IntKind.i64.wrap (x378 + 1)) else (zw (⟨x374⟩ : zj) (p2.length : Int)).bind fun c748 => zE p2 big c748.b 0)
def zcq (p1 : (List za)) (p2 : (List ze)) : Nat → (List UInt8) → Int → Int → Option ((List UInt8) × Int)
  | 0, _, _, _ => none
  | n + 1, x374, x376, x378 => zcC (zcq p1 p2 n) p1 p2 x374 x376 x378
def zc9 (p0 : (List UInt8)) (p1 : (List za)) (p2 : (List ze)) : Option ((List UInt8) × Int) :=
  (zbT p1 p2).bind fun c4 => (if (!c4) = true then some ([], 1) else (zA p0 (IntKind.u64.wrap (p1.length : Int))).bind fun c9 => zcq p1 p2 big c9 0 0)
def zdh (rec4 : Int → Int → Option (Int × Int)) (p0 : (List UInt8)) (x18 : Int) (x19 : Int) : Option (Int × Int) :=
  (if (decide (x19 < (minI (p0.length : Int) 10))) = true then (getI p0 x19).bind fun y36 => (shlO .u64 (IntKind.u64.wrap (andI .u8 (y36.toNat : Int) 127)) (IntKind.i64.wrap (7 * x19))).bind fun y41 => (getI p0 x19).bind fun y43 => (if (decide ((y43.toNat : Int) < 128)) = true then some ((orI .u64 x18 y41), (IntKind.i64.wrap (x19 + 1))) else rec4 (orI .u64 x18 y41) (IntKind.i64.wrap (x19 + 1))) else some (0, 0))
def zci (p0 : (List UInt8)) : Nat → Int → Int → Option (Int × Int)
  | 0, _, _ => none
  | n + 1, x18, x19 => zdh (zci p0 n) p0 x18 x19
def zbH (p0 : (List UInt8)) : Option (Int × Int) :=
  zci p0 big 0 0
def zdy (rec4 : Int → Option Bool) (p0 : (List UInt8)) (p1 : (List UInt8)) (x20 : Int) : Option Bool :=
  (if (decide (x20 < (p0.length : Int))) = true then (getI p0 x20).bind fun y35 => (getI p1 x20).bind fun y40 => (if ((y35.toNat : Int) != (y40.toNat : Int)) = true then some false else rec4 (IntKind.i64.wrap (x20 + 1))) else some true)
def zck (p0 : (List UInt8)) (p1 : (List UInt8)) : Nat → Int → Option Bool
  | 0, _ => none
  | n + 1, x20 => zdy (zck p0 p1 n) p0 p1 x20
def zcm (p0 : (List UInt8)) (p1 : (List UInt8)) : Option Bool :=
  (if ((p0.length : Int) != (p1.length : Int)) = true then some false else zck p0 p1 big 0)
def zdg (p0 : Int) (p1 : Int) : Option Int :=
  some p0
def zcJ (p0 : (List UInt8)) (p1 : Int) : Option (Int × Int × Int) :=
  (if ((decide (p1 < 0)) || (decide (p1 > (p0.length : Int)))) = true then some (0, 0, 1) else (cutI p0 p1 (p0.length : Int)).bind fun y6 => (zbH y6).bind fun c11 => (zdg c11.1 c11.2).bind fun c15 => ((if (c11.2 == 0) = true then some true else (cutI p0 p1 (IntKind.i64.wrap (p1 + c11.2))).bind fun y22 => (zA [] c15).bind fun c27 => (zcm c27 y22).bind fun c38 => some (!c38))).bind fun c19 => (if c19 = true then some (0, 0, 5) else some (c15, (IntKind.i64.wrap (p1 + c11.2)), 0)))
def zD (p0 : (List UInt8)) (p1 : Int) : Option (Int × Int × Int) :=
  (zcJ p0 p1).bind fun c3 => some (c3.1, c3.2.1, c3.2.2)
def zt (q0 : zb) (p1 : Int) : Option (Int × zb) :=
  (zD q0.b q0.at_).bind fun c3 => (if ((q0.failed || (c3.2.2 != 0)) || (decide (c3.1 > (IntKind.u64.wrap p1)))) = true then some (0, (⟨q0.b, q0.at_, true⟩ : zb)) else some ((IntKind.i64.wrap c3.1), (⟨q0.b, c3.2.1, q0.failed⟩ : zb)))
def zbZ (p0 : (List UInt8)) (p1 : Int) (p2 : Int) : Option ((List UInt8) × Int × Int) :=
  (if ((decide (p1 < 0)) || (decide (p1 > (p0.length : Int)))) = true then some ([], 0, 1) else (cutI p0 p1 (p0.length : Int)).bind fun y5 => (if (decide ((y5.length : Int) ≥ p2)) = true then (cutI y5 0 p2).bind fun y11 => some (y11, (IntKind.i64.wrap (p1 + p2)), 0) else some ([], 0, 5)))
def zcr (p0 : (List UInt8)) (p1 : Int) : Option (Int × Int × Int) :=
  (zbZ p0 p1 1).bind fun c3 => (if (c3.2.2 != 0) = true then some (0, 0, c3.2.2) else (getI c3.1 0).bind fun y12 => some ((y12.toNat : Int), c3.2.1, 0))
def zcL (p0 : (List UInt8)) (p1 : Int) : Option (ByteArray × Int × Int) :=
  (zcr p0 p1).bind fun c3 => (if (c3.2.2 != 0) = true then some ((⟨#[]⟩ : ByteArray), 0, c3.2.2) else (zbZ p0 c3.2.1 (IntKind.i64.wrap c3.1)).bind fun c8 => some ((⟨c8.1.toArray⟩ : ByteArray), c8.2.1, c8.2.2))
def zG (q0 : zb) : Option (ByteArray × zb) :=
  (zcL q0.b q0.at_).bind fun c2 => (if (q0.failed || (c2.2.2 != 0)) = true then some ((⟨#[]⟩ : ByteArray), (⟨q0.b, q0.at_, true⟩ : zb)) else some (c2.1, (⟨q0.b, c2.2.1, q0.failed⟩ : zb)))
def zcY (q0 : zb) : Option (Int × zb) :=
  (zcr q0.b q0.at_).bind fun c2 => (if (q0.failed || (c2.2.2 != 0)) = true then some (0, (⟨q0.b, q0.at_, true⟩ : zb)) else some (c2.1, (⟨q0.b, c2.2.1, q0.failed⟩ : zb)))
def zcX (rec4 : (List UInt8) → Int → Bool → (List ByteArray) → Int → Option ((List ByteArray) × zb))  (x30 : List UInt8) (x32 : Int) (x33 : Bool) (x37 : List ByteArray) (x39 : Int) : Option ((List ByteArray) × zb) :=
  (if ((decide (x39 > 0)) && (!x33)) = true then (zG (⟨x30, x32, x33⟩ : zb)).bind fun c56 => (room (x37.length + 1)).bind fun _ => rec4 c56.2.b c56.2.at_ c56.2.failed (x37 ++ [c56.1]) (IntKind.i64.wrap (x39 - 1)) else some (x37, (⟨x30, x32, x33⟩ : zb)))
def zca  : Nat → (List UInt8) → Int → Bool → (List ByteArray) → Int → Option ((List ByteArray) × zb)
  | 0, _, _, _, _, _ => none
  | n + 1, x30, x32, x33, x37, x39 => zcX (zca  n)  x30 x32 x33 x37 x39
def zdl (q0 : zb) (p1 : Int) : Option ((List ByteArray) × zb) :=
  (zt (⟨q0.b, q0.at_, q0.failed⟩ : zb) p1).bind fun c4 => zca  big c4.2.b c4.2.at_ c4.2.failed ([]) c4.1
def zdz (q0 : zb) : Option (zf × zb) :=
  (zG (⟨q0.b, q0.at_, q0.failed⟩ : zb)).bind fun c3 => (zcY (⟨c3.2.b, c3.2.at_, c3.2.failed⟩ : zb)).bind fun c12 => (if (c12.1 == 3) = true then (zt (⟨c12.2.b, c12.2.at_, c12.2.failed⟩ : zb) 16).bind fun c21 => (u8o c12.1).bind fun z29 => some ((⟨c3.1, (⟨z29, c21.1, (⟨#[]⟩ : ByteArray)⟩ : zl), c21.1, []⟩ : zf), (⟨c21.2.b, c21.2.at_, c21.2.failed⟩ : zb)) else (if (c12.1 == 4) = true then (zG (⟨c12.2.b, c12.2.at_, c12.2.failed⟩ : zb)).bind fun c31 => (zdl (⟨c31.2.b, c31.2.at_, c31.2.failed⟩ : zb) 8).bind fun c39 => (u8o c12.1).bind fun z54 => some ((⟨c3.1, (⟨z54, 0, c31.1⟩ : zl), (c39.1.length : Int), c39.1⟩ : zf), (⟨c39.2.b, c39.2.at_, c39.2.failed⟩ : zb)) else (u8o c12.1).bind fun z55 => some ((⟨c3.1, (⟨z55, 0, (⟨#[]⟩ : ByteArray)⟩ : zl), 1, []⟩ : zf), (⟨c12.2.b, c12.2.at_, c12.2.failed⟩ : zb))))
def zcV (p0 : Int) (p1 : Int) : Option Int :=
  (shlO .u64 p0 (maxI 0 (IntKind.i64.wrap (64 - (IntKind.i64.wrap (7 * p1)))))).bind fun y3 => (shrO .i64 (IntKind.i64.wrap y3) (maxI 0 (IntKind.i64.wrap (64 - (IntKind.i64.wrap (7 * p1)))))).bind fun y5 => some y5
def zcE (p0 : (List UInt8)) (p1 : Int) : Option (Int × Int × Int) :=
  (if ((decide (p1 < 0)) || (decide (p1 > (p0.length : Int)))) = true then some (0, 0, 1) else (cutI p0 p1 (p0.length : Int)).bind fun y6 => (zbH y6).bind fun c11 => (zcV c11.1 c11.2).bind fun c15 => ((if (c11.2 == 0) = true then some true else (cutI p0 p1 (IntKind.i64.wrap (p1 + c11.2))).bind fun y22 => (zcg [] c15).bind fun c27 => (zcm c27 y22).bind fun c38 => some (!c38))).bind fun c19 => (if c19 = true then some (0, 0, 5) else some (c15, (IntKind.i64.wrap (p1 + c11.2)), 0)))
def zdk (p0 : (List UInt8)) (p1 : Int) : Option (Int × Int × Int) :=
  (zcE p0 p1).bind fun c3 => some (c3.1, c3.2.1, c3.2.2)
def zc7 (rec4 : (List zd) → Int → Int → Option ((List zd) × Int × Int)) (p0 : (List UInt8)) (c4 : Int × Int × Int) (x49 : List zd) (x51 : Int) (x52 : Int) : Option ((List zd) × Int × Int) :=
  (if (decide (x52 < c4.1)) = true then (if (decide (x51 ≥ (p0.length : Int))) = true then some ([], 0, 5) else (getI p0 x51).bind fun y91 => (zch (y91.toNat : Int)).bind fun c97 => (if c97 = true then (zdk p0 (IntKind.i64.wrap (x51 + 1))).bind fun c102 => (if (c102.2.2 != 0) = true then some ([], 0, 5) else (room (x49.length + 1)).bind fun _ => rec4 (x49 ++ [(⟨y91, c102.1⟩ : zd)]) c102.2.1 (IntKind.u64.wrap (x52 + 1))) else (room (x49.length + 1)).bind fun _ => rec4 (x49 ++ [(⟨y91, 0⟩ : zd)]) (IntKind.i64.wrap (x51 + 1)) (IntKind.u64.wrap (x52 + 1)))) else (zbp x49).bind fun c119 => (if (!c119) = true then some ([], 0, 5) else some (x49, x51, 0)))
def zcd (p0 : (List UInt8)) (c4 : Int × Int × Int) : Nat → (List zd) → Int → Int → Option ((List zd) × Int × Int)
  | 0, _, _, _ => none
  | n + 1, x49, x51, x52 => zc7 (zcd p0 c4 n) p0 c4 x49 x51 x52
def zcP (p0 : (List UInt8)) (p1 : Int) : Option ((List zd) × Int × Int) :=
  (if ((decide (p1 < 0)) || (decide (p1 > (p0.length : Int)))) = true then some ([], 0, 1) else (zD p0 p1).bind fun c4 => (if ((c4.2.2 != 0) || (decide (c4.1 > 16))) = true then some ([], 0, 5) else zcd p0 c4 big ([]) c4.2.1 0))
def zdc (p0 : (List UInt8)) (p1 : Int) (p2 : Int) : Option (zc × Int × Bool) :=
  (zD p0 p1).bind fun c5 => (if ((c5.2.2 != 0) || (decide (c5.1 > 16777216))) = true then some ((⟨0, 0, []⟩ : zc), 0, false) else (zD p0 c5.2.1).bind fun c10 => (if ((c10.2.2 != 0) || (decide (c10.1 > 16777216))) = true then some ((⟨0, 0, []⟩ : zc), 0, false) else (zcP p0 c10.2.1).bind fun c15 => some ((⟨(IntKind.i64.wrap (p2 + (IntKind.i64.wrap c5.1))), (IntKind.i64.wrap ((IntKind.i64.wrap (p2 + (IntKind.i64.wrap c5.1))) + (IntKind.i64.wrap c10.1))), c15.1⟩ : zc), c15.2.1, ((c15.2.2 == 0) && (decide ((IntKind.i64.wrap ((IntKind.i64.wrap (p2 + (IntKind.i64.wrap c5.1))) + (IntKind.i64.wrap c10.1))) ≤ 16777216))))))
def zcN (rec4 : (List zc) → Int → Int → Int → Option ((List zc) × Int × Int)) (p0 : (List UInt8)) (c4 : Int × Int × Int) (x42 : List zc) (x44 : Int) (x45 : Int) (x46 : Int) : Option ((List zc) × Int × Int) :=
  (if (decide (x46 < c4.1)) = true then (zdc p0 x44 x45).bind fun c78 => (if (!c78.2.2) = true then some ([], 0, 5) else (room (x42.length + ([(⟨c78.1.From, c78.1.To, c78.1.At⟩ : zc)] : List zc).length)).bind fun _ => rec4 (x42 ++ ([(⟨c78.1.From, c78.1.To, c78.1.At⟩ : zc)] : List zc)) c78.2.1 c78.1.To (IntKind.u64.wrap (x46 + 1))) else (zbx x42).bind fun c101 => (if (!c101) = true then some ([], 0, 5) else some (x42, x44, 0)))
def zbP (p0 : (List UInt8)) (c4 : Int × Int × Int) : Nat → (List zc) → Int → Int → Int → Option ((List zc) × Int × Int)
  | 0, _, _, _, _ => none
  | n + 1, x42, x44, x45, x46 => zcN (zbP p0 c4 n) p0 c4 x42 x44 x45 x46
def zcy (p0 : (List UInt8)) (p1 : Int) : Option ((List zc) × Int × Int) :=
  (if ((decide (p1 < 0)) || (decide (p1 > (p0.length : Int)))) = true then some ([], 0, 1) else (zD p0 p1).bind fun c4 => (if ((c4.2.2 != 0) || (decide (c4.1 > 4000))) = true then some ([], 0, 5) else zbP p0 c4 big ([]) c4.2.1 0 0))
def zcU (q0 : zb) : Option ((List zc) × zb) :=
  (zcy q0.b q0.at_).bind fun c2 => (if (q0.failed || (c2.2.2 != 0)) = true then some ([], (⟨q0.b, q0.at_, true⟩ : zb)) else some (c2.1, (⟨q0.b, c2.2.1, q0.failed⟩ : zb)))
def zdt (qf0 : zb) (qf1 : za) : Option (zf × zb × za) :=
  (zdz (⟨qf0.b, qf0.at_, qf0.failed⟩ : zb)).bind fun c2 => (zcU (⟨c2.2.b, c2.2.at_, c2.2.failed⟩ : zb)).bind fun c15 => (room (qf1.Spans.length + ([c15.1] : List (List zc)).length)).bind fun _ => some ((⟨c2.1.Name, (⟨c2.1.Type_.Kind, c2.1.Type_.N, c2.1.Type_.Name⟩ : zl), c2.1.Words, c2.1.Fields⟩ : zf), (⟨c15.2.b, c15.2.at_, c15.2.failed⟩ : zb), (⟨qf1.Name, qf1.From, qf1.To, qf1.Vars, (qf1.Spans ++ ([c15.1] : List (List zc)))⟩ : za))
def zdf (rec4 : (List UInt8) → Int → Bool → ByteArray → Int → Int → (List zf) → (List (List zc)) → (List zf) → Int → Option ((List zf) × zb × za))  (x50 : List UInt8) (x52 : Int) (x53 : Bool) (x55 : ByteArray) (x56 : Int) (x57 : Int) (x60 : List zf) (x65 : List (List zc)) (x70 : List zf) (x72 : Int) : Option ((List zf) × zb × za) :=
  (if ((decide (x72 > 0)) && (!x53)) = true then (zdt (⟨x50, x52, x53⟩ : zb) (⟨x55, x56, x57, x60, x65⟩ : za)).bind fun c102 => (room (x70.length + 1)).bind fun _ => rec4 c102.2.1.b c102.2.1.at_ c102.2.1.failed c102.2.2.Name c102.2.2.From c102.2.2.To c102.2.2.Vars c102.2.2.Spans (x70 ++ [(⟨c102.1.Name, (⟨c102.1.Type_.Kind, c102.1.Type_.N, c102.1.Type_.Name⟩ : zl), c102.1.Words, c102.1.Fields⟩ : zf)]) (IntKind.i64.wrap (x72 - 1)) else some (x70, (⟨x50, x52, x53⟩ : zb), (⟨x55, x56, x57, x60, x65⟩ : za)))
def zb8  : Nat → (List UInt8) → Int → Bool → ByteArray → Int → Int → (List zf) → (List (List zc)) → (List zf) → Int → Option ((List zf) × zb × za)
  | 0, _, _, _, _, _, _, _, _, _, _ => none
  | n + 1, x50, x52, x53, x55, x56, x57, x60, x65, x70, x72 => zdf (zb8  n)  x50 x52 x53 x55 x56 x57 x60 x65 x70 x72
def zdx (q0 : zb) (p1 : Int) (q2_1 : za) : Option ((List zf) × zb × za) :=
  (zt (⟨q0.b, q0.at_, q0.failed⟩ : zb) p1).bind fun c4 => zb8  big c4.2.b c4.2.at_ c4.2.failed q2_1.Name q2_1.From q2_1.To q2_1.Vars q2_1.Spans ([]) c4.1
def zct (x21 : List UInt8) (x23 : Int) (x24 : Bool) (x27 : ByteArray) (x28 : Int) : Option (za × zb × Int) :=
  (zt (⟨x21, x23, x24⟩ : zb) 16777216).bind fun c29 => (zdx (⟨c29.2.b, c29.2.at_, (c29.2.failed || (decide ((IntKind.i64.wrap (x28 + c29.1)) > 16777216)))⟩ : zb) 64 (⟨x27, x28, (IntKind.i64.wrap (x28 + c29.1)), [], ([] : List (List zc))⟩ : za)).bind fun c38 => some ((⟨c38.2.2.Name, c38.2.2.From, c38.2.2.To, c38.1, c38.2.2.Spans⟩ : za), (⟨c38.2.1.b, c38.2.1.at_, c38.2.1.failed⟩ : zb), (IntKind.i64.wrap (x28 + c29.1)))
def zdo (qf0 : zb) (qf1 : Int) : Option (za × zb × Int) :=
  (zG (⟨qf0.b, qf0.at_, qf0.failed⟩ : zb)).bind fun c64 => (zt (⟨c64.2.b, c64.2.at_, c64.2.failed⟩ : zb) 16777216).bind fun c72 => zct c72.2.b c72.2.at_ c72.2.failed c64.1 (IntKind.i64.wrap (qf1 + c72.1))
def zc0 (rec4 : (List UInt8) → Int → Bool → Int → (List za) → Int → Option ((List za) × zb × Int))  (x39 : List UInt8) (x41 : Int) (x42 : Bool) (x44 : Int) (x48 : List za) (x50 : Int) : Option ((List za) × zb × Int) :=
  (if ((decide (x50 > 0)) && (!x42)) = true then (zdo (⟨x39, x41, x42⟩ : zb) x44).bind fun c75 => (room (x48.length + 1)).bind fun _ => rec4 c75.2.1.b c75.2.1.at_ c75.2.1.failed c75.2.2 (x48 ++ [(⟨c75.1.Name, c75.1.From, c75.1.To, c75.1.Vars, c75.1.Spans⟩ : za)]) (IntKind.i64.wrap (x50 - 1)) else some (x48, (⟨x39, x41, x42⟩ : zb), x44))
def zb0  : Nat → (List UInt8) → Int → Bool → Int → (List za) → Int → Option ((List za) × zb × Int)
  | 0, _, _, _, _, _, _ => none
  | n + 1, x39, x41, x42, x44, x48, x50 => zc0 (zb0  n)  x39 x41 x42 x44 x48 x50
def zc5 (q0 : zb) (p1 : Int) (q2_1 : Int) : Option ((List za) × zb × Int) :=
  (zt (⟨q0.b, q0.at_, q0.failed⟩ : zb) p1).bind fun c4 => zb0  big c4.2.b c4.2.at_ c4.2.failed q2_1 ([]) c4.1
def zcS (qf0 : zb) : Option (Int × zb) :=
  (zt (⟨qf0.b, qf0.at_, qf0.failed⟩ : zb) 64).bind fun c1 => some (c1.1, (⟨c1.2.b, c1.2.at_, c1.2.failed⟩ : zb))
def zdD (rec4 : (List UInt8) → Int → Bool → (List Int) → Int → Option ((List Int) × zb))  (x31 : List UInt8) (x33 : Int) (x34 : Bool) (x39 : List Int) (x41 : Int) : Option ((List Int) × zb) :=
  (if ((decide (x41 > 0)) && (!x34)) = true then (zcS (⟨x31, x33, x34⟩ : zb)).bind fun c58 => (room (x39.length + 1)).bind fun _ => rec4 c58.2.b c58.2.at_ c58.2.failed (x39 ++ [c58.1]) (IntKind.i64.wrap (x41 - 1)) else some (x39, (⟨x31, x33, x34⟩ : zb)))
def zbL  : Nat → (List UInt8) → Int → Bool → (List Int) → Int → Option ((List Int) × zb)
  | 0, _, _, _, _, _ => none
  | n + 1, x31, x33, x34, x39, x41 => zdD (zbL  n)  x31 x33 x34 x39 x41
def zdv (q0 : zb) (p1 : Int) : Option ((List Int) × zb) :=
  (zt (⟨q0.b, q0.at_, q0.failed⟩ : zb) p1).bind fun c4 => zbL  big c4.2.b c4.2.at_ c4.2.failed ([]) c4.1
def zc8 (x21 : List UInt8) (x23 : Int) (x24 : Bool) (x27 : Int) (x28 : Int) : Option (ze × zb) :=
  (zdv (⟨x21, x23, x24⟩ : zb) 64).bind fun c29 => some ((⟨x27, x28, c29.1⟩ : ze), (⟨c29.2.b, c29.2.at_, c29.2.failed⟩ : zb))
def zdj (qf0 : zb) : Option (ze × zb) :=
  (zt (⟨qf0.b, qf0.at_, qf0.failed⟩ : zb) 64).bind fun c44 => (zt (⟨c44.2.b, c44.2.at_, c44.2.failed⟩ : zb) 1048576).bind fun c52 => zc8 c52.2.b c52.2.at_ c52.2.failed c44.1 c52.1
def zdF (rec4 : (List UInt8) → Int → Bool → (List ze) → Int → Option ((List ze) × zb))  (x35 : List UInt8) (x37 : Int) (x38 : Bool) (x43 : List ze) (x45 : Int) : Option ((List ze) × zb) :=
  (if ((decide (x45 > 0)) && (!x38)) = true then (zdj (⟨x35, x37, x38⟩ : zb)).bind fun c66 => (room (x43.length + 1)).bind fun _ => rec4 c66.2.b c66.2.at_ c66.2.failed (x43 ++ [(⟨c66.1.Func, c66.1.Line, c66.1.Scope⟩ : ze)]) (IntKind.i64.wrap (x45 - 1)) else some (x43, (⟨x35, x37, x38⟩ : zb)))
def zcl  : Nat → (List UInt8) → Int → Bool → (List ze) → Int → Option ((List ze) × zb)
  | 0, _, _, _, _, _ => none
  | n + 1, x35, x37, x38, x43, x45 => zdF (zcl  n)  x35 x37 x38 x43 x45
def zdd (q0 : zb) (p1 : Int) : Option ((List ze) × zb) :=
  (zt (⟨q0.b, q0.at_, q0.failed⟩ : zb) p1).bind fun c4 => zcl  big c4.2.b c4.2.at_ c4.2.failed ([]) c4.1
def zc3 (p0 : (List UInt8)) (p1 : Int) : Option ((List za) × (List ze) × Int × Int) :=
  (if ((decide (p1 < 0)) || (decide (p1 > (p0.length : Int)))) = true then some ([], [], 0, 1) else (zc5 (⟨p0, p1, false⟩ : zb) 64 0).bind fun c9 => (zdd (⟨c9.2.1.b, c9.2.1.at_, c9.2.1.failed⟩ : zb) 1000).bind fun c22 => ((if c22.2.failed = true then some true else (zbT c9.1 c22.1).bind fun c42 => some (!c42))).bind fun c39 => (if c39 = true then some ([], [], 0, 5) else some (c9.1, c22.1, c22.2.at_, 0)))
def zcZ  : Option zp :=
  some (⟨([(⟨(⟨#[102]⟩ : ByteArray), 0, 9, ([(⟨(⟨#[120]⟩ : ByteArray), (⟨(1 : UInt8), 0, (⟨#[]⟩ : ByteArray)⟩ : zl), 1, []⟩ : zf)] : List zf), ([([(⟨2, 5, ([(⟨(2 : UInt8), 1⟩ : zd)] : List zd)⟩ : zc)] : List zc)] : List (List zc))⟩ : za)] : List za), ([(⟨0, 3, ([0] : List Int)⟩ : ze)] : List ze)⟩ : zp)
def zbn  : Option Bool :=
  (zcZ ).bind fun c1 => (zc9 [] c1.L c1.Points).bind fun c14 => (zc3 c14.1 0).bind fun c25 => (zbd c25.1 8).bind fun c37 => (zH c25.1 c25.2.1 0 (⟨#[120]⟩ : ByteArray)).bind fun c41 => ((if ((((c14.2 == 0) && ((c14.1.length : Int) == 20)) && (c25.2.2.2 == 0)) && (c25.2.2.1 == 20)) = true then (zI c25.1 c1.L).bind fun c48 => some c48 else some false)).bind fun c45 => ((if c45 = true then (zM c25.2.1 c1.Points).bind fun c55 => some c55 else some false)).bind fun c52 => some ((((c52 && (c37.1 == 0)) && c37.2) && (c41.1 == 0)) && c41.2)
def zbh (p0 : (List zd)) : Option (List zd) :=
  (room (([] : List zd).length + p0.length)).bind fun _ => some (([] : List zd) ++ p0)
def zZ (rec4 : (List zc) → Int → Option (List zc)) (p0 : (List zc)) (x52 : List zc) (x54 : Int) : Option (List zc) :=
  (if (decide (x54 < (p0.length : Int))) = true then (getI p0 x54).bind fun y101 => (getI p0 x54).bind fun y110 => (getI p0 x54).bind fun y119 => (zbh y119.At).bind fun c128 => (room (x52.length + 1)).bind fun _ => rec4 (x52 ++ [(⟨y101.From, y110.To, c128⟩ : zc)]) (IntKind.i64.wrap (x54 + 1)) else some x52)
def zX (p0 : (List zc)) : Nat → (List zc) → Int → Option (List zc)
  | 0, _, _ => none
  | n + 1, x52, x54 => zZ (zX p0 n) p0 x52 x54
def zbU (p0 : (List zc)) : Option (List zc) :=
  zX p0 big ([]) 0
def z5 (rec52 : (List za) → (List zf) → (List (List zc)) → Int → Option (List za)) (rec44 : (List za) → Int → Option (List za)) (p0 : (List za)) (x869 : Int) (y1763 : za) (y1776 : za) (y1789 : za) (x2505 : List za) (x2510 : List zf) (x2515 : List (List zc)) (x2517 : Int) : Option (List za) :=
  (getI p0 x869).bind fun y2586 => (if (decide (x2517 < (y2586.Spans.length : Int))) = true then (getI p0 x869).bind fun y2600 => (getI y2600.Spans x2517).bind fun y2613 => (zbU y2613).bind fun c2622 => (room (x2515.length + ([c2622] : List (List zc)).length)).bind fun _ => rec52 x2505 x2510 (x2515 ++ ([c2622] : List (List zc))) (IntKind.i64.wrap (x2517 + 1)) else (room (x2505.length + 1)).bind fun _ => rec44 (x2505 ++ [(⟨y1763.Name, y1776.From, y1789.To, x2510, x2515⟩ : za)]) (IntKind.i64.wrap (x869 + 1)))
def zbi (rec44 : (List za) → Int → Option (List za)) (p0 : (List za)) (x869 : Int) (y1763 : za) (y1776 : za) (y1789 : za) : Nat → (List za) → (List zf) → (List (List zc)) → Int → Option (List za)
  | 0, _, _, _, _ => none
  | n + 1, x2505, x2510, x2515, x2517 => z5 (zbi rec44 p0 x869 y1763 y1776 y1789 n) rec44 p0 x869 y1763 y1776 y1789 x2505 x2510 x2515 x2517
def z8 (rec50 : (List za) → (List zf) → Int → Option (List za)) (rec44 : (List za) → Int → Option (List za)) (p0 : (List za)) (x869 : Int) (y1763 : za) (y1776 : za) (y1789 : za) (x2080 : List za) (x2085 : List zf) (x2087 : Int) : Option (List za) :=
  (getI p0 x869).bind fun y2371 => (if (decide (x2087 < (y2371.Vars.length : Int))) = true then (getI p0 x869).bind fun y2385 => (getI y2385.Vars x2087).bind fun y2398 => (room (([] : List ByteArray).length + y2398.Fields.length)).bind fun _ => (room (x2085.length + 1)).bind fun _ => rec50 x2080 (x2085 ++ [(⟨y2398.Name, (⟨y2398.Type_.Kind, y2398.Type_.N, y2398.Type_.Name⟩ : zl), y2398.Words, (([] : List ByteArray) ++ y2398.Fields)⟩ : zf)]) (IntKind.i64.wrap (x2087 + 1)) else zbi rec44 p0 x869 y1763 y1776 y1789 big x2080 x2085 ([]) 0)
def zbA (rec44 : (List za) → Int → Option (List za)) (p0 : (List za)) (x869 : Int) (y1763 : za) (y1776 : za) (y1789 : za) : Nat → (List za) → (List zf) → Int → Option (List za)
  | 0, _, _, _ => none
  | n + 1, x2080, x2085, x2087 => z8 (zbA rec44 p0 x869 y1763 y1776 y1789 n) rec44 p0 x869 y1763 y1776 y1789 x2080 x2085 x2087
def zbD (rec44 : (List za) → Int → Option (List za)) (p0 : (List za)) (x867 : List za) (x869 : Int) : Option (List za) :=
  (if (decide (x869 < (p0.length : Int))) = true then (getI p0 x869).bind fun y1763 => (getI p0 x869).bind fun y1776 => (getI p0 x869).bind fun y1789 => zbA rec44 p0 x869 y1763 y1776 y1789 big x867 ([]) 0 else some x867)
def zv (p0 : (List za)) : Nat → (List za) → Int → Option (List za)
  | 0, _, _ => none
  | n + 1, x867, x869 => zbD (zv p0 n) p0 x867 x869
def zbO (p0 : (List za)) : Option (List za) :=
  zv p0 big ([]) 0
def z1 (rec4 : (List ze) → Int → Option (List ze)) (p0 : (List ze)) (x52 : List ze) (x54 : Int) : Option (List ze) :=
  (if (decide (x54 < (p0.length : Int))) = true then (getI p0 x54).bind fun y101 => (getI p0 x54).bind fun y110 => (getI p0 x54).bind fun y119 => (room (([] : List Int).length + y119.Scope.length)).bind fun _ => (room (x52.length + 1)).bind fun _ => rec4 (x52 ++ [(⟨y101.Func, y110.Line, (([] : List Int) ++ y119.Scope)⟩ : ze)]) (IntKind.i64.wrap (x54 + 1)) else some x52)
def zba (p0 : (List ze)) : Nat → (List ze) → Int → Option (List ze)
  | 0, _, _ => none
  | n + 1, x52, x54 => z1 (zba p0 n) p0 x52 x54
def zbR (p0 : (List ze)) : Option (List ze) :=
  zba p0 big ([]) 0
def zbB (rec4 : Int → Option (Int × Bool)) (p0 : (List za)) (p1 : Int) (x36 : Int) : Option (Int × Bool) :=
  (if (decide (x36 < (p0.length : Int))) = true then (getI p0 x36).bind fun y70 => ((if (decide (y70.From ≤ p1)) = true then (getI p0 x36).bind fun y86 => some (decide (p1 < y86.To)) else some false)).bind fun c83 => (if c83 = true then some (x36, true) else rec4 (IntKind.i64.wrap (x36 + 1))) else some (0, false))
def zP (p0 : (List za)) (p1 : Int) : Nat → Int → Option (Int × Bool)
  | 0, _ => none
  | n + 1, x36 => zbB (zP p0 p1 n) p0 p1 x36
def zb9 (p0 : (List za)) (p1 : Int) : Option (Int × Bool) :=
  zP p0 p1 big 0
def zbm (rec4 : Int → Bool → Int → Option (Int × Bool)) (p1 : (List ze)) (p2 : Int) (p3 : ByteArray) (y39 : za) (x93 : Int) (x94 : Bool) (x95 : Int) : Option (Int × Bool) :=
  (getI p1 p2).bind fun y134 => (if (decide (x95 < (y134.Scope.length : Int))) = true then (getI p1 p2).bind fun y144 => (getI y144.Scope x95).bind fun y153 => ((if ((decide (y153 ≥ 0)) && (decide (y153 < (y39.Vars.length : Int)))) = true then (getI y39.Vars y153).bind fun y161 => some (strEq y161.Name p3) else some false)).bind fun c158 => (if c158 = true then rec4 y153 true (IntKind.i64.wrap (x95 + 1)) else rec4 x93 x94 (IntKind.i64.wrap (x95 + 1))) else some (x93, x94))
def zS (p1 : (List ze)) (p2 : Int) (p3 : ByteArray) (y39 : za) : Nat → Int → Bool → Int → Option (Int × Bool)
  | 0, _, _, _ => none
  | n + 1, x93, x94, x95 => zbm (zS p1 p2 p3 y39 n) p1 p2 p3 y39 x93 x94 x95
def zbE (p0 : (List za)) (p1 : (List ze)) (p2 : Int) (p3 : ByteArray) : Option (Int × Bool) :=
  ((if ((decide (p2 < 0)) || (decide (p2 ≥ (p1.length : Int)))) = true then some true else (getI p1 p2).bind fun y8 => some (decide (y8.Func < 0)))).bind fun c5 => ((if c5 = true then some true else (getI p1 p2).bind fun y20 => some (decide (y20.Func ≥ (p0.length : Int))))).bind fun c17 => (if c17 = true then some (0, false) else (getI p1 p2).bind fun y30 => (getI p0 y30.Func).bind fun y39 => zS p1 p2 p3 y39 big 0 false 0)
def zb4 (p0 : zp) (p1 : Int) (p2 : Int) (p3 : ByteArray) : Option Bool :=
  (zL (⟨p0.L, p0.Points⟩ : zp)).bind fun c6 => (if (c6 || (decide ((p3.size : Int) > 1000))) = true then (zbn ).bind fun c11 => some c11 else (zbO p0.L).bind fun c15 => (zbR p0.Points).bind fun c24 => (zbd c15 p1).bind fun c35 => (zb9 p0.L p1).bind fun c39 => (zH c15 c24 p2 p3).bind fun c45 => (zbE p0.L p0.Points p2 p3).bind fun c49 => ((if ((((c35.1 == c39.1) && (c35.2 == c39.2)) && (c45.1 == c49.1)) && (c45.2 == c49.2)) = true then (zI c15 p0.L).bind fun c56 => some c56 else some false)).bind fun c53 => ((if c53 = true then (zM c24 p0.Points).bind fun c63 => some c63 else some false)).bind fun c60 => ((if c60 = true then (zbn ).bind fun c70 => some c70 else some false)).bind fun c67 => some c67)
end Go.Proofs.Ytckcngkkofemjaa
