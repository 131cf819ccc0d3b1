import Derived.Test.YtmcfgapknoiohaaAd
import Derived.Test.YtmcfgapknoiohaaFM
namespace Go.Proofs.Ytmcfgapknoiohaa
open Go.Ab Go.RowKit
set_option linter.unusedVariables false
set_option linter.unusedSimpArgs false
set_option maxRecDepth 10000
structure za where
  Kind : UInt8
  High : Int
  Low : Int
  Place : Int
  Text : ByteArray
  deriving DecidableEq
def zb : Ty za where
  sz := 5
  R := fun σ x cs => cs = [.int .u8 x.Kind.toNat, .int .i64 x.High, .int .i64 x.Low, .int .i64 x.Place, .string x.Text]
  len := by rintro σ x cs rfl; rfl
  one := by rintro σ x cs rfl; rfl
  mono := by rintro σ σ' x cs hle rfl; rfl
def zi (p0 : Int) (p1 : Int) : Option (Int × Bool) :=
  (if ((((decide (p0 < 0)) || (decide (p0 ≥ 16))) || (decide (p1 < 0))) || (decide (p1 ≥ 16))) = true then some (0, false) else some ((IntKind.u8.wrap (orI .i64 (shlI .i64 p0 4) p1)), true))
def zl (p0 : Int) : Option (Int × Int) :=
  some ((IntKind.i64.wrap (shrI .u8 p0 4)), (IntKind.i64.wrap (andI .u8 p0 15)))
def zg (p0 : (List UInt8)) (p1 : Int) (p2 : Int) : Option ((List UInt8) × Int × Int) :=
  (if ((decide (p1 < 0)) || (decide (p1 > (p0.length : Int)))) = true then some ([], 0, 1) else (cutI p0 p1 (p0.length : Int)).bind fun y5 => (if (decide ((y5.length : Int) ≥ p2)) = true then (cutI y5 0 p2).bind fun y11 => some (y11, (IntKind.i64.wrap (p1 + p2)), 0) else some ([], 0, 5)))
def zd (p0 : (List UInt8)) (p1 : Int) : Option (Int × Int × Int) :=
  (zg p0 p1 1).bind fun c3 => (if (c3.2.2 != 0) = true then some (0, 0, c3.2.2) else (getI c3.1 0).bind fun y12 => some ((y12.toNat : Int), c3.2.1, 0))
def zG (rec4 : Int → Int → Option (Int × Int × Int)) (c3 : (List UInt8) × Int × Int) (x18 : Int) (x20 : Int) : Option (Int × Int × Int) :=
  (if (decide (x20 < (c3.1.length : Int))) = true then (getI c3.1 x20).bind fun y29 => rec4 (orI .i64 (shlI .i64 x18 8) (IntKind.i64.wrap (y29.toNat : Int))) (IntKind.i64.wrap (x20 + 1)) else some (x18, c3.2.1, c3.2.2))
def zo (c3 : (List UInt8) × Int × Int) : Nat → Int → Int → Option (Int × Int × Int)
  | 0, _, _ => none
  | n + 1, x18, x20 => zG (zo c3 n) c3 x18 x20
def zf (p0 : (List UInt8)) (p1 : Int) : Option (Int × Int × Int) :=
  (zg p0 p1 3).bind fun c3 => zo c3 big 0 0
def zc (p0 : (List UInt8)) (p1 : Int) : Option (ByteArray × Int × Int) :=
  (zd p0 p1).bind fun c3 => (if (c3.2.2 != 0) = true then some ((⟨#[]⟩ : ByteArray), 0, c3.2.2) else (zg p0 c3.2.1 (IntKind.i64.wrap c3.1)).bind fun c8 => some ((⟨c8.1.toArray⟩ : ByteArray), c8.2.1, c8.2.2))
def zF (p1 : Int) : Option (List UInt8) :=
  (if (decide ((IntKind.i64.wrap (p1 - (IntKind.i64.wrap (0 - 0)))) > 0)) = true then (nneg (IntKind.i64.wrap (p1 - (IntKind.i64.wrap (0 - 0))))).bind fun _ => (room (([] : List UInt8).length + Int.toNat (IntKind.i64.wrap (p1 - (IntKind.i64.wrap (0 - 0)))))).bind fun _ => (cutI (([] : List UInt8) ++ List.replicate (Int.toNat (IntKind.i64.wrap (p1 - (IntKind.i64.wrap (0 - 0))))) (0 : UInt8)) 0 0).bind fun y11 => some y11 else some ([]))
def zx (_n0 : (List UInt8)) (p1 : Int) : Option (List UInt8) :=
  (if (decide (p1 < 0)) = true then none else zF p1)
def zr (rec16 : (List UInt8) → Int → Option (List UInt8)) (p0 : (List (List UInt8))) (x204 : List UInt8) (x207 : Int) : Option (List UInt8) :=
  (if (decide (x207 < (p0.length : Int))) = true then (getI p0 x207).bind fun y224 => (room (x204.length + y224.length)).bind fun _ => rec16 (x204 ++ y224) (IntKind.i64.wrap (x207 + 1)) else some x204)
def zC (p0 : (List (List UInt8))) : Nat → (List UInt8) → Int → Option (List UInt8)
  | 0, _, _ => none
  | n + 1, x204, x207 => zr (zC p0 n) p0 x204 x207
def zq (rec14 : Int → Int → Option (List UInt8)) (p0 : (List (List UInt8))) (x81 : Int) (x83 : Int) : Option (List UInt8) :=
  (if (decide (x83 < (p0.length : Int))) = true then (getI p0 x83).bind fun y162 => (if (decide ((IntKind.i64.wrap (x81 + (y162.length : Int))) < 0)) = true then none else rec14 (IntKind.i64.wrap (x81 + (y162.length : Int))) (IntKind.i64.wrap (x83 + 1))) else (zx [] x81).bind fun c172 => zC p0 big c172 0)
def zy (p0 : (List (List UInt8))) : Nat → Int → Int → Option (List UInt8)
  | 0, _, _ => none
  | n + 1, x81, x83 => zq (zy p0 n) p0 x81 x83
def zv (p0 : (List (List UInt8))) : Option (List UInt8) :=
  zy p0 big 0 0
def zE (rec4 : (List UInt8) → Int → Option ((List UInt8) × Int)) (p0 : (List UInt8)) (p1 : Int) (x44 : List UInt8) (x46 : Int) : Option ((List UInt8) × Int) :=
  (if (decide (x46 < 3)) = true then (shrO .i64 p1 (IntKind.i64.wrap (8 * x46))).bind fun y80 => (getI x44 (IntKind.i64.wrap (2 - x46))).bind fun y82 => (u8o (IntKind.u8.wrap y80)).bind fun z89 => rec4 (x44.set (Int.toNat (IntKind.i64.wrap (2 - x46))) z89) (IntKind.i64.wrap (x46 + 1)) else (zv ([p0, x44] : List (List UInt8))).bind fun c101 => some (c101, 0))
def zm (p0 : (List UInt8)) (p1 : Int) : Nat → (List UInt8) → Int → Option ((List UInt8) × Int)
  | 0, _, _ => none
  | n + 1, x44, x46 => zE (zm p0 p1 n) p0 p1 x44 x46
def zk (p0 : (List UInt8)) (p1 : Int) : Option ((List UInt8) × Int) :=
  (if ((decide (p1 < 0)) || (decide (p1 ≥ 16777216))) = true then some ([], 1) else zm p0 p1 big ([(0 : UInt8), (0 : UInt8), (0 : UInt8)] : List UInt8) 0)
def zj (p0 : (List UInt8)) (p1 : ByteArray) : Option ((List UInt8) × Int) :=
  (if (decide ((p1.size : Int) > 255)) = true then some ([], 1) else (u8o (IntKind.u8.wrap (p1.size : Int))).bind fun z4 => (zv ([p0, ([z4] : List UInt8), (p1.data.toList)] : List (List UInt8))).bind fun c21 => some (c21, 0))
def zh  : Option Bool :=
  (zi 1 2).bind fun c1 => (u8o c1.1).bind fun z5 => (zk ([z5] : List UInt8) 258).bind fun c12 => (zj c12.1 (⟨#[97, 98]⟩ : ByteArray)).bind fun c23 => (zd c23.1 0).bind fun c34 => (zf c23.1 c34.2.1).bind fun c38 => (zc c23.1 c38.2.1).bind fun c42 => (zl c34.1).bind fun c46 => some (((((((c1.2 && (((((c12.2 == 0) && (c23.2 == 0)) && (c34.2.2 == 0)) && (c38.2.2 == 0)) && (c42.2.2 == 0))) && (c46.1 == 1)) && (c46.2 == 2)) && (c38.1 == 258)) && (strEq c42.1 (⟨#[97, 98]⟩ : ByteArray))) && ((c23.1.length : Int) == 7)) && (c42.2.1 == 7))
def zn (p0 : (List UInt8)) (p1 : za) : Option ((List UInt8) × Bool) :=
  (if ((Int.tmod (p1.Kind.toNat : Int) 3) == 0) = true then (zi p1.High p1.Low).bind fun c5 => (u8o c5.1).bind fun z9 => (room (p0.length + 1)).bind fun _ => some ((p0 ++ [z9]), c5.2) else (if ((Int.tmod (p1.Kind.toNat : Int) 3) == 1) = true then (zk p0 p1.Place).bind fun c17 => some (c17.1, (c17.2 == 0)) else (zj p0 p1.Text).bind fun c28 => some (c28.1, (c28.2 == 0))))
def ze (p0 : (List UInt8)) (p1 : Int) (p2 : za) : Option (Int × Bool) :=
  (if ((Int.tmod (p2.Kind.toNat : Int) 3) == 0) = true then (zd p0 p1).bind fun c6 => (zl c6.1).bind fun c10 => some (c6.2.1, (((c6.2.2 == 0) && (c10.1 == p2.High)) && (c10.2 == p2.Low))) else (if ((Int.tmod (p2.Kind.toNat : Int) 3) == 1) = true then (zf p0 p1).bind fun c15 => some (c15.2.1, ((c15.2.2 == 0) && (c15.1 == p2.Place))) else (zc p0 p1).bind fun c19 => some (c19.2.1, ((c19.2.2 == 0) && (strEq c19.1 p2.Text)))))
def zw (rec4 : (List UInt8) → Int → Option (List UInt8)) (p0 : (List UInt8)) (x35 : List UInt8) (x38 : Int) : Option (List UInt8) :=
  (if (decide (x38 < (p0.length : Int))) = true then (getI p0 x38).bind fun y56 => (getI x35 x38).bind fun y61 => rec4 (x35.set (Int.toNat x38) y56) (IntKind.i64.wrap (x38 + 1)) else some x35)
def zu (p0 : (List UInt8)) : Nat → (List UInt8) → Int → Option (List UInt8)
  | 0, _, _ => none
  | n + 1, x35, x38 => zw (zu p0 n) p0 x35 x38
def zB (p0 : (List UInt8)) : Option (List UInt8) :=
  (mkI (0 : UInt8) (p0.length : Int) (IntKind.i64.wrap ((p0.length : Int) + 40))).bind fun y2 => zu p0 big y2 0
def zp (rec20 : (List za) → Int → Int → Option Bool) (x321 : List UInt8) (x328 : Int) (x606 : List za) (x608 : Int) (x609 : Int) : Option Bool :=
  (if (decide (x609 < (x606.length : Int))) = true then (getI x606 x609).bind fun y652 => (ze x321 x608 (⟨y652.Kind, y652.High, y652.Low, y652.Place, y652.Text⟩ : za)).bind fun c659 => (if ((!c659.2) || (decide (c659.1 ≤ x608))) = true then some false else rec20 x606 c659.1 (IntKind.i64.wrap (x609 + 1))) else (if (x608 != (x321.length : Int)) = true then some false else (if (decide ((x606.length : Int) > 0)) = true then (cutI x321 0 (IntKind.i64.wrap ((x321.length : Int) - 1))).bind fun y666 => (getI x606 (IntKind.i64.wrap ((x606.length : Int) - 1))).bind fun y671 => (ze y666 x328 (⟨y671.Kind, y671.High, y671.Low, y671.Place, y671.Text⟩ : za)).bind fun c678 => (if c678.2 = true then some false else (zh ).bind fun c683 => some c683) else (zh ).bind fun c687 => some c687)))
def zs (x321 : List UInt8) (x328 : Int) : Nat → (List za) → Int → Int → Option Bool
  | 0, _, _, _ => none
  | n + 1, x606, x608, x609 => zp (zs x321 x328 n) x321 x328 x606 x608 x609
def zz (rec18 : (List UInt8) → (List za) → Int → Int → Option Bool) (p0 : (List za)) (x321 : List UInt8) (x326 : List za) (x328 : Int) (x329 : Int) : Option Bool :=
  (if (decide (x329 < (p0.length : Int))) = true then (getI p0 x329).bind fun y511 => (if (decide ((y511.Text.size : Int) > 1000)) = true then (zh ).bind fun c517 => some c517 else (getI p0 x329).bind fun y521 => (zB x321).bind fun c526 => (zn c526 (⟨y521.Kind, y521.High, y521.Low, y521.Place, y521.Text⟩ : za)).bind fun c535 => (if c535.2 = true then (getI p0 x329).bind fun y545 => (room (x326.length + 1)).bind fun _ => rec18 c535.1 (x326 ++ [(⟨y545.Kind, y545.High, y545.Low, y545.Place, y545.Text⟩ : za)]) (x321.length : Int) (IntKind.i64.wrap (x329 + 1)) else rec18 x321 x326 x328 (IntKind.i64.wrap (x329 + 1)))) else zs x321 x328 big x326 0 0)
def zA (p0 : (List za)) : Nat → (List UInt8) → (List za) → Int → Int → Option Bool
  | 0, _, _, _, _ => none
  | n + 1, x321, x326, x328, x329 => zz (zA p0 n) p0 x321 x326 x328 x329
def zI (p0 : (List za)) : Option Bool :=
  (if (decide ((p0.length : Int) > 60)) = true then (zh ).bind fun c3 => some c3 else zA p0 big ([]) ([]) 0 0)
end Go.Proofs.Ytmcfgapknoiohaa
