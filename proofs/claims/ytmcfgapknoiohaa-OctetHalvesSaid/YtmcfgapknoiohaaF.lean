import Derived.Test.YtmcfgapknoiohaaAd
import Derived.Test.YtmcfgapknoiohaaFM
namespace Go.Proofs.Ytmcfgapknoiohaa
open Go.Ab Go.RowKit
set_option linter.unusedVariables false
set_option linter.unusedSimpArgs false
set_option maxRecDepth 10000
structure S_law01_Thing where
  Kind : UInt8
  High : Int
  Low : Int
  Place : Int
  Text : ByteArray
  deriving DecidableEq
def TyS_law01_Thing : Ty S_law01_Thing where
  sz := 5
  R := fun σ x cs => cs = [.int .u8 x.Kind.toNat, .int .i64 x.High, .int .i64 x.Low, .int .i64 x.Place, .string x.Text]
  len := by rintro σ x cs rfl; rfl
  one := by rintro σ x cs rfl; rfl
  mono := by rintro σ σ' x cs hle rfl; rfl
theorem TyS_law01_Thing_flat : TyS_law01_Thing.Flat := fun _ _ _ _ h => h

def F_slices_Clone_Sbyte_byte (p0 : (List UInt8)) : Option (List UInt8) := (room p0.length).bind fun _ => some p0
def F_leb_digits_l3B (rec4 : Int → Int → Option (Int × Int)) (p0 : (List UInt8)) (x17 : Int) (x18 : Int) : Option (Int × Int) :=
  (if (decide (x18 < (minI (p0.length : Int) 10))) = true then (getI p0 x18).bind fun y35 => (shlO .u64 (IntKind.u64.wrap (andI .u8 (y35.toNat : Int) 127)) (IntKind.i64.wrap (7 * x18))).bind fun y40 => (getI p0 x18).bind fun y42 => (if (decide ((y42.toNat : Int) < 128)) = true then some ((orI .u64 x17 y40), (IntKind.i64.wrap (x18 + 1))) else rec4 (orI .u64 x17 y40) (IntKind.i64.wrap (x18 + 1))) else some (0, 0))
def F_leb_digits_l3 (p0 : (List UInt8)) : Nat → Int → Int → Option (Int × Int)
  | 0, _, _ => none
  | n + 1, x17, x18 => F_leb_digits_l3B (F_leb_digits_l3 p0 n) p0 x17 x18
def F_leb_digits (p0 : (List UInt8)) : Option (Int × Int) :=
  F_leb_digits_l3 p0 big 0 0
def F_slices_Equal_Sbyte_byte_l3B (rec4 : Int → Option Bool) (p0 : (List UInt8)) (p1 : (List UInt8)) (x18 : Int) : Option Bool :=
  (if (decide (x18 < (p0.length : Int))) = true then (getI p0 x18).bind fun y33 => (getI p1 x18).bind fun y38 => (if ((y33.toNat : Int) != (y38.toNat : Int)) = true then some false else rec4 (IntKind.i64.wrap (x18 + 1))) else some true)
def F_slices_Equal_Sbyte_byte_l3 (p0 : (List UInt8)) (p1 : (List UInt8)) : Nat → Int → Option Bool
  | 0, _ => none
  | n + 1, x18 => F_slices_Equal_Sbyte_byte_l3B (F_slices_Equal_Sbyte_byte_l3 p0 p1 n) p0 p1 x18
def F_slices_Equal_Sbyte_byte (p0 : (List UInt8)) (p1 : (List UInt8)) : Option Bool :=
  (if ((p0.length : Int) != (p1.length : Int)) = true then some false else F_slices_Equal_Sbyte_byte_l3 p0 p1 big 0)
def F_leb_U_1 (p0 : Int) (p1 : Int) : Option Int :=
  some p0
def F_leb_S_1 (p0 : Int) (p1 : Int) : Option Int :=
  (shlO .u64 p0 (maxI 0 (IntKind.i64.wrap (64 - (IntKind.i64.wrap (7 * p1)))))).bind fun y1 => (shrO .i64 (IntKind.i64.wrap y1) (maxI 0 (IntKind.i64.wrap (64 - (IntKind.i64.wrap (7 * p1)))))).bind fun y3 => some y3
def F_law02_works  : Option Bool :=
  (F_leb_PutU [] 300).bind fun c1 => (F_leb_PutS c1 (-65)).bind fun c12 => (F_leb_U c12 0).bind fun c23 => (F_leb_S c12 2).bind fun c27 => some ((((((((c12.length : Int) == 4) && (c23.1 == 300)) && (c23.2.1 == 2)) && (c23.2.2 == 0)) && (c27.1 == (-65))) && (c27.2.1 == 4)) && (c27.2.2 == 0))
def F_ref02_fitsU (p0 : Int) (p1 : Int) : Option Bool :=
  ((if (decide ((IntKind.i64.wrap (7 * p1)) ≥ 64)) = true then some true else (shlO .u64 1 (IntKind.u64.wrap (IntKind.i64.wrap (7 * p1)))).bind fun y4 => some (decide (p0 < y4)))).bind fun c1 => some c1
def F_ref00_CopyBytes_l3B (rec4 : (List UInt8) → Int → Option (List UInt8)) (p0 : (List UInt8)) (x16 : List UInt8) (x19 : Int) : Option (List UInt8) :=
  (if (decide (x19 < (p0.length : Int))) = true then (getI p0 x19).bind fun y32 => (room (x16.length + 1)).bind fun _ => rec4 (x16 ++ [y32]) (IntKind.i64.wrap (x19 + 1)) else some x16)
def F_ref00_CopyBytes_l3 (p0 : (List UInt8)) : Nat → (List UInt8) → Int → Option (List UInt8)
  | 0, _, _ => none
  | n + 1, x16, x19 => F_ref00_CopyBytes_l3B (F_ref00_CopyBytes_l3 p0 n) p0 x16 x19
def F_ref00_CopyBytes (p0 : (List UInt8)) : Option (List UInt8) :=
  F_ref00_CopyBytes_l3 p0 big ([]) 0
def F_ref02_digits_k11 (rec9 : Int → (List UInt8) → Int → Option (List UInt8)) (p3 : Int) (x35 : Int) (x41 : Int) (x65 : Int) (x69 : List UInt8) : Option (List UInt8) :=
  (if (decide (x41 < (IntKind.i64.wrap (p3 - 1)))) = true then (u8o (IntKind.u8.wrap (IntKind.u64.wrap ((Int.tmod x35 128) + 128)))).bind fun z72 => (room (x69.length + 1)).bind fun _ => rec9 x65 (x69 ++ [z72]) (IntKind.i64.wrap (x41 + 1)) else (u8o (IntKind.u8.wrap (Int.tmod x35 128))).bind fun z77 => (room (x69.length + 1)).bind fun _ => rec9 x65 (x69 ++ [z77]) (IntKind.i64.wrap (x41 + 1)))
def F_ref02_digits_l8B (rec9 : Int → (List UInt8) → Int → Option (List UInt8)) (p2 : Bool) (p3 : Int) (x35 : Int) (x39 : List UInt8) (x41 : Int) : Option (List UInt8) :=
  (if (decide (x41 < p3)) = true then (if p2 = true then F_ref02_digits_k11 rec9 p3 x35 x41 (orI .u64 (IntKind.u64.wrap (Int.tdiv x35 128)) 18302628885633695744) x39 else F_ref02_digits_k11 rec9 p3 x35 x41 (IntKind.u64.wrap (Int.tdiv x35 128)) x39) else some x39)
def F_ref02_digits_l8 (p2 : Bool) (p3 : Int) : Nat → Int → (List UInt8) → Int → Option (List UInt8)
  | 0, _, _, _ => none
  | n + 1, x35, x39, x41 => F_ref02_digits_l8B (F_ref02_digits_l8 p2 p3 n) p2 p3 x35 x39 x41
def F_ref02_digits (p0 : (List UInt8)) (p1 : Int) (p2 : Bool) (p3 : Int) : Option (List UInt8) :=
  (F_ref00_CopyBytes p0).bind fun c1 => F_ref02_digits_l8 p2 p3 big p1 c1 0
def F_ref02_fitsS (p0 : Int) (p1 : Int) : Option Bool :=
  (if (decide ((IntKind.i64.wrap ((IntKind.i64.wrap (7 * p1)) - 1)) ≥ 63)) = true then some true else (shlO .i64 1 (IntKind.u64.wrap (IntKind.i64.wrap ((IntKind.i64.wrap (7 * p1)) - 1)))).bind fun y2 => ((if (decide (p0 ≥ (IntKind.i64.wrap (0 - y2)))) = true then (shlO .i64 1 (IntKind.u64.wrap (IntKind.i64.wrap ((IntKind.i64.wrap (7 * p1)) - 1)))).bind fun y7 => some (decide (p0 < y7)) else some false)).bind fun c4 => some c4)
def F_ref00_Kept_l3B (rec4 : Int → Option Bool) (p1 : (List UInt8)) (y2 : (List UInt8)) (x25 : Int) : Option Bool :=
  (if (decide (x25 < (y2.length : Int))) = true then (getI y2 x25).bind fun y42 => (if (decide (x25 < (p1.length : Int))) = true then (getI p1 x25).bind fun y48 => (if ((y42.toNat : Int) != (y48.toNat : Int)) = true then some false else rec4 (IntKind.i64.wrap (x25 + 1))) else (if ((y42.toNat : Int) != (IntKind.u8.wrap (IntKind.i64.wrap ((IntKind.i64.wrap (8 + (p1.length : Int))) - x25)))) = true then some false else rec4 (IntKind.i64.wrap (x25 + 1)))) else some true)
def F_ref00_Kept_l3 (p1 : (List UInt8)) (y2 : (List UInt8)) : Nat → Int → Option Bool
  | 0, _ => none
  | n + 1, x25 => F_ref00_Kept_l3B (F_ref00_Kept_l3 p1 y2 n) p1 y2 x25
def F_ref00_Kept (p0 : (List UInt8)) (q0 : (List UInt8)) (p1 : (List UInt8)) : Option Bool :=
  (if (((p0.length : Int) != (p1.length : Int)) || (decide ((q0.length : Int) < (IntKind.i64.wrap ((p0.length : Int) + 8))))) = true then some false else (cutI q0 0 (IntKind.i64.wrap ((p0.length : Int) + 8))).bind fun y2 => F_ref00_Kept_l3 p1 y2 big 0)
def F_ref02_long_l3B (rec4 : Int → Option Int) (p0 : (List UInt8)) (p1 : Int) (x10 : Int) : Option Int :=
  (if ((decide (x10 < 10)) && (decide ((IntKind.i64.wrap (p1 + x10)) < (p0.length : Int)))) = true then (getI p0 (IntKind.i64.wrap (p1 + x10))).bind fun y20 => (if (decide ((y20.toNat : Int) < 128)) = true then some (IntKind.i64.wrap (x10 + 1)) else rec4 (IntKind.i64.wrap (x10 + 1))) else some 0)
def F_ref02_long_l3 (p0 : (List UInt8)) (p1 : Int) : Nat → Int → Option Int
  | 0, _ => none
  | n + 1, x10 => F_ref02_long_l3B (F_ref02_long_l3 p0 p1 n) p0 p1 x10
def F_ref02_long (p0 : (List UInt8)) (p1 : Int) : Option Int :=
  F_ref02_long_l3 p0 p1 big 0
def F_ref02_sum_l3B (rec4 : Int → Int → Option Int) (p0 : (List UInt8)) (p1 : Int) (x9 : Int) (x10 : Int) : Option Int :=
  (if (decide (x10 ≥ 0)) = true then (getI p0 (IntKind.i64.wrap (p1 + x10))).bind fun y19 => rec4 (IntKind.u64.wrap ((IntKind.u64.wrap (128 * x9)) + (IntKind.u64.wrap (Int.tmod (y19.toNat : Int) 128)))) (IntKind.i64.wrap (x10 - 1)) else some x9)
def F_ref02_sum_l3 (p0 : (List UInt8)) (p1 : Int) : Nat → Int → Int → Option Int
  | 0, _, _ => none
  | n + 1, x9, x10 => F_ref02_sum_l3B (F_ref02_sum_l3 p0 p1 n) p0 p1 x9 x10
def F_ref02_sum (p0 : (List UInt8)) (p1 : Int) (p2 : Int) : Option Int :=
  F_ref02_sum_l3 p0 p1 big 0 (IntKind.i64.wrap (p2 - 1))
def F_ref02_stands_l3B (rec4 : Int → Option Bool) (p0 : (List UInt8)) (p1 : Int) (p2 : (List UInt8)) (x18 : Int) : Option Bool :=
  (if (decide (x18 < (p2.length : Int))) = true then (getI p0 (IntKind.i64.wrap (p1 + x18))).bind fun y33 => (getI p2 x18).bind fun y38 => (if ((y33.toNat : Int) != (y38.toNat : Int)) = true then some false else rec4 (IntKind.i64.wrap (x18 + 1))) else some true)
def F_ref02_stands_l3 (p0 : (List UInt8)) (p1 : Int) (p2 : (List UInt8)) : Nat → Int → Option Bool
  | 0, _ => none
  | n + 1, x18 => F_ref02_stands_l3B (F_ref02_stands_l3 p0 p1 p2 n) p0 p1 p2 x18
def F_ref02_stands (p0 : (List UInt8)) (p1 : Int) (p2 : (List UInt8)) : Option Bool :=
  (if (decide ((p2.length : Int) > (IntKind.i64.wrap ((p0.length : Int) - p1)))) = true then some false else F_ref02_stands_l3 p0 p1 p2 big 0)
def F_law02_LebReads (p0 : (List UInt8)) (p1 : Int) : Option Bool :=
  (if (decide ((p0.length : Int) > 65536)) = true then (F_law02_works ).bind fun c2 => some c2 else (F_ref00_Roomy p0).bind fun c6 => (F_leb_U c6.1 p1).bind fun c17 => (F_ref02_U p0 p1).bind fun c21 => (F_leb_S c6.1 p1).bind fun c25 => (F_ref02_S p0 p1).bind fun c29 => ((if ((((((c17.1 == c21.1) && (c17.2.1 == c21.2.1)) && (c17.2.2 == c21.2.2)) && (c25.1 == c29.1)) && (c25.2.1 == c29.2.1)) && (c25.2.2 == c29.2.2)) = true then (F_ref00_Kept c6.1 c6.2 p0).bind fun c36 => some c36 else some false)).bind fun c33 => ((if c33 = true then (F_law02_works ).bind fun c43 => some c43 else some false)).bind fun c40 => some c40)
def F_law02_LebBack_l15B (rec16 : Int → Option Bool) (p0 : (List UInt8)) (c15 : (List UInt8)) (x222 : Int) : Option Bool :=
  (if (decide (x222 < (c15.length : Int))) = true then (cutI c15 0 x222).bind fun y240 => (F_leb_S y240 (p0.length : Int)).bind fun c245 => (if (c245.2.2 == 0) = true then some false else rec16 (IntKind.i64.wrap (x222 + 1))) else (F_law02_works ).bind fun c250 => some c250)
def F_law02_LebBack_l15 (p0 : (List UInt8)) (c15 : (List UInt8)) : Nat → Int → Option Bool
  | 0, _ => none
  | n + 1, x222 => F_law02_LebBack_l15B (F_law02_LebBack_l15 p0 c15 n) p0 c15 x222
def F_law02_LebBack_l13B (rec14 : Int → Option Bool) (p0 : (List UInt8)) (c6 : (List UInt8)) (c15 : (List UInt8)) (x132 : Int) : Option Bool :=
  (if (decide (x132 < (c6.length : Int))) = true then (cutI c6 0 x132).bind fun y195 => (F_leb_U y195 (p0.length : Int)).bind fun c200 => (if (c200.2.2 == 0) = true then some false else rec14 (IntKind.i64.wrap (x132 + 1))) else F_law02_LebBack_l15 p0 c15 big (p0.length : Int))
def F_law02_LebBack_l13 (p0 : (List UInt8)) (c6 : (List UInt8)) (c15 : (List UInt8)) : Nat → Int → Option Bool
  | 0, _ => none
  | n + 1, x132 => F_law02_LebBack_l13B (F_law02_LebBack_l13 p0 c6 c15 n) p0 c6 c15 x132
def F_law02_LebBack (p0 : (List UInt8)) (p1 : Int) (p2 : (List UInt8)) : Option Bool :=
  (if ((decide ((p0.length : Int) > 1024)) || (decide ((p2.length : Int) > 1024))) = true then (F_law02_works ).bind fun c2 => some c2 else (F_leb_PutU p0 p1).bind fun c6 => (F_leb_PutS p0 (IntKind.i64.wrap p1)).bind fun c15 => (if ((decide ((c6.length : Int) ≤ (p0.length : Int))) || (decide ((c15.length : Int) ≤ (p0.length : Int)))) = true then some false else (F_ref00_CopyBytes c6).bind fun c27 => (room (c27.length + p2.length)).bind fun _ => (F_leb_U (c27 ++ p2) (p0.length : Int)).bind fun c42 => (F_ref00_CopyBytes c15).bind fun c48 => (room (c48.length + p2.length)).bind fun _ => (F_leb_S (c48 ++ p2) (p0.length : Int)).bind fun c63 => (if ((((((c42.1 != p1) || (c42.2.1 != (c6.length : Int))) || (c42.2.2 != 0)) || (c63.1 != (IntKind.i64.wrap p1))) || (c63.2.1 != (c15.length : Int))) || (c63.2.2 != 0)) = true then some false else F_law02_LebBack_l13 p0 c6 c15 big (p0.length : Int))))
def F_law02_LebOne (p0 : (List UInt8)) (p1 : Int) : Option Bool :=
  (if (decide ((p0.length : Int) > 1024)) = true then (F_law02_works ).bind fun c2 => some c2 else (F_leb_U p0 p1).bind fun c6 => (F_leb_S p0 p1).bind fun c10 => ((if (c6.2.2 == 0) = true then (if (decide (c6.2.1 ≤ p1)) = true then (if true = true then (if true = true then some true else (cutI p0 p1 c6.2.1).bind fun y20 => (F_leb_PutU [] c6.1).bind fun c25 => (F_ref00_EqBytes c25 y20).bind fun c36 => some (!c36)) else (if (decide ((IntKind.i64.wrap (c6.2.1 - p1)) > 10)) = true then some true else (cutI p0 p1 c6.2.1).bind fun y41 => (F_leb_PutU [] c6.1).bind fun c46 => (F_ref00_EqBytes c46 y41).bind fun c57 => some (!c57))) else (if (decide (c6.2.1 > (p0.length : Int))) = true then (if true = true then some true else (cutI p0 p1 c6.2.1).bind fun y63 => (F_leb_PutU [] c6.1).bind fun c68 => (F_ref00_EqBytes c68 y63).bind fun c79 => some (!c79)) else (if (decide ((IntKind.i64.wrap (c6.2.1 - p1)) > 10)) = true then some true else (cutI p0 p1 c6.2.1).bind fun y84 => (F_leb_PutU [] c6.1).bind fun c89 => (F_ref00_EqBytes c89 y84).bind fun c100 => some (!c100)))) else some false)).bind fun c14 => (if c14 = true then some false else ((if (c10.2.2 == 0) = true then (if (decide (c10.2.1 ≤ p1)) = true then (if true = true then (if true = true then some true else (cutI p0 p1 c10.2.1).bind fun y111 => (F_leb_PutS [] c10.1).bind fun c116 => (F_ref00_EqBytes c116 y111).bind fun c127 => some (!c127)) else (if (decide ((IntKind.i64.wrap (c10.2.1 - p1)) > 10)) = true then some true else (cutI p0 p1 c10.2.1).bind fun y132 => (F_leb_PutS [] c10.1).bind fun c137 => (F_ref00_EqBytes c137 y132).bind fun c148 => some (!c148))) else (if (decide (c10.2.1 > (p0.length : Int))) = true then (if true = true then some true else (cutI p0 p1 c10.2.1).bind fun y154 => (F_leb_PutS [] c10.1).bind fun c159 => (F_ref00_EqBytes c159 y154).bind fun c170 => some (!c170)) else (if (decide ((IntKind.i64.wrap (c10.2.1 - p1)) > 10)) = true then some true else (cutI p0 p1 c10.2.1).bind fun y175 => (F_leb_PutS [] c10.1).bind fun c180 => (F_ref00_EqBytes c180 y175).bind fun c191 => some (!c191)))) else some false)).bind fun c105 => (if c105 = true then some false else ((if (c6.2.2 == 0) = true then some true else (if (c6.1 == 0) = true then some (c6.2.1 == 0) else some false))).bind fun c196 => ((if c196 = true then (if (c10.2.2 == 0) = true then some true else (if (c10.1 == 0) = true then some (c10.2.1 == 0) else some false)) else some false)).bind fun c200 => ((if c200 = true then (F_law02_works ).bind fun c208 => some c208 else some false)).bind fun c205 => some c205)))
def F_law02_LebLong (p0 : Int) (p1 : Int) : Option Bool :=
  (F_leb_PutU [] p0).bind fun c1 => (F_leb_PutU [] p1).bind fun c10 => ((if ((decide (p0 ≤ p1)) && (decide ((c1.length : Int) > (c10.length : Int)))) = true then some true else (if (decide (p0 ≥ p1)) = true then some (decide ((c1.length : Int) < (c10.length : Int))) else some false))).bind fun c19 => (if ((c19 || (decide ((c1.length : Int) < 1))) || (decide ((c1.length : Int) > 10))) = true then some false else ((if (decide ((c1.length : Int) < 10)) = true then (shrO .u64 p0 (IntKind.u64.wrap (IntKind.i64.wrap (7 * (c1.length : Int))))).bind fun y27 => some (y27 != 0) else some false)).bind fun c24 => ((if c24 = true then some true else (if (decide ((c1.length : Int) > 1)) = true then (shrO .u64 p0 (IntKind.u64.wrap (IntKind.i64.wrap ((IntKind.i64.wrap (7 * (c1.length : Int))) - 7)))).bind fun y33 => some (y33 == 0) else some false))).bind fun c29 => (if c29 = true then some false else (F_leb_PutS [] (IntKind.i64.wrap (shrI .u64 p0 1))).bind fun c36 => (F_leb_PutS [] (IntKind.i64.wrap ((IntKind.i64.wrap (0 - (IntKind.i64.wrap (shrI .u64 p0 1)))) - 1))).bind fun c45 => ((if ((c36.length : Int) == (c45.length : Int)) = true then (F_leb_PutU [] (shrI .u64 p0 1)).bind fun c57 => some (decide ((c36.length : Int) ≥ (c57.length : Int))) else some false)).bind fun c54 => ((if c54 = true then (F_leb_PutU [] (shrI .u64 p0 1)).bind fun c69 => some (decide ((c36.length : Int) ≤ (IntKind.i64.wrap ((c69.length : Int) + 1)))) else some false)).bind fun c66 => ((if c66 = true then (F_law02_works ).bind fun c81 => some c81 else some false)).bind fun c78 => some c78))
def F_octet_Pair (p0 : Int) (p1 : Int) : Option (Int × Bool) :=
  (if ((((decide (p0 < 0)) || (decide (p0 ≥ 16))) || (decide (p1 < 0))) || (decide (p1 ≥ 16))) = true then some (0, false) else some ((IntKind.u8.wrap (orI .i64 (shlI .i64 p0 4) p1)), true))
def F_ref01_Pair_l3B (rec4 : Int → Option (Int × Bool)) (p0 : Int) (p1 : Int) (x3 : Int) : Option (Int × Bool) :=
  (if (decide (x3 < 256)) = true then (if (((IntKind.i64.wrap (Int.tdiv x3 16)) == p0) && ((Int.tmod x3 16) == p1)) = true then some ((IntKind.u8.wrap x3), true) else rec4 (IntKind.i64.wrap (x3 + 1))) else some (0, false))
def F_ref01_Pair_l3 (p0 : Int) (p1 : Int) : Nat → Int → Option (Int × Bool)
  | 0, _ => none
  | n + 1, x3 => F_ref01_Pair_l3B (F_ref01_Pair_l3 p0 p1 n) p0 p1 x3
def F_ref01_Pair (p0 : Int) (p1 : Int) : Option (Int × Bool) :=
  F_ref01_Pair_l3 p0 p1 big 0
def F_octet_Halves (p0 : Int) : Option (Int × Int) :=
  some ((IntKind.i64.wrap (shrI .u8 p0 4)), (IntKind.i64.wrap (andI .u8 p0 15)))
def F_octet_cut (p0 : (List UInt8)) (p1 : Int) (p2 : Int) : Option ((List UInt8) × Int × Int) :=
  (if ((decide (p1 < 0)) || (decide (p1 > (p0.length : Int)))) = true then some ([], 0, 1) else (cutI p0 p1 (p0.length : Int)).bind fun y2 => (if (decide ((y2.length : Int) ≥ p2)) = true then (cutI y2 0 p2).bind fun y8 => some (y8, (IntKind.i64.wrap (p1 + p2)), 0) else some ([], 0, 5)))
def F_octet_One (p0 : (List UInt8)) (p1 : Int) : Option (Int × Int × Int) :=
  (F_octet_cut p0 p1 1).bind fun c1 => (if (c1.2.2 != 0) = true then some (0, 0, c1.2.2) else (getI c1.1 0).bind fun y10 => some ((y10.toNat : Int), c1.2.1, 0))
def F_octet_Place_l3B (rec4 : Int → Int → Option (Int × Int × Int)) (c1 : (List UInt8) × Int × Int) (x16 : Int) (x18 : Int) : Option (Int × Int × Int) :=
  (if (decide (x18 < (c1.1.length : Int))) = true then (getI c1.1 x18).bind fun y27 => rec4 (orI .i64 (shlI .i64 x16 8) (IntKind.i64.wrap (y27.toNat : Int))) (IntKind.i64.wrap (x18 + 1)) else some (x16, c1.2.1, c1.2.2))
def F_octet_Place_l3 (c1 : (List UInt8) × Int × Int) : Nat → Int → Int → Option (Int × Int × Int)
  | 0, _, _ => none
  | n + 1, x16, x18 => F_octet_Place_l3B (F_octet_Place_l3 c1 n) c1 x16 x18
def F_octet_Place (p0 : (List UInt8)) (p1 : Int) : Option (Int × Int × Int) :=
  (F_octet_cut p0 p1 3).bind fun c1 => F_octet_Place_l3 c1 big 0 0
def F_octet_Text (p0 : (List UInt8)) (p1 : Int) : Option (ByteArray × Int × Int) :=
  (F_octet_One p0 p1).bind fun c1 => (if (c1.2.2 != 0) = true then some ((⟨#[]⟩ : ByteArray), 0, c1.2.2) else (F_octet_cut p0 c1.2.1 (IntKind.i64.wrap c1.1)).bind fun c6 => some ((⟨c6.1.toArray⟩ : ByteArray), c6.2.1, c6.2.2))
def F_slices_Grow_Sbyte_byte_k3 (p1 : Int) : Option (List UInt8) :=
  (if (decide ((IntKind.i64.wrap (p1 - (IntKind.i64.wrap (0 - 0)))) > 0)) = true then (nneg (IntKind.i64.wrap (p1 - (IntKind.i64.wrap (0 - 0))))).bind fun _ => (room (([] : List UInt8).length + Int.toNat (IntKind.i64.wrap (p1 - (IntKind.i64.wrap (0 - 0)))))).bind fun _ => (cutI (([] : List UInt8) ++ List.replicate (Int.toNat (IntKind.i64.wrap (p1 - (IntKind.i64.wrap (0 - 0))))) (0 : UInt8)) 0 0).bind fun y9 => some y9 else some ([]))
def F_slices_Grow_Sbyte_byte (_n0 : (List UInt8)) (p1 : Int) : Option (List UInt8) :=
  (if (decide (p1 < 0)) = true then none else F_slices_Grow_Sbyte_byte_k3 p1)
def F_slices_Concat_Sbyte_byte_l15B (rec16 : (List UInt8) → Int → Option (List UInt8)) (p0 : (List (List UInt8))) (x203 : List UInt8) (x206 : Int) : Option (List UInt8) :=
  (if (decide (x206 < (p0.length : Int))) = true then (getI p0 x206).bind fun y223 => (room (x203.length + y223.length)).bind fun _ => rec16 (x203 ++ y223) (IntKind.i64.wrap (x206 + 1)) else some x203)
def F_slices_Concat_Sbyte_byte_l15 (p0 : (List (List UInt8))) : Nat → (List UInt8) → Int → Option (List UInt8)
  | 0, _, _ => none
  | n + 1, x203, x206 => F_slices_Concat_Sbyte_byte_l15B (F_slices_Concat_Sbyte_byte_l15 p0 n) p0 x203 x206
def F_slices_Concat_Sbyte_byte_l13B (rec14 : Int → Int → Option (List UInt8)) (p0 : (List (List UInt8))) (x80 : Int) (x82 : Int) : Option (List UInt8) :=
  (if (decide (x82 < (p0.length : Int))) = true then (getI p0 x82).bind fun y161 => (if (decide ((IntKind.i64.wrap (x80 + (y161.length : Int))) < 0)) = true then none else rec14 (IntKind.i64.wrap (x80 + (y161.length : Int))) (IntKind.i64.wrap (x82 + 1))) else (F_slices_Grow_Sbyte_byte [] x80).bind fun c171 => F_slices_Concat_Sbyte_byte_l15 p0 big c171 0)
def F_slices_Concat_Sbyte_byte_l13 (p0 : (List (List UInt8))) : Nat → Int → Int → Option (List UInt8)
  | 0, _, _ => none
  | n + 1, x80, x82 => F_slices_Concat_Sbyte_byte_l13B (F_slices_Concat_Sbyte_byte_l13 p0 n) p0 x80 x82
def F_slices_Concat_Sbyte_byte (p0 : (List (List UInt8))) : Option (List UInt8) :=
  F_slices_Concat_Sbyte_byte_l13 p0 big 0 0
def F_octet_PutPlace_l3B (rec4 : (List UInt8) → Int → Option ((List UInt8) × Int)) (p0 : (List UInt8)) (p1 : Int) (x42 : List UInt8) (x44 : Int) : Option ((List UInt8) × Int) :=
  (if (decide (x44 < 3)) = true then (shrO .i64 p1 (IntKind.i64.wrap (8 * x44))).bind fun y78 => (getI x42 (IntKind.i64.wrap (2 - x44))).bind fun y80 => (u8o (IntKind.u8.wrap y78)).bind fun z87 => rec4 (x42.set (Int.toNat (IntKind.i64.wrap (2 - x44))) z87) (IntKind.i64.wrap (x44 + 1)) else (F_slices_Concat_Sbyte_byte ([p0, x42] : List (List UInt8))).bind fun c99 => some (c99, 0))
def F_octet_PutPlace_l3 (p0 : (List UInt8)) (p1 : Int) : Nat → (List UInt8) → Int → Option ((List UInt8) × Int)
  | 0, _, _ => none
  | n + 1, x42, x44 => F_octet_PutPlace_l3B (F_octet_PutPlace_l3 p0 p1 n) p0 p1 x42 x44
def F_octet_PutPlace (p0 : (List UInt8)) (p1 : Int) : Option ((List UInt8) × Int) :=
  (if ((decide (p1 < 0)) || (decide (p1 ≥ 16777216))) = true then some ([], 1) else F_octet_PutPlace_l3 p0 p1 big ([(0 : UInt8), (0 : UInt8), (0 : UInt8)] : List UInt8) 0)
def F_octet_PutText (p0 : (List UInt8)) (p1 : ByteArray) : Option ((List UInt8) × Int) :=
  (if (decide ((p1.size : Int) > 255)) = true then some ([], 1) else (u8o (IntKind.u8.wrap (p1.size : Int))).bind fun z2 => (F_slices_Concat_Sbyte_byte ([p0, ([z2] : List UInt8), (p1.data.toList)] : List (List UInt8))).bind fun c19 => some (c19, 0))
def F_law01_works  : Option Bool :=
  (F_octet_Pair 1 2).bind fun c1 => (u8o c1.1).bind fun z5 => (F_octet_PutPlace ([z5] : List UInt8) 258).bind fun c12 => (F_octet_PutText c12.1 (⟨#[97, 98]⟩ : ByteArray)).bind fun c23 => (F_octet_One c23.1 0).bind fun c34 => (F_octet_Place c23.1 c34.2.1).bind fun c38 => (F_octet_Text c23.1 c38.2.1).bind fun c42 => (F_octet_Halves c34.1).bind fun c46 => some (((((((c1.2 && (((((c12.2 == 0) && (c23.2 == 0)) && (c34.2.2 == 0)) && (c38.2.2 == 0)) && (c42.2.2 == 0))) && (c46.1 == 1)) && (c46.2 == 2)) && (c38.1 == 258)) && (strEq c42.1 (⟨#[97, 98]⟩ : ByteArray))) && ((c23.1.length : Int) == 7)) && (c42.2.1 == 7))
def F_law01_OctetHalves (p0 : Int) (p1 : Int) (p2 : Int) : Option Bool :=
  (F_octet_Pair p0 p1).bind fun c1 => (F_ref01_Pair p0 p1).bind fun c5 => (F_octet_Halves p2).bind fun c9 => (F_octet_Pair c9.1 c9.2).bind fun c13 => ((if ((((((c1.1 == c5.1) && (c1.2 == c5.2)) && (c9.1 == (IntKind.i64.wrap (Int.tdiv (IntKind.i64.wrap p2) 16)))) && (c9.2 == (Int.tmod (IntKind.i64.wrap p2) 16))) && (c13.1 == p2)) && c13.2) = true then (F_law01_works ).bind fun c20 => some c20 else some false)).bind fun c17 => some c17
def F_ref01_have (p0 : (List UInt8)) (p1 : Int) (p2 : Int) : Option Int :=
  (if ((decide (p1 < 0)) || (decide (p1 > (p0.length : Int)))) = true then some 1 else (if (decide ((IntKind.i64.wrap ((p0.length : Int) - p1)) < p2)) = true then some 5 else some 0))
def F_ref01_One (p0 : (List UInt8)) (p1 : Int) : Option (Int × Int × Int) :=
  (F_ref01_have p0 p1 1).bind fun c1 => (if (c1 != 0) = true then some (0, 0, c1) else (getI p0 p1).bind fun y6 => some ((y6.toNat : Int), (IntKind.i64.wrap (p1 + 1)), 0))
def F_ref01_Place (p0 : (List UInt8)) (p1 : Int) : Option (Int × Int × Int) :=
  (F_ref01_have p0 p1 3).bind fun c1 => (if (c1 != 0) = true then some (0, 0, c1) else (getI p0 p1).bind fun y6 => (getI p0 (IntKind.i64.wrap (p1 + 1))).bind fun y11 => (getI p0 (IntKind.i64.wrap (p1 + 2))).bind fun y16 => some ((IntKind.i64.wrap ((IntKind.i64.wrap ((IntKind.i64.wrap (65536 * (IntKind.i64.wrap (y6.toNat : Int)))) + (IntKind.i64.wrap (256 * (IntKind.i64.wrap (y11.toNat : Int)))))) + (IntKind.i64.wrap (y16.toNat : Int)))), (IntKind.i64.wrap (p1 + 3)), 0))
def F_ref01_Text_l5B (rec6 : ByteArray → Int → Option (ByteArray × Int × Int)) (p0 : (List UInt8)) (c1 : Int × Int × Int) (x23 : ByteArray) (x24 : Int) : Option (ByteArray × Int × Int) :=
  (if (decide (x24 < (IntKind.i64.wrap c1.1))) = true then (cutI p0 (IntKind.i64.wrap (c1.2.1 + x24)) (IntKind.i64.wrap ((IntKind.i64.wrap (c1.2.1 + x24)) + 1))).bind fun y35 => (catS x23 (⟨y35.toArray⟩ : ByteArray)).bind fun y40 => rec6 y40 (IntKind.i64.wrap (x24 + 1)) else some (x23, (IntKind.i64.wrap (c1.2.1 + (IntKind.i64.wrap c1.1))), 0))
def F_ref01_Text_l5 (p0 : (List UInt8)) (c1 : Int × Int × Int) : Nat → ByteArray → Int → Option (ByteArray × Int × Int)
  | 0, _, _ => none
  | n + 1, x23, x24 => F_ref01_Text_l5B (F_ref01_Text_l5 p0 c1 n) p0 c1 x23 x24
def F_ref01_Text_k5 (p0 : (List UInt8)) (c1 : Int × Int × Int) (x11 : Int) : Option (ByteArray × Int × Int) :=
  (if (x11 != 0) = true then some ((⟨#[]⟩ : ByteArray), 0, x11) else F_ref01_Text_l5 p0 c1 big (⟨#[]⟩ : ByteArray) 0)
def F_ref01_Text (p0 : (List UInt8)) (p1 : Int) : Option (ByteArray × Int × Int) :=
  (F_ref01_One p0 p1).bind fun c1 => (if (c1.2.2 == 0) = true then (F_ref01_have p0 c1.2.1 (IntKind.i64.wrap c1.1)).bind fun c43 => F_ref01_Text_k5 p0 c1 c43 else F_ref01_Text_k5 p0 c1 c1.2.2)
def F_law01_still_k11 (rec9 : Int → Option Bool) (y1 : (List UInt8)) (x38 : Int) (x75 : Int) : Option Bool :=
  (getI y1 x38).bind fun y76 => (if ((y76.toNat : Int) != x75) = true then some false else rec9 (IntKind.i64.wrap (x38 + 1)))
def F_law01_still_l8B (rec9 : Int → Option Bool) (p0 : (List UInt8)) (p1 : (List UInt8)) (y1 : (List UInt8)) (x38 : Int) : Option Bool :=
  (if (decide (x38 < (y1.length : Int))) = true then (if (decide (x38 < (p1.length : Int))) = true then (getI p1 x38).bind fun y83 => F_law01_still_k11 rec9 y1 x38 (y83.toNat : Int) else F_law01_still_k11 rec9 y1 x38 0) else some ((p0.length : Int) == (p1.length : Int)))
def F_law01_still_l8 (p0 : (List UInt8)) (p1 : (List UInt8)) (y1 : (List UInt8)) : Nat → Int → Option Bool
  | 0, _ => none
  | n + 1, x38 => F_law01_still_l8B (F_law01_still_l8 p0 p1 y1 n) p0 p1 y1 x38
def F_law01_still (p0 : (List UInt8)) (q0 : (List UInt8)) (p1 : (List UInt8)) : Option Bool :=
  (cutI q0 0 (q0.length : Int)).bind fun y1 => F_law01_still_l8 p0 p1 y1 big 0
def F_law01_OctetReads (p0 : (List UInt8)) (p1 : Int) : Option Bool :=
  (if (decide ((p0.length : Int) > 65536)) = true then (F_law01_works ).bind fun c2 => some c2 else (F_law01_mine p0).bind fun c6 => (F_octet_One c6.1 p1).bind fun c17 => (F_ref01_One p0 p1).bind fun c21 => (if (((c17.1 != c21.1) || (c17.2.1 != c21.2.1)) || (c17.2.2 != c21.2.2)) = true then some false else (F_octet_Place c6.1 p1).bind fun c26 => (F_ref01_Place p0 p1).bind fun c30 => (if (((c26.1 != c30.1) || (c26.2.1 != c30.2.1)) || (c26.2.2 != c30.2.2)) = true then some false else (F_octet_Text c6.1 p1).bind fun c35 => (F_ref01_Text p0 p1).bind fun c39 => ((if (((strEq c35.1 c39.1) && (c35.2.1 == c39.2.1)) && (c35.2.2 == c39.2.2)) = true then (F_law01_still c6.1 c6.2 p0).bind fun c46 => some c46 else some false)).bind fun c43 => ((if c43 = true then (F_law01_works ).bind fun c53 => some c53 else some false)).bind fun c50 => some c50)))
def F_ref01_PutPlace (p0 : (List UInt8)) (p1 : Int) : Option ((List UInt8) × Int) :=
  (if ((decide (p1 < 0)) || (decide (p1 ≥ 16777216))) = true then some ([], 1) else (room (([] : List UInt8).length + p0.length)).bind fun _ => (u8o (IntKind.u8.wrap (IntKind.i64.wrap (Int.tdiv p1 65536)))).bind fun z10 => (u8o (IntKind.u8.wrap (Int.tmod (IntKind.i64.wrap (Int.tdiv p1 256)) 256))).bind fun z11 => (u8o (IntKind.u8.wrap (Int.tmod p1 256))).bind fun z12 => (room ((([] : List UInt8) ++ p0).length + ([z10, z11, z12] : List UInt8).length)).bind fun _ => some (((([] : List UInt8) ++ p0) ++ ([z10, z11, z12] : List UInt8)), 0))
def F_ref01_PutText (p0 : (List UInt8)) (p1 : ByteArray) : Option ((List UInt8) × Int) :=
  (if (decide ((p1.size : Int) > 255)) = true then some ([], 1) else (room (([] : List UInt8).length + p0.length)).bind fun _ => (u8o (IntKind.u8.wrap (p1.size : Int))).bind fun z10 => (room ((([] : List UInt8) ++ p0).length + 1)).bind fun _ => (room (((([] : List UInt8) ++ p0) ++ [z10]).length + p1.size)).bind fun _ => some ((((([] : List UInt8) ++ p0) ++ [z10]) ++ p1.data.toList), 0))
def F_law01_OctetPuts_l3B (rec4 : (List UInt8) → (List UInt8) → (List UInt8) → Int → Option Bool) (p0 : (List UInt8)) (c6 : (List UInt8) × (List UInt8)) (x124 : List UInt8) (x130 : List UInt8) (x135 : List UInt8) (x137 : Int) : Option Bool :=
  (if (decide (x137 < (x124.length : Int))) = true then (getI x124 x137).bind fun y172 => (getI x124 x137).bind fun y179 => (u8o (IntKind.u8.wrap ((y172.toNat : Int) + 1))).bind fun z186 => rec4 (x124.set (Int.toNat x137) z186) x130 x135 (IntKind.i64.wrap (x137 + 1)) else ((if (strEq (⟨x130.toArray⟩ : ByteArray) (⟨x135.toArray⟩ : ByteArray)) = true then (F_law01_still c6.1 c6.2 p0).bind fun c192 => some c192 else some false)).bind fun c189 => ((if c189 = true then (F_law01_works ).bind fun c199 => some c199 else some false)).bind fun c196 => some c196)
def F_law01_OctetPuts_l3 (p0 : (List UInt8)) (c6 : (List UInt8) × (List UInt8)) : Nat → (List UInt8) → (List UInt8) → (List UInt8) → Int → Option Bool
  | 0, _, _, _, _ => none
  | n + 1, x124, x130, x135, x137 => F_law01_OctetPuts_l3B (F_law01_OctetPuts_l3 p0 c6 n) p0 c6 x124 x130 x135 x137
def F_law01_OctetPuts (p0 : (List UInt8)) (p1 : Int) (p2 : ByteArray) : Option Bool :=
  (if ((decide ((p0.length : Int) > 65536)) || (decide ((p2.size : Int) > 65536))) = true then (F_law01_works ).bind fun c2 => some c2 else (F_law01_mine p0).bind fun c6 => (F_octet_PutPlace c6.1 p1).bind fun c17 => (F_ref01_PutPlace p0 p1).bind fun c26 => (F_octet_PutText c6.1 p2).bind fun c35 => (F_ref01_PutText p0 p2).bind fun c44 => ((if (c17.2 != c26.2) = true then some true else some (!(strEq (⟨c17.1.toArray⟩ : ByteArray) (⟨c26.1.toArray⟩ : ByteArray))))).bind fun c53 => ((if (c53 || (c35.2 != c44.2)) = true then some true else some (!(strEq (⟨c35.1.toArray⟩ : ByteArray) (⟨c44.1.toArray⟩ : ByteArray))))).bind fun c56 => ((if c56 = true then some true else (F_law01_still c6.1 c6.2 p0).bind fun c62 => some (!c62))).bind fun c59 => (if c59 = true then some false else F_law01_OctetPuts_l3 p0 c6 big c17.1 c35.1 c44.1 0))
def F_law01_put (p0 : (List UInt8)) (p1 : S_law01_Thing) : Option ((List UInt8) × Bool) :=
  (if ((Int.tmod (p1.Kind.toNat : Int) 3) == 0) = true then (F_octet_Pair p1.High p1.Low).bind fun c3 => (u8o c3.1).bind fun z7 => (room (p0.length + 1)).bind fun _ => some ((p0 ++ [z7]), c3.2) else (if ((Int.tmod (p1.Kind.toNat : Int) 3) == 1) = true then (F_octet_PutPlace p0 p1.Place).bind fun c15 => some (c15.1, (c15.2 == 0)) else (F_octet_PutText p0 p1.Text).bind fun c26 => some (c26.1, (c26.2 == 0))))
def F_law01_got (p0 : (List UInt8)) (p1 : Int) (p2 : S_law01_Thing) : Option (Int × Bool) :=
  (if ((Int.tmod (p2.Kind.toNat : Int) 3) == 0) = true then (F_octet_One p0 p1).bind fun c3 => (F_octet_Halves c3.1).bind fun c7 => some (c3.2.1, (((c3.2.2 == 0) && (c7.1 == p2.High)) && (c7.2 == p2.Low))) else (if ((Int.tmod (p2.Kind.toNat : Int) 3) == 1) = true then (F_octet_Place p0 p1).bind fun c12 => some (c12.2.1, ((c12.2.2 == 0) && (c12.1 == p2.Place))) else (F_octet_Text p0 p1).bind fun c16 => some (c16.2.1, ((c16.2.2 == 0) && (strEq c16.1 p2.Text)))))
def F_law01_OctetOrder (p0 : Int) (p1 : Int) : Option Bool :=
  (F_octet_PutPlace [] p0).bind fun c1 => (F_octet_PutPlace [] p1).bind fun c10 => ((if (!((c1.2 == 0) == ((decide (p0 ≥ 0)) && (decide (p0 < 16777216))))) = true then some true else (if (decide (p1 ≥ 0)) = true then some (!((c10.2 == 0) == (decide (p1 < 16777216)))) else some (!((c10.2 == 0) == false))))).bind fun c19 => (if c19 = true then some false else (if ((c1.2 != 0) || (c10.2 != 0)) = true then (F_law01_works ).bind fun c25 => some c25 else ((if (((c1.1.length : Int) == 3) && ((c10.1.length : Int) == 3)) = true then some ((strLt (⟨c1.1.toArray⟩ : ByteArray) (⟨c10.1.toArray⟩ : ByteArray)) == (decide (p0 < p1))) else some false)).bind fun c29 => ((if c29 = true then (F_law01_works ).bind fun c35 => some c35 else some false)).bind fun c32 => some c32))
end Go.Proofs.Ytmcfgapknoiohaa
