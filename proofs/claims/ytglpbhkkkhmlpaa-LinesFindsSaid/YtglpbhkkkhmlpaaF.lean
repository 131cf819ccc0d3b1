import Derived.Test.YtglpbhkkkhmlpaaAd
import Derived.Test.YtglpbhkkkhmlpaaFM
namespace Go.Proofs.Ytglpbhkkkhmlpaa
open Go.Ab Go.RowKit
set_option linter.unusedVariables false
set_option linter.unusedSimpArgs false
set_option maxRecDepth 10000
structure S_api_Row where
  Pc : Int
  Point : Int
  deriving DecidableEq
def TyS_api_Row : Ty S_api_Row where
  sz := 2
  R := fun σ x cs => cs = [.int .i64 x.Pc, .int .i64 x.Point]
  len := by rintro σ x cs rfl; rfl
  one := by rintro σ x cs rfl; rfl
  mono := by rintro σ σ' x cs hle rfl; rfl
theorem TyS_api_Row_flat : TyS_api_Row.Flat := fun _ _ _ _ h => h

def F_lines_Right_l3B (rec4 : Int → Int → Option Bool) (p0 : (List S_api_Row)) (x12 : Int) (x14 : Int) : Option Bool :=
  (if (decide (x14 < (p0.length : Int))) = true then (getI p0 x14).bind fun y25 => (if ((((decide (y25.Pc ≤ x12)) || (decide (y25.Pc ≥ 16777216))) || (decide (y25.Point < 0))) || (decide (y25.Point ≥ 1000))) = true then some false else rec4 y25.Pc (IntKind.i64.wrap (x14 + 1))) else some (decide ((p0.length : Int) ≤ 20000)))
def F_lines_Right_l3 (p0 : (List S_api_Row)) : Nat → Int → Int → Option Bool
  | 0, _, _ => none
  | n + 1, x12, x14 => F_lines_Right_l3B (F_lines_Right_l3 p0 n) p0 x12 x14
def F_lines_Right (p0 : (List S_api_Row)) : Option Bool :=
  F_lines_Right_l3 p0 big (-1) 0
def F_slices_Clone_Sbyte_byte (p0 : (List UInt8)) : Option (List UInt8) := (room p0.length).bind fun _ => some p0
def F_lines_step_k3 (p1 : S_api_Row) (p2 : S_api_Row) (x28 : List UInt8) : Option (List UInt8) :=
  (if ((IntKind.i64.wrap (p2.Point - p1.Point)) != 0) = true then (room (x28.length + 1)).bind fun _ => (F_leb_PutS (x28 ++ [(2 : UInt8)]) (IntKind.i64.wrap (p2.Point - p1.Point))).bind fun c37 => (room (c37.length + 1)).bind fun _ => some (c37 ++ [(3 : UInt8)]) else (room (x28.length + 1)).bind fun _ => some (x28 ++ [(3 : UInt8)]))
def F_lines_step (p0 : (List UInt8)) (p1 : S_api_Row) (p2 : S_api_Row) : Option (List UInt8) :=
  (if (((decide ((IntKind.i64.wrap (p2.Pc - p1.Pc)) ≤ 20)) && (decide ((IntKind.i64.wrap (p2.Point - p1.Point)) ≥ (-4)))) && (decide ((IntKind.i64.wrap (p2.Point - p1.Point)) < 8))) = true then (u8o (IntKind.u8.wrap (IntKind.i64.wrap ((IntKind.i64.wrap ((IntKind.i64.wrap (4 + (IntKind.i64.wrap (12 * (IntKind.i64.wrap (p2.Pc - p1.Pc)))))) + (IntKind.i64.wrap (p2.Point - p1.Point)))) + 4)))).bind fun z4 => (room (p0.length + 1)).bind fun _ => some (p0 ++ [z4]) else (if ((IntKind.i64.wrap (p2.Pc - p1.Pc)) != 0) = true then (room (p0.length + 1)).bind fun _ => (F_leb_PutU (p0 ++ [(1 : UInt8)]) (IntKind.u64.wrap (IntKind.i64.wrap (p2.Pc - p1.Pc)))).bind fun c61 => F_lines_step_k3 p1 p2 c61 else F_lines_step_k3 p1 p2 p0))
def F_lines_Write_l3B (rec4 : (List UInt8) → Int → Int → Int → Option ((List UInt8) × Int)) (p0 : (List S_api_Row)) (x33 : List UInt8) (x35 : Int) (x36 : Int) (x38 : Int) : Option ((List UInt8) × Int) :=
  (if (decide (x38 < (p0.length : Int))) = true then (getI p0 x38).bind fun y61 => (F_lines_step x33 (⟨x35, x36⟩ : S_api_Row) (⟨y61.Pc, y61.Point⟩ : S_api_Row)).bind fun c67 => rec4 c67 y61.Pc y61.Point (IntKind.i64.wrap (x38 + 1)) else (room (x33.length + 1)).bind fun _ => some ((x33 ++ [(0 : UInt8)]), 0))
def F_lines_Write_l3 (p0 : (List S_api_Row)) : Nat → (List UInt8) → Int → Int → Int → Option ((List UInt8) × Int)
  | 0, _, _, _, _ => none
  | n + 1, x33, x35, x36, x38 => F_lines_Write_l3B (F_lines_Write_l3 p0 n) p0 x33 x35 x36 x38
def F_lines_Write (p0 : (List S_api_Row)) : Option ((List UInt8) × Int) :=
  (F_lines_Right p0).bind fun c1 => (if (!c1) = true then some ([], 1) else F_lines_Write_l3 p0 big ([]) 0 0 0)
def F_leb_digits_l3B (rec4 : Int → Int → Option (Int × Int)) (p0 : (List UInt8)) (x17 : Int) (x18 : Int) : Option (Int × Int) :=
  (if (decide (x18 < (minI (p0.length : Int) 10))) = true then (getI p0 x18).bind fun y35 => (shlO .u64 (IntKind.u64.wrap (andI .u8 (y35.toNat : Int) 127)) (IntKind.i64.wrap (7 * x18))).bind fun y40 => (getI p0 x18).bind fun y42 => (if (decide ((y42.toNat : Int) < 128)) = true then some ((orI .u64 x17 y40), (IntKind.i64.wrap (x18 + 1))) else rec4 (orI .u64 x17 y40) (IntKind.i64.wrap (x18 + 1))) else some (0, 0))
def F_leb_digits_l3 (p0 : (List UInt8)) : Nat → Int → Int → Option (Int × Int)
  | 0, _, _ => none
  | n + 1, x17, x18 => F_leb_digits_l3B (F_leb_digits_l3 p0 n) p0 x17 x18
def F_leb_digits (p0 : (List UInt8)) : Option (Int × Int) :=
  F_leb_digits_l3 p0 big 0 0
def F_slices_Equal_Sbyte_byte_l3B (rec4 : Int → Option Bool) (p0 : (List UInt8)) (p1 : (List UInt8)) (x18 : Int) : Option Bool :=
  (if (decide (x18 < (p0.length : Int))) = true then (getI p0 x18).bind fun y33 => (getI p1 x18).bind fun y38 => (if ((y33.toNat : Int) != (y38.toNat : Int)) = true then some false else rec4 (IntKind.i64.wrap (x18 + 1))) else some true)
def F_slices_Equal_Sbyte_byte_l3 (p0 : (List UInt8)) (p1 : (List UInt8)) : Nat → Int → Option Bool
  | 0, _ => none
  | n + 1, x18 => F_slices_Equal_Sbyte_byte_l3B (F_slices_Equal_Sbyte_byte_l3 p0 p1 n) p0 p1 x18
def F_slices_Equal_Sbyte_byte (p0 : (List UInt8)) (p1 : (List UInt8)) : Option Bool :=
  (if ((p0.length : Int) != (p1.length : Int)) = true then some false else F_slices_Equal_Sbyte_byte_l3 p0 p1 big 0)
def F_leb_U_1 (p0 : Int) (p1 : Int) : Option Int :=
  some p0
def F_leb_S_1 (p0 : Int) (p1 : Int) : Option Int :=
  (shlO .u64 p0 (maxI 0 (IntKind.i64.wrap (64 - (IntKind.i64.wrap (7 * p1)))))).bind fun y1 => (shrO .i64 (IntKind.i64.wrap y1) (maxI 0 (IntKind.i64.wrap (64 - (IntKind.i64.wrap (7 * p1)))))).bind fun y3 => some y3
def F_lines_move_k3 (p1 : Int) (y2 : UInt8) (x18 : Bool) : Option (S_api_Row × Int × Bool) :=
  (if x18 = true then some ((⟨0, 0⟩ : S_api_Row), (IntKind.i64.wrap (p1 + 1)), true) else some ((⟨(IntKind.i64.wrap (Int.tdiv (IntKind.i64.wrap ((IntKind.i64.wrap (y2.toNat : Int)) - 4)) 12)), (IntKind.i64.wrap ((Int.tmod (IntKind.i64.wrap ((IntKind.i64.wrap (y2.toNat : Int)) - 4)) 12) - 4))⟩ : S_api_Row), (IntKind.i64.wrap (p1 + 1)), true))
def F_lines_move (p0 : (List UInt8)) (p1 : Int) : Option (S_api_Row × Int × Bool) :=
  (getI p0 p1).bind fun y2 => (if ((IntKind.i64.wrap (y2.toNat : Int)) == 1) = true then (F_leb_U p0 (IntKind.i64.wrap (p1 + 1))).bind fun c8 => some ((⟨(IntKind.i64.wrap (minI c8.1 16777217)), 0⟩ : S_api_Row), c8.2.1, (c8.2.2 == 0)) else (if ((IntKind.i64.wrap (y2.toNat : Int)) == 2) = true then (F_leb_S p0 (IntKind.i64.wrap (p1 + 1))).bind fun c13 => some ((⟨0, (maxI (-16777217) (minI c13.1 16777217))⟩ : S_api_Row), c13.2.1, (c13.2.2 == 0)) else (if ((IntKind.i64.wrap (y2.toNat : Int)) == 0) = true then F_lines_move_k3 p1 y2 ((IntKind.i64.wrap (y2.toNat : Int)) == 0) else F_lines_move_k3 p1 y2 ((IntKind.i64.wrap (y2.toNat : Int)) == 3))))
def F_lines_Read_l3B (rec4 : (List S_api_Row) → Int → Int → Int → Option ((List S_api_Row) × Int)) (p0 : (List UInt8)) (x34 : List S_api_Row) (x36 : Int) (x37 : Int) (x38 : Int) : Option ((List S_api_Row) × Int) :=
  (if (decide (x38 < (p0.length : Int))) = true then (getI p0 x38).bind fun y69 => (F_lines_move p0 x38).bind fun c74 => (if ((((!c74.2.2) || (decide ((IntKind.i64.wrap (x36 + c74.1.Pc)) > 16777216))) || (decide ((IntKind.i64.wrap (x37 + c74.1.Point)) < 0))) || (decide ((IntKind.i64.wrap (x37 + c74.1.Point)) > 16777216))) = true then some ([], 5) else (if ((y69.toNat : Int) == 0) = true then ((if (c74.2.1 != (p0.length : Int)) = true then some true else (F_lines_Right x34).bind fun c86 => some (!c86))).bind fun c83 => (if c83 = true then some ([], 5) else some (x34, 0)) else (if (decide ((y69.toNat : Int) ≥ 3)) = true then (room (x34.length + 1)).bind fun _ => rec4 (x34 ++ [(⟨(IntKind.i64.wrap (x36 + c74.1.Pc)), (IntKind.i64.wrap (x37 + c74.1.Point))⟩ : S_api_Row)]) (IntKind.i64.wrap (x36 + c74.1.Pc)) (IntKind.i64.wrap (x37 + c74.1.Point)) c74.2.1 else rec4 x34 (IntKind.i64.wrap (x36 + c74.1.Pc)) (IntKind.i64.wrap (x37 + c74.1.Point)) c74.2.1))) else some ([], 5))
def F_lines_Read_l3 (p0 : (List UInt8)) : Nat → (List S_api_Row) → Int → Int → Int → Option ((List S_api_Row) × Int)
  | 0, _, _, _, _ => none
  | n + 1, x34, x36, x37, x38 => F_lines_Read_l3B (F_lines_Read_l3 p0 n) p0 x34 x36 x37 x38
def F_lines_Read (p0 : (List UInt8)) : Option ((List S_api_Row) × Int) :=
  F_lines_Read_l3 p0 big ([]) 0 0 0
def F_lines_At_1_sf_3 (p0 : S_api_Row) (qf0 : Int) : Option Bool :=
  some (p0.Pc == qf0)
def F_lines_pick_s30_3_l3B (rec4 : (List S_api_Row) → Int → Option (List S_api_Row)) (p0 : (List S_api_Row)) (q1_0 : Int) (x24 : List S_api_Row) (x27 : Int) : Option (List S_api_Row) :=
  (if (decide (x27 < (p0.length : Int))) = true then (getI p0 x27).bind fun y46 => (F_lines_At_1_sf_3 (⟨y46.Pc, y46.Point⟩ : S_api_Row) q1_0).bind fun c52 => (if c52 = true then (room (x24.length + 1)).bind fun _ => rec4 (x24 ++ [(⟨y46.Pc, y46.Point⟩ : S_api_Row)]) (IntKind.i64.wrap (x27 + 1)) else rec4 x24 (IntKind.i64.wrap (x27 + 1))) else some x24)
def F_lines_pick_s30_3_l3 (p0 : (List S_api_Row)) (q1_0 : Int) : Nat → (List S_api_Row) → Int → Option (List S_api_Row)
  | 0, _, _ => none
  | n + 1, x24, x27 => F_lines_pick_s30_3_l3B (F_lines_pick_s30_3_l3 p0 q1_0 n) p0 q1_0 x24 x27
def F_lines_pick_s30_3 (p0 : (List S_api_Row)) (q1_0 : Int) : Option (List S_api_Row) :=
  F_lines_pick_s30_3_l3 p0 q1_0 big ([]) 0
def F_lines_At (p0 : (List S_api_Row)) (p1 : Int) : Option (Int × Bool) :=
  (F_lines_pick_s30_3 p0 p1).bind fun c4 => (if ((c4.length : Int) == 0) = true then some (0, false) else (getI c4 0).bind fun y14 => some (y14.Point, true))
def F_lines_Pcs_1_sf_3 (p0 : S_api_Row) (qf0 : Int) : Option Bool :=
  some (p0.Point == qf0)
def F_lines_pick_s31_3_l3B (rec4 : (List S_api_Row) → Int → Option (List S_api_Row)) (p0 : (List S_api_Row)) (q1_0 : Int) (x24 : List S_api_Row) (x27 : Int) : Option (List S_api_Row) :=
  (if (decide (x27 < (p0.length : Int))) = true then (getI p0 x27).bind fun y46 => (F_lines_Pcs_1_sf_3 (⟨y46.Pc, y46.Point⟩ : S_api_Row) q1_0).bind fun c52 => (if c52 = true then (room (x24.length + 1)).bind fun _ => rec4 (x24 ++ [(⟨y46.Pc, y46.Point⟩ : S_api_Row)]) (IntKind.i64.wrap (x27 + 1)) else rec4 x24 (IntKind.i64.wrap (x27 + 1))) else some x24)
def F_lines_pick_s31_3_l3 (p0 : (List S_api_Row)) (q1_0 : Int) : Nat → (List S_api_Row) → Int → Option (List S_api_Row)
  | 0, _, _ => none
  | n + 1, x24, x27 => F_lines_pick_s31_3_l3B (F_lines_pick_s31_3_l3 p0 q1_0 n) p0 q1_0 x24 x27
def F_lines_pick_s31_3 (p0 : (List S_api_Row)) (q1_0 : Int) : Option (List S_api_Row) :=
  F_lines_pick_s31_3_l3 p0 q1_0 big ([]) 0
def F_lines_Pcs_l3B (rec4 : (List Int) → (List S_api_Row) → Int → Option (List Int)) (c4 : (List S_api_Row)) (x35 : List Int) (x40 : List S_api_Row) (x42 : Int) : Option (List Int) :=
  (if (decide (x42 < (c4.length : Int))) = true then (getI x40 x42).bind fun y58 => (room (x35.length + 1)).bind fun _ => rec4 (x35 ++ [y58.Pc]) x40 (IntKind.i64.wrap (x42 + 1)) else some x35)
def F_lines_Pcs_l3 (c4 : (List S_api_Row)) : Nat → (List Int) → (List S_api_Row) → Int → Option (List Int)
  | 0, _, _, _ => none
  | n + 1, x35, x40, x42 => F_lines_Pcs_l3B (F_lines_Pcs_l3 c4 n) c4 x35 x40 x42
def F_lines_Pcs (p0 : (List S_api_Row)) (p1 : Int) : Option (List Int) :=
  (F_lines_pick_s31_3 p0 p1).bind fun c4 => F_lines_Pcs_l3 c4 big ([]) c4 0
def F_law05_works  : Option Bool :=
  (F_lines_Write ([(⟨0, 0⟩ : S_api_Row), (⟨3, 1⟩ : S_api_Row), (⟨303, 0⟩ : S_api_Row)] : List S_api_Row)).bind fun c7 => (F_lines_Read c7.1).bind fun c18 => (F_lines_At ([(⟨0, 0⟩ : S_api_Row), (⟨3, 1⟩ : S_api_Row), (⟨303, 0⟩ : S_api_Row)] : List S_api_Row) 3).bind fun c26 => (F_lines_Pcs ([(⟨0, 0⟩ : S_api_Row), (⟨3, 1⟩ : S_api_Row), (⟨303, 0⟩ : S_api_Row)] : List S_api_Row) 0).bind fun c30 => ((if ((c7.2 == 0) && ((c7.1.length : Int) == 9)) = true then (getI c7.1 1).bind fun y42 => some ((y42.toNat : Int) == 45) else some false)).bind fun c39 => ((if ((c39 && (c18.2 == 0)) && ((c18.1.length : Int) == 3)) = true then (getI c18.1 2).bind fun y50 => (getI ([(⟨0, 0⟩ : S_api_Row), (⟨3, 1⟩ : S_api_Row), (⟨303, 0⟩ : S_api_Row)] : List S_api_Row) 2).bind fun y55 => some (( y50.Pc == y55.Pc) && (( y50.Point == y55.Point) && true)) else some false)).bind fun c47 => ((if (((c47 && c26.2) && (c26.1 == 1)) && ((c30.length : Int) == 2)) = true then (getI c30 1).bind fun y63 => some (y63 == 303) else some false)).bind fun c60 => some c60
def F_law05_twin (p0 : (List S_api_Row)) : Option (List S_api_Row) :=
  (room (([] : List S_api_Row).length + p0.length)).bind fun _ => some (([] : List S_api_Row) ++ p0)
def F_ref05_Right_l3B (rec4 : Int → Int → Option Bool) (p0 : (List S_api_Row)) (x39 : Int) (x40 : Int) : Option Bool :=
  (if (decide (x40 < (p0.length : Int))) = true then (getI p0 x40).bind fun y79 => ((if (decide (y79.Pc ≤ x39)) = true then some true else (getI p0 x40).bind fun y87 => some (decide (y87.Pc ≥ 16777216)))).bind fun c84 => ((if c84 = true then some true else (getI p0 x40).bind fun y95 => some (decide (y95.Point < 0)))).bind fun c92 => ((if c92 = true then some true else (getI p0 x40).bind fun y103 => some (decide (y103.Point ≥ 1000)))).bind fun c100 => (if c100 = true then some false else (getI p0 x40).bind fun y109 => rec4 y109.Pc (IntKind.i64.wrap (x40 + 1))) else some (decide ((p0.length : Int) ≤ 20000)))
def F_ref05_Right_l3 (p0 : (List S_api_Row)) : Nat → Int → Int → Option Bool
  | 0, _, _ => none
  | n + 1, x39, x40 => F_ref05_Right_l3B (F_ref05_Right_l3 p0 n) p0 x39 x40
def F_ref05_Right (p0 : (List S_api_Row)) : Option Bool :=
  F_ref05_Right_l3 p0 big (-1) 0
def F_ref02_fitsU (p0 : Int) (p1 : Int) : Option Bool :=
  ((if (decide ((IntKind.i64.wrap (7 * p1)) ≥ 64)) = true then some true else (shlO .u64 1 (IntKind.u64.wrap (IntKind.i64.wrap (7 * p1)))).bind fun y4 => some (decide (p0 < y4)))).bind fun c1 => some c1
def F_ref00_CopyBytes_l3B (rec4 : (List UInt8) → Int → Option (List UInt8)) (p0 : (List UInt8)) (x16 : List UInt8) (x19 : Int) : Option (List UInt8) :=
  (if (decide (x19 < (p0.length : Int))) = true then (getI p0 x19).bind fun y32 => (room (x16.length + 1)).bind fun _ => rec4 (x16 ++ [y32]) (IntKind.i64.wrap (x19 + 1)) else some x16)
def F_ref00_CopyBytes_l3 (p0 : (List UInt8)) : Nat → (List UInt8) → Int → Option (List UInt8)
  | 0, _, _ => none
  | n + 1, x16, x19 => F_ref00_CopyBytes_l3B (F_ref00_CopyBytes_l3 p0 n) p0 x16 x19
def F_ref00_CopyBytes (p0 : (List UInt8)) : Option (List UInt8) :=
  F_ref00_CopyBytes_l3 p0 big ([]) 0
def F_ref02_digits_k11 (rec9 : Int → (List UInt8) → Int → Option (List UInt8)) (p3 : Int) (x35 : Int) (x41 : Int) (x65 : Int) (x69 : List UInt8) : Option (List UInt8) :=
  (if (decide (x41 < (IntKind.i64.wrap (p3 - 1)))) = true then (u8o (IntKind.u8.wrap (IntKind.u64.wrap ((Int.tmod x35 128) + 128)))).bind fun z72 => (room (x69.length + 1)).bind fun _ => rec9 x65 (x69 ++ [z72]) (IntKind.i64.wrap (x41 + 1)) else (u8o (IntKind.u8.wrap (Int.tmod x35 128))).bind fun z77 => (room (x69.length + 1)).bind fun _ => rec9 x65 (x69 ++ [z77]) (IntKind.i64.wrap (x41 + 1)))
def F_ref02_digits_l8B (rec9 : Int → (List UInt8) → Int → Option (List UInt8)) (p2 : Bool) (p3 : Int) (x35 : Int) (x39 : List UInt8) (x41 : Int) : Option (List UInt8) :=
  (if (decide (x41 < p3)) = true then (if p2 = true then F_ref02_digits_k11 rec9 p3 x35 x41 (orI .u64 (IntKind.u64.wrap (Int.tdiv x35 128)) 18302628885633695744) x39 else F_ref02_digits_k11 rec9 p3 x35 x41 (IntKind.u64.wrap (Int.tdiv x35 128)) x39) else some x39)
def F_ref02_digits_l8 (p2 : Bool) (p3 : Int) : Nat → Int → (List UInt8) → Int → Option (List UInt8)
  | 0, _, _, _ => none
  | n + 1, x35, x39, x41 => F_ref02_digits_l8B (F_ref02_digits_l8 p2 p3 n) p2 p3 x35 x39 x41
def F_ref02_digits (p0 : (List UInt8)) (p1 : Int) (p2 : Bool) (p3 : Int) : Option (List UInt8) :=
  (F_ref00_CopyBytes p0).bind fun c1 => F_ref02_digits_l8 p2 p3 big p1 c1 0
def F_ref02_fitsS (p0 : Int) (p1 : Int) : Option Bool :=
  (if (decide ((IntKind.i64.wrap ((IntKind.i64.wrap (7 * p1)) - 1)) ≥ 63)) = true then some true else (shlO .i64 1 (IntKind.u64.wrap (IntKind.i64.wrap ((IntKind.i64.wrap (7 * p1)) - 1)))).bind fun y2 => ((if (decide (p0 ≥ (IntKind.i64.wrap (0 - y2)))) = true then (shlO .i64 1 (IntKind.u64.wrap (IntKind.i64.wrap ((IntKind.i64.wrap (7 * p1)) - 1)))).bind fun y7 => some (decide (p0 < y7)) else some false)).bind fun c4 => some c4)
def F_ref05_Write_k22 (rec19 : (List UInt8) → Int → Int → Int → Option ((List UInt8) × Int)) (p0 : (List S_api_Row)) (x189 : Int) (x441 : List UInt8) : Option ((List UInt8) × Int) :=
  (getI p0 x189).bind fun y443 => (getI p0 x189).bind fun y448 => rec19 x441 y443.Pc y448.Point (IntKind.i64.wrap (x189 + 1))
def F_ref05_Write_k24 (rec19 : (List UInt8) → Int → Int → Int → Option ((List UInt8) × Int)) (p0 : (List S_api_Row)) (x188 : Int) (x189 : Int) (y364 : S_api_Row) (x479 : List UInt8) : Option ((List UInt8) × Int) :=
  (if ((IntKind.i64.wrap (y364.Point - x188)) != 0) = true then (room (x479.length + 1)).bind fun _ => (F_ref02_PutS (x479 ++ [(2 : UInt8)]) (IntKind.i64.wrap (y364.Point - x188))).bind fun c488 => (room (c488.length + 1)).bind fun _ => F_ref05_Write_k22 rec19 p0 x189 (c488 ++ [(3 : UInt8)]) else (room (x479.length + 1)).bind fun _ => F_ref05_Write_k22 rec19 p0 x189 (x479 ++ [(3 : UInt8)]))
def F_ref05_Write_l18B (rec19 : (List UInt8) → Int → Int → Int → Option ((List UInt8) × Int)) (p0 : (List S_api_Row)) (x185 : List UInt8) (x187 : Int) (x188 : Int) (x189 : Int) : Option ((List UInt8) × Int) :=
  (if (decide (x189 < (p0.length : Int))) = true then (getI p0 x189).bind fun y359 => (getI p0 x189).bind fun y364 => (if (((decide ((IntKind.i64.wrap (y359.Pc - x187)) ≤ 20)) && (decide ((IntKind.i64.wrap (y364.Point - x188)) ≥ (-4)))) && (decide ((IntKind.i64.wrap (y364.Point - x188)) ≤ 7))) = true then (u8o (IntKind.u8.wrap (IntKind.i64.wrap ((IntKind.i64.wrap ((IntKind.i64.wrap (4 + (IntKind.i64.wrap (12 * (IntKind.i64.wrap (y359.Pc - x187)))))) + (IntKind.i64.wrap (y364.Point - x188)))) + 4)))).bind fun z454 => (room (x185.length + 1)).bind fun _ => F_ref05_Write_k22 rec19 p0 x189 (x185 ++ [z454]) else (if ((IntKind.i64.wrap (y359.Pc - x187)) != 0) = true then (room (x185.length + 1)).bind fun _ => (F_ref02_PutU (x185 ++ [(1 : UInt8)]) (IntKind.u64.wrap (IntKind.i64.wrap (y359.Pc - x187)))).bind fun c512 => F_ref05_Write_k24 rec19 p0 x188 x189 y364 c512 else F_ref05_Write_k24 rec19 p0 x188 x189 y364 x185)) else (room (x185.length + 1)).bind fun _ => some ((x185 ++ [(0 : UInt8)]), 0))
def F_ref05_Write_l18 (p0 : (List S_api_Row)) : Nat → (List UInt8) → Int → Int → Int → Option ((List UInt8) × Int)
  | 0, _, _, _, _ => none
  | n + 1, x185, x187, x188, x189 => F_ref05_Write_l18B (F_ref05_Write_l18 p0 n) p0 x185 x187 x188 x189
def F_ref05_Write (p0 : (List S_api_Row)) : Option ((List UInt8) × Int) :=
  (F_ref05_Right p0).bind fun c1 => (if (!c1) = true then some ([], 1) else F_ref05_Write_l18 p0 big ([]) 0 0 0)
def F_law05_SameRows_l3B (rec4 : Int → Option Bool) (p0 : (List S_api_Row)) (p1 : (List S_api_Row)) (x18 : Int) : Option Bool :=
  (if (decide (x18 < (p0.length : Int))) = true then (getI p0 x18).bind fun y33 => (getI p1 x18).bind fun y38 => (if (!(( y33.Pc == y38.Pc) && (( y33.Point == y38.Point) && true))) = true then some false else rec4 (IntKind.i64.wrap (x18 + 1))) else some true)
def F_law05_SameRows_l3 (p0 : (List S_api_Row)) (p1 : (List S_api_Row)) : Nat → Int → Option Bool
  | 0, _ => none
  | n + 1, x18 => F_law05_SameRows_l3B (F_law05_SameRows_l3 p0 p1 n) p0 p1 x18
def F_law05_SameRows (p0 : (List S_api_Row)) (p1 : (List S_api_Row)) : Option Bool :=
  (if ((p0.length : Int) != (p1.length : Int)) = true then some false else F_law05_SameRows_l3 p0 p1 big 0)
def F_law05_LinesWrites (p0 : (List S_api_Row)) : Option Bool :=
  (if (decide ((p0.length : Int) > 30000)) = true then (F_law05_works ).bind fun c2 => some c2 else (F_law05_twin p0).bind fun c6 => (F_lines_Write c6).bind fun c17 => (F_ref05_Write p0).bind fun c26 => ((if (c17.2 == c26.2) = true then (F_ref00_EqBytes c17.1 c26.1).bind fun c42 => some c42 else some false)).bind fun c39 => ((if c39 = true then (F_lines_Right c6).bind fun c49 => (F_ref05_Right p0).bind fun c53 => some (c49 == c53) else some false)).bind fun c46 => ((if c46 = true then (F_law05_SameRows c6 p0).bind fun c60 => some c60 else some false)).bind fun c57 => ((if c57 = true then (F_law05_works ).bind fun c67 => some c67 else some false)).bind fun c64 => some c64)
def F_ref02_long_l3B (rec4 : Int → Option Int) (p0 : (List UInt8)) (p1 : Int) (x10 : Int) : Option Int :=
  (if ((decide (x10 < 10)) && (decide ((IntKind.i64.wrap (p1 + x10)) < (p0.length : Int)))) = true then (getI p0 (IntKind.i64.wrap (p1 + x10))).bind fun y20 => (if (decide ((y20.toNat : Int) < 128)) = true then some (IntKind.i64.wrap (x10 + 1)) else rec4 (IntKind.i64.wrap (x10 + 1))) else some 0)
def F_ref02_long_l3 (p0 : (List UInt8)) (p1 : Int) : Nat → Int → Option Int
  | 0, _ => none
  | n + 1, x10 => F_ref02_long_l3B (F_ref02_long_l3 p0 p1 n) p0 p1 x10
def F_ref02_long (p0 : (List UInt8)) (p1 : Int) : Option Int :=
  F_ref02_long_l3 p0 p1 big 0
def F_ref02_sum_l3B (rec4 : Int → Int → Option Int) (p0 : (List UInt8)) (p1 : Int) (x9 : Int) (x10 : Int) : Option Int :=
  (if (decide (x10 ≥ 0)) = true then (getI p0 (IntKind.i64.wrap (p1 + x10))).bind fun y19 => rec4 (IntKind.u64.wrap ((IntKind.u64.wrap (128 * x9)) + (IntKind.u64.wrap (Int.tmod (y19.toNat : Int) 128)))) (IntKind.i64.wrap (x10 - 1)) else some x9)
def F_ref02_sum_l3 (p0 : (List UInt8)) (p1 : Int) : Nat → Int → Int → Option Int
  | 0, _, _ => none
  | n + 1, x9, x10 => F_ref02_sum_l3B (F_ref02_sum_l3 p0 p1 n) p0 p1 x9 x10
def F_ref02_sum (p0 : (List UInt8)) (p1 : Int) (p2 : Int) : Option Int :=
  F_ref02_sum_l3 p0 p1 big 0 (IntKind.i64.wrap (p2 - 1))
def F_ref02_stands_l3B (rec4 : Int → Option Bool) (p0 : (List UInt8)) (p1 : Int) (p2 : (List UInt8)) (x18 : Int) : Option Bool :=
  (if (decide (x18 < (p2.length : Int))) = true then (getI p0 (IntKind.i64.wrap (p1 + x18))).bind fun y33 => (getI p2 x18).bind fun y38 => (if ((y33.toNat : Int) != (y38.toNat : Int)) = true then some false else rec4 (IntKind.i64.wrap (x18 + 1))) else some true)
def F_ref02_stands_l3 (p0 : (List UInt8)) (p1 : Int) (p2 : (List UInt8)) : Nat → Int → Option Bool
  | 0, _ => none
  | n + 1, x18 => F_ref02_stands_l3B (F_ref02_stands_l3 p0 p1 p2 n) p0 p1 p2 x18
def F_ref02_stands (p0 : (List UInt8)) (p1 : Int) (p2 : (List UInt8)) : Option Bool :=
  (if (decide ((p2.length : Int) > (IntKind.i64.wrap ((p0.length : Int) - p1)))) = true then some false else F_ref02_stands_l3 p0 p1 p2 big 0)
def F_ref05_Read_k12 (rec10 : (List S_api_Row) → Int → Int → Int → Option ((List S_api_Row) × Int)) (x58 : Int) (x59 : Int) (y119 : UInt8) (x150 : List S_api_Row) (x152 : Int) (x153 : Int) (x154 : Int) (x155 : Int) : Option ((List S_api_Row) × Int) :=
  (if ((((x153 != 0) || (decide (x154 > 16777216))) || (decide (x155 > 16777216))) || (decide (x155 < (-16777216)))) = true then some ([], 5) else (if (((decide ((IntKind.i64.wrap (x58 + (IntKind.i64.wrap x154))) > 16777216)) || (decide ((IntKind.i64.wrap (x59 + x155)) < 0))) || (decide ((IntKind.i64.wrap (x59 + x155)) > 16777216))) = true then some ([], 5) else (if (decide ((IntKind.i64.wrap (y119.toNat : Int)) ≥ 3)) = true then (room (x150.length + 1)).bind fun _ => rec10 (x150 ++ [(⟨(IntKind.i64.wrap (x58 + (IntKind.i64.wrap x154))), (IntKind.i64.wrap (x59 + x155))⟩ : S_api_Row)]) (IntKind.i64.wrap (x58 + (IntKind.i64.wrap x154))) (IntKind.i64.wrap (x59 + x155)) x152 else rec10 x150 (IntKind.i64.wrap (x58 + (IntKind.i64.wrap x154))) (IntKind.i64.wrap (x59 + x155)) x152)))
def F_ref05_Read_l9B (rec10 : (List S_api_Row) → Int → Int → Int → Option ((List S_api_Row) × Int)) (p0 : (List UInt8)) (x56 : List S_api_Row) (x58 : Int) (x59 : Int) (x60 : Int) : Option ((List S_api_Row) × Int) :=
  (if (decide (x60 < (p0.length : Int))) = true then (getI p0 x60).bind fun y119 => (if ((IntKind.i64.wrap (y119.toNat : Int)) == 0) = true then ((if ((IntKind.i64.wrap (x60 + 1)) != (p0.length : Int)) = true then some true else (F_ref05_Right x56).bind fun c130 => some (!c130))).bind fun c127 => (if c127 = true then some ([], 5) else some (x56, 0)) else (if ((IntKind.i64.wrap (y119.toNat : Int)) == 1) = true then (F_ref02_U p0 (IntKind.i64.wrap (x60 + 1))).bind fun c164 => F_ref05_Read_k12 rec10 x58 x59 y119 x56 c164.2.1 c164.2.2 c164.1 0 else (if ((IntKind.i64.wrap (y119.toNat : Int)) == 2) = true then (F_ref02_S p0 (IntKind.i64.wrap (x60 + 1))).bind fun c169 => F_ref05_Read_k12 rec10 x58 x59 y119 x56 c169.2.1 c169.2.2 0 c169.1 else (if ((IntKind.i64.wrap (y119.toNat : Int)) == 3) = true then F_ref05_Read_k12 rec10 x58 x59 y119 x56 (IntKind.i64.wrap (x60 + 1)) 0 0 0 else F_ref05_Read_k12 rec10 x58 x59 y119 x56 (IntKind.i64.wrap (x60 + 1)) 0 (IntKind.u64.wrap (IntKind.i64.wrap (Int.tdiv (IntKind.i64.wrap ((IntKind.i64.wrap (y119.toNat : Int)) - 4)) 12))) (IntKind.i64.wrap ((Int.tmod (IntKind.i64.wrap ((IntKind.i64.wrap (y119.toNat : Int)) - 4)) 12) - 4)))))) else some ([], 5))
def F_ref05_Read_l9 (p0 : (List UInt8)) : Nat → (List S_api_Row) → Int → Int → Int → Option ((List S_api_Row) × Int)
  | 0, _, _, _, _ => none
  | n + 1, x56, x58, x59, x60 => F_ref05_Read_l9B (F_ref05_Read_l9 p0 n) p0 x56 x58 x59 x60
def F_ref05_Read (p0 : (List UInt8)) : Option ((List S_api_Row) × Int) :=
  F_ref05_Read_l9 p0 big ([]) 0 0 0
def F_ref00_Kept_l3B (rec4 : Int → Option Bool) (p1 : (List UInt8)) (y2 : (List UInt8)) (x25 : Int) : Option Bool :=
  (if (decide (x25 < (y2.length : Int))) = true then (getI y2 x25).bind fun y42 => (if (decide (x25 < (p1.length : Int))) = true then (getI p1 x25).bind fun y48 => (if ((y42.toNat : Int) != (y48.toNat : Int)) = true then some false else rec4 (IntKind.i64.wrap (x25 + 1))) else (if ((y42.toNat : Int) != (IntKind.u8.wrap (IntKind.i64.wrap ((IntKind.i64.wrap (8 + (p1.length : Int))) - x25)))) = true then some false else rec4 (IntKind.i64.wrap (x25 + 1)))) else some true)
def F_ref00_Kept_l3 (p1 : (List UInt8)) (y2 : (List UInt8)) : Nat → Int → Option Bool
  | 0, _ => none
  | n + 1, x25 => F_ref00_Kept_l3B (F_ref00_Kept_l3 p1 y2 n) p1 y2 x25
def F_ref00_Kept (p0 : (List UInt8)) (q0 : (List UInt8)) (p1 : (List UInt8)) : Option Bool :=
  (if (((p0.length : Int) != (p1.length : Int)) || (decide ((q0.length : Int) < (IntKind.i64.wrap ((p0.length : Int) + 8))))) = true then some false else (cutI q0 0 (IntKind.i64.wrap ((p0.length : Int) + 8))).bind fun y2 => F_ref00_Kept_l3 p1 y2 big 0)
def F_law05_LinesReads (p0 : (List UInt8)) : Option Bool :=
  (if (decide ((p0.length : Int) > 65536)) = true then (F_law05_works ).bind fun c2 => some c2 else (F_ref00_Roomy p0).bind fun c6 => (F_lines_Read c6.1).bind fun c17 => (F_ref05_Read p0).bind fun c25 => ((if (c17.2 == c25.2) = true then (F_law05_SameRows c17.1 c25.1).bind fun c36 => some c36 else some false)).bind fun c33 => ((if c33 = true then (F_ref00_Kept c6.1 c6.2 p0).bind fun c43 => some c43 else some false)).bind fun c40 => ((if c40 = true then (F_law05_works ).bind fun c50 => some c50 else some false)).bind fun c47 => some c47)
def F_law05_LinesBack_k9 (p1 : (List UInt8)) : Option Bool :=
  (F_lines_Read p1).bind fun c103 => (if (c103.2 != 0) = true then ((if ((c103.2 == 5) && ((c103.1.length : Int) == 0)) = true then (F_law05_works ).bind fun c115 => some c115 else some false)).bind fun c112 => some c112 else (F_law05_twin c103.1).bind fun c119 => (F_lines_Write c119).bind fun c130 => (F_lines_Read c130.1).bind fun c141 => (F_lines_Right c103.1).bind fun c149 => ((if ((c149 && (c130.2 == 0)) && (c141.2 == 0)) = true then (F_law05_SameRows c103.1 c141.1).bind fun c156 => some c156 else some false)).bind fun c153 => ((if (c153 && (decide ((c130.1.length : Int) ≤ (IntKind.i64.wrap ((IntKind.i64.wrap (9 * (c103.1.length : Int))) + 1))))) = true then (F_law05_works ).bind fun c163 => some c163 else some false)).bind fun c160 => some c160)
def F_law05_LinesBack_l9B (rec10 : Int → Option Bool) (p1 : (List UInt8)) (c17 : (List UInt8) × Int) (x205 : Int) : Option Bool :=
  (if ((decide (x205 < (c17.1.length : Int))) && (decide (x205 < 200))) = true then (cutI c17.1 0 x205).bind fun y223 => (F_lines_Read y223).bind fun c228 => (if (c228.2 == 0) = true then some false else rec10 (IntKind.i64.wrap (x205 + 1))) else F_law05_LinesBack_k9 p1)
def F_law05_LinesBack_l9 (p1 : (List UInt8)) (c17 : (List UInt8) × Int) : Nat → Int → Option Bool
  | 0, _ => none
  | n + 1, x205 => F_law05_LinesBack_l9B (F_law05_LinesBack_l9 p1 c17 n) p1 c17 x205
def F_law05_LinesBack (p0 : (List S_api_Row)) (p1 : (List UInt8)) : Option Bool :=
  (if ((decide ((p0.length : Int) > 30000)) || (decide ((p1.length : Int) > 65536))) = true then (F_law05_works ).bind fun c2 => some c2 else (F_law05_twin p0).bind fun c6 => (F_lines_Write c6).bind fun c17 => (F_lines_Right p0).bind fun c26 => (if (!((c17.2 == 0) == c26)) = true then some false else (if (c17.2 == 0) = true then (F_lines_Read c17.1).bind fun c170 => ((if (c170.2 != 0) = true then some true else (F_law05_SameRows c170.1 p0).bind fun c181 => some (!c181))).bind fun c178 => (if (c178 || (decide ((c17.1.length : Int) > (IntKind.i64.wrap ((IntKind.i64.wrap (9 * (p0.length : Int))) + 1))))) = true then some false else F_law05_LinesBack_l9 p1 c17 big 0) else (if ((c17.2 != 1) || ((c17.1.length : Int) != 0)) = true then some false else F_law05_LinesBack_k9 p1))))
def F_ref05_At_l3B (rec4 : Int → Option (Int × Bool)) (p0 : (List S_api_Row)) (p1 : Int) (x15 : Int) : Option (Int × Bool) :=
  (if (decide (x15 < (p0.length : Int))) = true then (getI p0 x15).bind fun y30 => (if (y30.Pc == p1) = true then (getI p0 x15).bind fun y36 => some (y36.Point, true) else rec4 (IntKind.i64.wrap (x15 + 1))) else some (0, false))
def F_ref05_At_l3 (p0 : (List S_api_Row)) (p1 : Int) : Nat → Int → Option (Int × Bool)
  | 0, _ => none
  | n + 1, x15 => F_ref05_At_l3B (F_ref05_At_l3 p0 p1 n) p0 p1 x15
def F_ref05_At (p0 : (List S_api_Row)) (p1 : Int) : Option (Int × Bool) :=
  F_ref05_At_l3 p0 p1 big 0
def F_ref05_Pcs_l3B (rec4 : (List Int) → Int → Option (List Int)) (p0 : (List S_api_Row)) (p1 : Int) (x23 : List Int) (x25 : Int) : Option (List Int) :=
  (if (decide (x25 < (p0.length : Int))) = true then (getI p0 x25).bind fun y44 => (if (y44.Point == p1) = true then (getI p0 x25).bind fun y50 => (room (x23.length + 1)).bind fun _ => rec4 (x23 ++ [y50.Pc]) (IntKind.i64.wrap (x25 + 1)) else rec4 x23 (IntKind.i64.wrap (x25 + 1))) else some x23)
def F_ref05_Pcs_l3 (p0 : (List S_api_Row)) (p1 : Int) : Nat → (List Int) → Int → Option (List Int)
  | 0, _, _ => none
  | n + 1, x23, x25 => F_ref05_Pcs_l3B (F_ref05_Pcs_l3 p0 p1 n) p0 p1 x23 x25
def F_ref05_Pcs (p0 : (List S_api_Row)) (p1 : Int) : Option (List Int) :=
  F_ref05_Pcs_l3 p0 p1 big ([]) 0
def F_law05_LinesFinds_l19B (rec20 : Int → Option Bool) (p0 : (List S_api_Row)) (x545 : Int) : Option Bool :=
  (if (decide (x545 < (p0.length : Int))) = true then (getI p0 x545).bind fun y571 => (F_lines_At p0 y571.Pc).bind fun c576 => ((if (!c576.2) = true then some true else (getI p0 x545).bind fun y583 => some (c576.1 != y583.Point))).bind fun c580 => (if c580 = true then some false else rec20 (IntKind.i64.wrap (x545 + 1))) else (F_law05_works ).bind fun c589 => some c589)
def F_law05_LinesFinds_l19 (p0 : (List S_api_Row)) : Nat → Int → Option Bool
  | 0, _ => none
  | n + 1, x545 => F_law05_LinesFinds_l19B (F_law05_LinesFinds_l19 p0 n) p0 x545
def F_law05_LinesFinds_l17B (rec18 : (List Int) → Int → Option Bool) (p0 : (List S_api_Row)) (c36 : (List Int)) (x337 : List Int) (x339 : Int) : Option Bool :=
  (if (decide (x339 < (c36.length : Int))) = true then (getI c36 x339).bind fun y468 => (getI x337 x339).bind fun y473 => ((if (y468 != y473) = true then some true else (F_lines_Right p0).bind fun c483 => (if c483 = true then (if (decide (x339 > 0)) = true then (getI c36 x339).bind fun y489 => (getI c36 (IntKind.i64.wrap (x339 - 1))).bind fun y494 => some (decide (y489 ≤ y494)) else some false) else (if false = true then (getI c36 x339).bind fun y500 => (getI c36 (IntKind.i64.wrap (x339 - 1))).bind fun y505 => some (decide (y500 ≤ y505)) else some false)))).bind fun c480 => (if c480 = true then some false else rec18 x337 (IntKind.i64.wrap (x339 + 1))) else (F_lines_Right p0).bind fun c511 => (if (!c511) = true then (F_law05_works ).bind fun c516 => some c516 else F_law05_LinesFinds_l19 p0 big 0))
def F_law05_LinesFinds_l17 (p0 : (List S_api_Row)) (c36 : (List Int)) : Nat → (List Int) → Int → Option Bool
  | 0, _, _ => none
  | n + 1, x337, x339 => F_law05_LinesFinds_l17B (F_law05_LinesFinds_l17 p0 c36 n) p0 c36 x337 x339
def F_law05_LinesFinds (p0 : (List S_api_Row)) (p1 : Int) (p2 : Int) : Option Bool :=
  (if (decide ((p0.length : Int) > 2000)) = true then (F_law05_works ).bind fun c2 => some c2 else (F_law05_twin p0).bind fun c6 => (F_lines_At c6 p1).bind fun c17 => (F_ref05_At p0 p1).bind fun c21 => (F_law05_twin p0).bind fun c25 => (F_lines_Pcs c25 p2).bind fun c36 => (F_ref05_Pcs p0 p2).bind fun c45 => (if (((c17.1 != c21.1) || (!(c17.2 == c21.2))) || ((c36.length : Int) != (c45.length : Int))) = true then some false else F_law05_LinesFinds_l17 p0 c36 big c45 0))
end Go.Proofs.Ytglpbhkkkhmlpaa
