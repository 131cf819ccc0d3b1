import Derived.Test.YtneonhnackjdjaaAd
import Derived.Test.YtneonhnackjdjaaFM
namespace Go.Proofs.Ytneonhnackjdjaa
open Go.Ab Go.RowKit
set_option linter.unusedVariables false
set_option linter.unusedSimpArgs false
set_option maxRecDepth 10000
structure S_api_Saved where
  Reg : Int
  At : Int
  deriving DecidableEq
def TyS_api_Saved : Ty S_api_Saved where
  sz := 2
  R := fun σ x cs => cs = [.int .i64 x.Reg, .int .i64 x.At]
  len := by rintro σ x cs rfl; rfl
  one := by rintro σ x cs rfl; rfl
  mono := by rintro σ σ' x cs hle rfl; rfl
theorem TyS_api_Saved_flat : TyS_api_Saved.Flat := fun _ _ _ _ h => h
structure S_api_Unwind where
  From : Int
  To : Int
  Up : Int
  Regs : (List S_api_Saved)
  deriving DecidableEq
def TyS_api_Unwind : Ty S_api_Unwind where
  sz := 4
  R := fun σ x cs => ∃ v3, cs = [.int .i64 x.From, .int .i64 x.To, .int .i64 x.Up, v3] ∧ RdT TyS_api_Saved σ v3 x.Regs
  len := by rintro σ x cs ⟨v3, rfl, h0⟩; rfl
  one := by rintro σ x cs ⟨v3, rfl, h0⟩; obtain ⟨_, ⟨_, _, rfl, _⟩, _⟩ := h0; rfl
  mono := by rintro σ σ' x cs hle ⟨v3, rfl, h0⟩; exact ⟨v3, rfl, h0.le hle⟩
structure S_api_View where
  Known : (List Bool)
  Regs : (List Int)
  Base : Int
  Words : (List Int)
  deriving DecidableEq
structure S_unwind_reader where
  b : (List UInt8)
  at_ : Int
  failed : Bool
  deriving DecidableEq
def F_unwind_rightRegs_l3B (rec4 : Int → Int → Option Bool) (p0 : (List S_api_Saved)) (x11 : Int) (x13 : Int) : Option Bool :=
  (if (decide (x13 < (p0.length : Int))) = true then (getI p0 x13).bind fun y24 => (if ((((decide (y24.Reg ≤ x11)) || (decide (y24.Reg > 11))) || (decide (y24.At > (-2)))) || (decide (y24.At < (-65536)))) = true then some false else rec4 y24.Reg (IntKind.i64.wrap (x13 + 1))) else some true)
def F_unwind_rightRegs_l3 (p0 : (List S_api_Saved)) : Nat → Int → Int → Option Bool
  | 0, _, _ => none
  | n + 1, x11, x13 => F_unwind_rightRegs_l3B (F_unwind_rightRegs_l3 p0 n) p0 x11 x13
def F_unwind_rightRegs (p0 : (List S_api_Saved)) : Option Bool :=
  F_unwind_rightRegs_l3 p0 big 5 0
def F_unwind_Right_l3B (rec4 : Int → Int → Option Bool) (p0 : (List S_api_Unwind)) (x24 : Int) (x26 : Int) : Option Bool :=
  (if (decide (x26 < (p0.length : Int))) = true then (getI p0 x26).bind fun y48 => ((if (((((decide (y48.From < x24)) || (decide (y48.To ≤ y48.From))) || (decide (y48.To > 16777216))) || (decide (y48.Up < 0))) || (decide (y48.Up > 65536))) = true then some true else (F_unwind_rightRegs y48.Regs).bind fun c61 => some (!c61))).bind fun c58 => (if c58 = true then some false else rec4 y48.To (IntKind.i64.wrap (x26 + 1))) else some (decide ((p0.length : Int) ≤ 4000)))
def F_unwind_Right_l3 (p0 : (List S_api_Unwind)) : Nat → Int → Int → Option Bool
  | 0, _, _ => none
  | n + 1, x24, x26 => F_unwind_Right_l3B (F_unwind_Right_l3 p0 n) p0 x24 x26
def F_unwind_Right (p0 : (List S_api_Unwind)) : Option Bool :=
  F_unwind_Right_l3 p0 big 0 0
def F_unwind_put_l3B (rec4 : (List UInt8) → Int → Option (List UInt8)) (p1 : (List Int)) (x61 : List UInt8) (x64 : Int) : Option (List UInt8) :=
  (if (decide (x64 < (p1.length : Int))) = true then (getI p1 x64).bind fun y84 => (F_leb_PutU x61 (IntKind.u64.wrap y84)).bind fun c91 => rec4 c91 (IntKind.i64.wrap (x64 + 1)) else some x61)
def F_unwind_put_l3 (p1 : (List Int)) : Nat → (List UInt8) → Int → Option (List UInt8)
  | 0, _, _ => none
  | n + 1, x61, x64 => F_unwind_put_l3B (F_unwind_put_l3 p1 n) p1 x61 x64
def F_unwind_put (p0 : (List UInt8)) (p1 : (List Int)) : Option (List UInt8) :=
  (if (decide (0 < (p1.length : Int))) = true then (getI p1 0).bind fun y101 => (F_leb_PutU p0 (IntKind.u64.wrap y101)).bind fun c106 => F_unwind_put_l3 p1 big c106 (IntKind.i64.wrap (0 + 1)) else none)
def F_unwind_Put_l15B (rec16 : (List UInt8) → Int → Option ((List UInt8) × Int)) (rec14 : (List UInt8) → Int → Int → Option ((List UInt8) × Int)) (x181 : Int) (y329 : S_api_Unwind) (x400 : List UInt8) (x405 : Int) : Option ((List UInt8) × Int) :=
  (if (decide (x405 < (y329.Regs.length : Int))) = true then (getI y329.Regs x405).bind fun y441 => (u8o (IntKind.u8.wrap y441.Reg)).bind fun z447 => (room (x400.length + ([z447] : List UInt8).length)).bind fun _ => (F_unwind_put (x400 ++ ([z447] : List UInt8)) ([(IntKind.i64.wrap (0 - y441.At))] : List Int)).bind fun c464 => rec16 c464 (IntKind.i64.wrap (x405 + 1)) else rec14 x400 y329.To (IntKind.i64.wrap (x181 + 1)))
def F_unwind_Put_l15 (rec14 : (List UInt8) → Int → Int → Option ((List UInt8) × Int)) (x181 : Int) (y329 : S_api_Unwind) : Nat → (List UInt8) → Int → Option ((List UInt8) × Int)
  | 0, _, _ => none
  | n + 1, x400, x405 => F_unwind_Put_l15B (F_unwind_Put_l15 rec14 x181 y329 n) rec14 x181 y329 x400 x405
def F_unwind_Put_l13B (rec14 : (List UInt8) → Int → Int → Option ((List UInt8) × Int)) (p1 : (List S_api_Unwind)) (x177 : List UInt8) (x179 : Int) (x181 : Int) : Option ((List UInt8) × Int) :=
  (if (decide (x181 < (p1.length : Int))) = true then (getI p1 x181).bind fun y329 => (F_unwind_put x177 ([(IntKind.i64.wrap (y329.From - x179)), (IntKind.i64.wrap (y329.To - y329.From)), y329.Up, (y329.Regs.length : Int)] : List Int)).bind fun c347 => F_unwind_Put_l15 rec14 x181 y329 big c347 0 else some (x177, 0))
def F_unwind_Put_l13 (p1 : (List S_api_Unwind)) : Nat → (List UInt8) → Int → Int → Option ((List UInt8) × Int)
  | 0, _, _, _ => none
  | n + 1, x177, x179, x181 => F_unwind_Put_l13B (F_unwind_Put_l13 p1 n) p1 x177 x179 x181
def F_unwind_Put (p0 : (List UInt8)) (p1 : (List S_api_Unwind)) : Option ((List UInt8) × Int) :=
  (F_unwind_Right p1).bind fun c3 => (if (!c3) = true then some ([], 1) else (F_unwind_put p0 ([(p1.length : Int)] : List Int)).bind fun c14 => F_unwind_Put_l13 p1 big c14 0 0)
def F_ref08_SameOne_l3B (rec4 : Int → Option Bool) (p0 : S_api_Unwind) (p1 : S_api_Unwind) (x22 : Int) : Option Bool :=
  (if (decide (x22 < (p0.Regs.length : Int))) = true then (getI p0.Regs x22).bind fun y37 => (getI p1.Regs x22).bind fun y42 => (if (!(( y37.Reg == y42.Reg) && (( y37.At == y42.At) && true))) = true then some false else rec4 (IntKind.i64.wrap (x22 + 1))) else some true)
def F_ref08_SameOne_l3 (p0 : S_api_Unwind) (p1 : S_api_Unwind) : Nat → Int → Option Bool
  | 0, _ => none
  | n + 1, x22 => F_ref08_SameOne_l3B (F_ref08_SameOne_l3 p0 p1 n) p0 p1 x22
def F_ref08_SameOne (p0 : S_api_Unwind) (p1 : S_api_Unwind) : Option Bool :=
  (if ((((p0.From != p1.From) || (p0.To != p1.To)) || (p0.Up != p1.Up)) || ((p0.Regs.length : Int) != (p1.Regs.length : Int))) = true then some false else F_ref08_SameOne_l3 p0 p1 big 0)
def F_ref08_Same_l3B (rec4 : Int → Option Bool) (p0 : (List S_api_Unwind)) (p1 : (List S_api_Unwind)) (x32 : Int) : Option Bool :=
  (if (decide (x32 < (p0.length : Int))) = true then (getI p0 x32).bind fun y59 => (getI p1 x32).bind fun y68 => (F_ref08_SameOne (⟨y59.From, y59.To, y59.Up, y59.Regs⟩ : S_api_Unwind) (⟨y68.From, y68.To, y68.Up, y68.Regs⟩ : S_api_Unwind)).bind fun c77 => (if (!c77) = true then some false else rec4 (IntKind.i64.wrap (x32 + 1))) else some true)
def F_ref08_Same_l3 (p0 : (List S_api_Unwind)) (p1 : (List S_api_Unwind)) : Nat → Int → Option Bool
  | 0, _ => none
  | n + 1, x32 => F_ref08_Same_l3B (F_ref08_Same_l3 p0 p1 n) p0 p1 x32
def F_ref08_Same (p0 : (List S_api_Unwind)) (p1 : (List S_api_Unwind)) : Option Bool :=
  (if ((p0.length : Int) != (p1.length : Int)) = true then some false else F_ref08_Same_l3 p0 p1 big 0)
def F_unwind_reader_number (q0 : S_unwind_reader) (p1 : Int) : Option (Int × S_unwind_reader) :=
  (F_leb_U q0.b q0.at_).bind fun c3 => (if ((q0.failed || (c3.2.2 != 0)) || (decide (c3.1 > (IntKind.u64.wrap p1)))) = true then some (0, (⟨q0.b, q0.at_, true⟩ : S_unwind_reader)) else some ((IntKind.i64.wrap c3.1), (⟨q0.b, c3.2.1, q0.failed⟩ : S_unwind_reader)))
def F_unwind_reader_byte (q0 : S_unwind_reader) : Option (Int × S_unwind_reader) :=
  (if (q0.failed || (decide (q0.at_ ≥ (q0.b.length : Int)))) = true then some (0, (⟨q0.b, q0.at_, true⟩ : S_unwind_reader)) else (getI q0.b (IntKind.i64.wrap ((IntKind.i64.wrap (q0.at_ + 1)) - 1))).bind fun y3 => some ((y3.toNat : Int), (⟨q0.b, (IntKind.i64.wrap (q0.at_ + 1)), q0.failed⟩ : S_unwind_reader)))
def F_unwind_reader_entry_l3B (rec4 : (List UInt8) → Int → Bool → (List S_api_Saved) → Int → Option (S_api_Unwind × S_unwind_reader)) (p1 : Int) (c4 : Int × S_unwind_reader) (c13 : Int × S_unwind_reader) (c21 : Int × S_unwind_reader) (x66 : List UInt8) (x68 : Int) (x69 : Bool) (x73 : List S_api_Saved) (x75 : Int) : Option (S_api_Unwind × S_unwind_reader) :=
  (if ((decide (x75 > 0)) && (!x69)) = true then (F_unwind_reader_byte (⟨x66, x68, x69⟩ : S_unwind_reader)).bind fun c105 => (F_unwind_reader_number (⟨c105.2.b, c105.2.at_, c105.2.failed⟩ : S_unwind_reader) 65536).bind fun c113 => (room (x73.length + ([(⟨(IntKind.i64.wrap c105.1), (IntKind.i64.wrap (0 - c113.1))⟩ : S_api_Saved)] : List S_api_Saved).length)).bind fun _ => rec4 c113.2.b c113.2.at_ c113.2.failed (x73 ++ ([(⟨(IntKind.i64.wrap c105.1), (IntKind.i64.wrap (0 - c113.1))⟩ : S_api_Saved)] : List S_api_Saved)) (IntKind.i64.wrap (x75 - 1)) else some ((⟨(IntKind.i64.wrap (p1 + c4.1)), (IntKind.i64.wrap ((IntKind.i64.wrap (p1 + c4.1)) + c13.1)), c21.1, x73⟩ : S_api_Unwind), (⟨x66, x68, x69⟩ : S_unwind_reader)))
def F_unwind_reader_entry_l3 (p1 : Int) (c4 : Int × S_unwind_reader) (c13 : Int × S_unwind_reader) (c21 : Int × S_unwind_reader) : Nat → (List UInt8) → Int → Bool → (List S_api_Saved) → Int → Option (S_api_Unwind × S_unwind_reader)
  | 0, _, _, _, _, _ => none
  | n + 1, x66, x68, x69, x73, x75 => F_unwind_reader_entry_l3B (F_unwind_reader_entry_l3 p1 c4 c13 c21 n) p1 c4 c13 c21 x66 x68 x69 x73 x75
def F_unwind_reader_entry (q0 : S_unwind_reader) (p1 : Int) : Option (S_api_Unwind × S_unwind_reader) :=
  (F_unwind_reader_number (⟨q0.b, q0.at_, q0.failed⟩ : S_unwind_reader) 16777216).bind fun c4 => (F_unwind_reader_number (⟨c4.2.b, c4.2.at_, c4.2.failed⟩ : S_unwind_reader) 16777216).bind fun c13 => (F_unwind_reader_number (⟨c13.2.b, c13.2.at_, c13.2.failed⟩ : S_unwind_reader) 65536).bind fun c21 => (F_unwind_reader_number (⟨c21.2.b, c21.2.at_, c21.2.failed⟩ : S_unwind_reader) 11).bind fun c29 => F_unwind_reader_entry_l3 p1 c4 c13 c21 big c29.2.b c29.2.at_ c29.2.failed ([]) c29.1
def F_unwind_Get_l3B (rec4 : (List S_api_Unwind) → (List UInt8) → Int → Bool → Int → Int → Option ((List S_api_Unwind) × Int × Int))  (x50 : List S_api_Unwind) (x54 : List UInt8) (x56 : Int) (x57 : Bool) (x58 : Int) (x59 : Int) : Option ((List S_api_Unwind) × Int × Int) :=
  (if ((decide (x59 > 0)) && (!x57)) = true then (F_unwind_reader_entry (⟨x54, x56, x57⟩ : S_unwind_reader) x58).bind fun c96 => (room (x50.length + ([(⟨c96.1.From, c96.1.To, c96.1.Up, c96.1.Regs⟩ : S_api_Unwind)] : List S_api_Unwind).length)).bind fun _ => rec4 (x50 ++ ([(⟨c96.1.From, c96.1.To, c96.1.Up, c96.1.Regs⟩ : S_api_Unwind)] : List S_api_Unwind)) c96.2.b c96.2.at_ (c96.2.failed || (decide (c96.1.To > 16777216))) c96.1.To (IntKind.i64.wrap (x59 - 1)) else ((if x57 = true then some true else (F_unwind_Right x50).bind fun c124 => some (!c124))).bind fun c121 => (if c121 = true then some ([], 0, 5) else some (x50, x56, 0)))
def F_unwind_Get_l3  : Nat → (List S_api_Unwind) → (List UInt8) → Int → Bool → Int → Int → Option ((List S_api_Unwind) × Int × Int)
  | 0, _, _, _, _, _, _ => none
  | n + 1, x50, x54, x56, x57, x58, x59 => F_unwind_Get_l3B (F_unwind_Get_l3  n)  x50 x54 x56 x57 x58 x59
def F_unwind_Get (p0 : (List UInt8)) (p1 : Int) : Option ((List S_api_Unwind) × Int × Int) :=
  (if ((decide (p1 < 0)) || (decide (p1 > (p0.length : Int)))) = true then some ([], 0, 1) else (F_unwind_reader_number (⟨p0, p1, false⟩ : S_unwind_reader) 4000).bind fun c5 => F_unwind_Get_l3  big ([]) c5.2.b c5.2.at_ c5.2.failed 0 c5.1)
def F_slices_Clone_Sapi_Saved_api_Saved (p0 : (List S_api_Saved)) : Option (List S_api_Saved) := (room p0.length).bind fun _ => some p0
def F_unwind_Find_l3B (rec4 : Int → Option (S_api_Unwind × Bool)) (p0 : (List S_api_Unwind)) (p1 : Int) (x29 : Int) : Option (S_api_Unwind × Bool) :=
  (if (decide (x29 < (p0.length : Int))) = true then (getI p0 x29).bind fun y55 => (if ((decide (y55.From ≤ p1)) && (decide (p1 < y55.To))) = true then (F_slices_Clone_Sapi_Saved_api_Saved y55.Regs).bind fun c66 => some ((⟨y55.From, y55.To, y55.Up, c66⟩ : S_api_Unwind), true) else rec4 (IntKind.i64.wrap (x29 + 1))) else some ((⟨0, 0, 0, []⟩ : S_api_Unwind), false))
def F_unwind_Find_l3 (p0 : (List S_api_Unwind)) (p1 : Int) : Nat → Int → Option (S_api_Unwind × Bool)
  | 0, _ => none
  | n + 1, x29 => F_unwind_Find_l3B (F_unwind_Find_l3 p0 p1 n) p0 p1 x29
def F_unwind_Find (p0 : (List S_api_Unwind)) (p1 : Int) : Option (S_api_Unwind × Bool) :=
  F_unwind_Find_l3 p0 p1 big 0
def F_unwind_reg (p0 : S_api_View) (p1 : Int) : Option (Int × Bool) :=
  ((if (decide (p1 ≥ (p0.Known.length : Int))) = true then some true else (getI p0.Known p1).bind fun y7 => some (!y7))).bind fun c4 => (if c4 = true then some (0, false) else (if (decide (p1 ≥ (p0.Regs.length : Int))) = true then some (0, true) else (getI p0.Regs p1).bind fun y14 => some (y14, true)))
def F_unwind_copied_bool (p0 : (List Bool)) : Option (List Bool) :=
  (mkI false (p0.length : Int) (p0.length : Int)).bind fun y2 => some (p0.take y2.length ++ y2.drop p0.length)
def F_unwind_copied_int64 (p0 : (List Int)) : Option (List Int) :=
  (mkI 0 (p0.length : Int) (p0.length : Int)).bind fun y2 => some (p0.take y2.length ++ y2.drop p0.length)
def F_unwind_Frame (p0 : (List S_api_Unwind)) (p1 : Int) (p2 : S_api_View) : Option (S_api_View × Int) :=
  (F_unwind_Find p0 p1).bind fun c6 => (F_unwind_reg (⟨p2.Known, p2.Regs, p2.Base, p2.Words⟩ : S_api_View) 15).bind fun c15 => (if ((!c6.2) || (!c15.2)) = true then some ((⟨[], [], 0, []⟩ : S_api_View), 4) else (F_unwind_copied_bool p2.Known).bind fun c20 => (F_unwind_copied_int64 p2.Regs).bind fun c29 => (F_unwind_copied_int64 p2.Words).bind fun c38 => some ((⟨c20, c29, (IntKind.i64.wrap (c15.1 + c6.1.Up)), c38⟩ : S_api_View), 0))
def F_unwind_word (p0 : S_api_View) (p1 : Int) : Option (Int × Bool) :=
  (if ((decide (p1 < 0)) || (decide (p1 ≥ (p0.Words.length : Int)))) = true then some (0, false) else (getI p0.Words p1).bind fun y5 => some (y5, true))
def F_unwind_Up_l17B (rec18 : (List Bool) → (List Int) → Int → Option (Int × S_api_View × Int)) (p2 : S_api_View) (c6 : S_api_View × Int) (c24 : S_api_Unwind × Bool) (c44 : Int × Bool) (x610 : List Bool) (x617 : List Int) (x622 : Int) : Option (Int × S_api_View × Int) :=
  (if (decide (x622 < (c24.1.Regs.length : Int))) = true then (getI c24.1.Regs x622).bind fun y659 => (F_unwind_word (⟨p2.Known, p2.Regs, p2.Base, p2.Words⟩ : S_api_View) (IntKind.i64.wrap (c6.1.Base + y659.At))).bind fun c665 => (if (!c665.2) = true then some (0, (⟨[], [], 0, []⟩ : S_api_View), 4) else (getI x617 y659.Reg).bind fun y670 => (getI x610 y659.Reg).bind fun y679 => rec18 (x610.set (Int.toNat y659.Reg) true) (x617.set (Int.toNat y659.Reg) c665.1) (IntKind.i64.wrap (x622 + 1))) else some (c44.1, (⟨x610, x617, 0, c6.1.Words⟩ : S_api_View), 0))
def F_unwind_Up_l17 (p2 : S_api_View) (c6 : S_api_View × Int) (c24 : S_api_Unwind × Bool) (c44 : Int × Bool) : Nat → (List Bool) → (List Int) → Int → Option (Int × S_api_View × Int)
  | 0, _, _, _ => none
  | n + 1, x610, x617, x622 => F_unwind_Up_l17B (F_unwind_Up_l17 p2 c6 c24 c44 n) p2 c6 c24 c44 x610 x617 x622
def F_unwind_Up_l15B (rec16 : (List Bool) → (List Int) → Int → Option (Int × S_api_View × Int)) (p2 : S_api_View) (c6 : S_api_View × Int) (c24 : S_api_Unwind × Bool) (c44 : Int × Bool) (x301 : List Bool) (x308 : List Int) (x312 : Int) : Option (Int × S_api_View × Int) :=
  (if (decide (x312 ≤ 11)) = true then (F_unwind_reg (⟨p2.Known, p2.Regs, p2.Base, p2.Words⟩ : S_api_View) x312).bind fun c504 => (getI x308 x312).bind fun y508 => (getI x301 x312).bind fun y517 => rec16 (x301.set (Int.toNat x312) c504.2) (x308.set (Int.toNat x312) c504.1) (IntKind.i64.wrap (x312 + 1)) else (getI x308 15).bind fun y526 => (getI x301 15).bind fun y535 => F_unwind_Up_l17 p2 c6 c24 c44 big (x301.set (Int.toNat 15) true) (x308.set (Int.toNat 15) c6.1.Base) 0)
def F_unwind_Up_l15 (p2 : S_api_View) (c6 : S_api_View × Int) (c24 : S_api_Unwind × Bool) (c44 : Int × Bool) : Nat → (List Bool) → (List Int) → Int → Option (Int × S_api_View × Int)
  | 0, _, _, _ => none
  | n + 1, x301, x308, x312 => F_unwind_Up_l15B (F_unwind_Up_l15 p2 c6 c24 c44 n) p2 c6 c24 c44 x301 x308 x312
def F_unwind_Up_k11 (p2 : S_api_View) (c6 : S_api_View × Int) (c24 : S_api_Unwind × Bool) (c44 : Int × Bool) (x75 : List Bool) (x80 : List Int) : Option (Int × S_api_View × Int) :=
  F_unwind_Up_l15 p2 c6 c24 c44 big x75 x80 6
def F_unwind_Up (p0 : (List S_api_Unwind)) (p1 : Int) (p2 : S_api_View) : Option (Int × S_api_View × Int) :=
  (F_unwind_Frame p0 p1 (⟨p2.Known, p2.Regs, p2.Base, p2.Words⟩ : S_api_View)).bind fun c6 => (if (c6.2 != 0) = true then some (0, (⟨[], [], 0, []⟩ : S_api_View), c6.2) else (F_unwind_Find p0 p1).bind fun c24 => (F_unwind_Right ([(⟨c24.1.From, c24.1.To, c24.1.Up, c24.1.Regs⟩ : S_api_Unwind)] : List S_api_Unwind)).bind fun c39 => (if (!c39) = true then some (0, (⟨[], [], 0, []⟩ : S_api_View), 1) else (F_unwind_word (⟨p2.Known, p2.Regs, p2.Base, p2.Words⟩ : S_api_View) (IntKind.i64.wrap (c6.1.Base - 1))).bind fun c44 => (if (((!c44.2) || (decide (c44.1 < 0))) || (decide (c44.1 ≥ 16777216))) = true then some (0, (⟨[], [], 0, []⟩ : S_api_View), 4) else (mkI false 16 16).bind fun y692 => (mkI 0 16 16).bind fun y699 => F_unwind_Up_k11 p2 c6 c24 c44 y692 y699)))
def F_law08_plain_l17B (rec18 : (List Bool) → (List Int) → (List Int) → Int → Option S_api_View) (p0 : Int) (p1 : Int) (x295 : List Bool) (x300 : List Int) (x305 : List Int) (x307 : Int) : Option S_api_View :=
  (if (decide (x307 < p0)) = true then (room (x305.length + 1)).bind fun _ => rec18 x295 x300 (x305 ++ [x307]) (IntKind.i64.wrap (x307 + 1)) else (getI x300 15).bind fun y335 => some (⟨x295, (x300.set (Int.toNat 15) p1), 0, x305⟩ : S_api_View))
def F_law08_plain_l17 (p0 : Int) (p1 : Int) : Nat → (List Bool) → (List Int) → (List Int) → Int → Option S_api_View
  | 0, _, _, _, _ => none
  | n + 1, x295, x300, x305, x307 => F_law08_plain_l17B (F_law08_plain_l17 p0 p1 n) p0 p1 x295 x300 x305 x307
def F_law08_plain_l15B (rec16 : (List Bool) → (List Int) → Int → Option S_api_View) (p0 : Int) (p1 : Int) (x143 : List Bool) (x149 : List Int) (x151 : Int) : Option S_api_View :=
  (if (decide (x151 < 16)) = true then (getI x143 x151).bind fun y253 => rec16 (x143.set (Int.toNat x151) true) x149 (IntKind.i64.wrap (x151 + 1)) else F_law08_plain_l17 p0 p1 big x143 x149 ([]) 0)
def F_law08_plain_l15 (p0 : Int) (p1 : Int) : Nat → (List Bool) → (List Int) → Int → Option S_api_View
  | 0, _, _, _ => none
  | n + 1, x143, x149, x151 => F_law08_plain_l15B (F_law08_plain_l15 p0 p1 n) p0 p1 x143 x149 x151
def F_law08_plain_k11 (p0 : Int) (p1 : Int) (x23 : List Bool) (x28 : List Int) : Option S_api_View :=
  F_law08_plain_l15 p0 p1 big x23 x28 0
def F_law08_plain (p0 : Int) (p1 : Int) : Option S_api_View :=
  (mkI false 16 16).bind fun y351 => (mkI 0 16 16).bind fun y358 => F_law08_plain_k11 p0 p1 y351 y358
def F_law08_works  : Option Bool :=
  (F_unwind_Put [] ([(⟨10, 20, 3, ([(⟨7, (-2)⟩ : S_api_Saved)] : List S_api_Saved)⟩ : S_api_Unwind)] : List S_api_Unwind)).bind fun c13 => (F_unwind_Get c13.1 0).bind fun c24 => (F_law08_plain 10 5).bind fun c32 => (F_unwind_Up c24.1 12 (⟨c32.Known, c32.Regs, c32.Base, c32.Words⟩ : S_api_View)).bind fun c48 => ((if ((((c13.2 == 0) && ((c13.1.length : Int) == 7)) && (c24.2.2 == 0)) && (c24.2.1 == 7)) = true then (F_ref08_Same ([(⟨10, 20, 3, ([(⟨7, (-2)⟩ : S_api_Saved)] : List S_api_Saved)⟩ : S_api_Unwind)] : List S_api_Unwind) c24.1).bind fun c68 => some c68 else some false)).bind fun c65 => ((if (((c65 && (c48.2.2 == 0)) && (c48.1 == 7)) && ((c48.2.1.Regs.length : Int) == 16)) = true then (getI c48.2.1.Regs 15).bind fun y75 => some (y75 == 8) else some false)).bind fun c72 => ((if c72 = true then (getI c48.2.1.Regs 7).bind fun y83 => some (y83 == 6) else some false)).bind fun c80 => ((if (c80 && ((c48.2.1.Known.length : Int) == 16)) = true then (getI c48.2.1.Known 7).bind fun y91 => some y91 else some false)).bind fun c88 => ((if c88 = true then (getI c48.2.1.Known 0).bind fun y99 => some (!y99) else some false)).bind fun c96 => some c96
def F_ref08_Right_l15B (rec16 : Int → Int → Option Bool) (rec14 : Int → Int → Option Bool) (x132 : Int) (y262 : S_api_Unwind) (x313 : Int) (x314 : Int) : Option Bool :=
  (if (decide (x314 < (y262.Regs.length : Int))) = true then (getI y262.Regs x314).bind fun y353 => ((if (decide (y353.Reg ≤ x313)) = true then some true else (getI y262.Regs x314).bind fun y361 => some (decide (y361.Reg > 11)))).bind fun c358 => ((if c358 = true then some true else (getI y262.Regs x314).bind fun y369 => some (decide (y369.At > (-2))))).bind fun c366 => ((if c366 = true then some true else (getI y262.Regs x314).bind fun y377 => some (decide (y377.At < (-65536))))).bind fun c374 => (if c374 = true then some false else (getI y262.Regs x314).bind fun y383 => rec16 y383.Reg (IntKind.i64.wrap (x314 + 1))) else rec14 y262.To (IntKind.i64.wrap (x132 + 1)))
def F_ref08_Right_l15 (rec14 : Int → Int → Option Bool) (x132 : Int) (y262 : S_api_Unwind) : Nat → Int → Int → Option Bool
  | 0, _, _ => none
  | n + 1, x313, x314 => F_ref08_Right_l15B (F_ref08_Right_l15 rec14 x132 y262 n) rec14 x132 y262 x313 x314
def F_ref08_Right_l13B (rec14 : Int → Int → Option Bool) (p0 : (List S_api_Unwind)) (x131 : Int) (x132 : Int) : Option Bool :=
  (if (decide (x132 < (p0.length : Int))) = true then (getI p0 x132).bind fun y262 => (if (((((decide (y262.From < x131)) || (decide (y262.To ≤ y262.From))) || (decide (y262.To > 16777216))) || (decide (y262.Up < 0))) || (decide (y262.Up > 65536))) = true then some false else F_ref08_Right_l15 rec14 x132 y262 big 5 0) else some (decide ((p0.length : Int) ≤ 4000)))
def F_ref08_Right_l13 (p0 : (List S_api_Unwind)) : Nat → Int → Int → Option Bool
  | 0, _, _ => none
  | n + 1, x131, x132 => F_ref08_Right_l13B (F_ref08_Right_l13 p0 n) p0 x131 x132
def F_ref08_Right (p0 : (List S_api_Unwind)) : Option Bool :=
  F_ref08_Right_l13 p0 big 0 0
def F_ref00_Kept_l3B (rec4 : Int → Option Bool) (p1 : (List UInt8)) (y4 : (List UInt8)) (x27 : Int) : Option Bool :=
  (if (decide (x27 < (y4.length : Int))) = true then (getI y4 x27).bind fun y44 => (if (decide (x27 < (p1.length : Int))) = true then (getI p1 x27).bind fun y50 => (if ((y44.toNat : Int) != (y50.toNat : Int)) = true then some false else rec4 (IntKind.i64.wrap (x27 + 1))) else (if ((y44.toNat : Int) != (IntKind.u8.wrap (IntKind.i64.wrap ((IntKind.i64.wrap (8 + (p1.length : Int))) - x27)))) = true then some false else rec4 (IntKind.i64.wrap (x27 + 1)))) else some true)
def F_ref00_Kept_l3 (p1 : (List UInt8)) (y4 : (List UInt8)) : Nat → Int → Option Bool
  | 0, _ => none
  | n + 1, x27 => F_ref00_Kept_l3B (F_ref00_Kept_l3 p1 y4 n) p1 y4 x27
def F_ref00_Kept (p0 : (List UInt8)) (q0 : (List UInt8)) (p1 : (List UInt8)) : Option Bool :=
  (if (((p0.length : Int) != (p1.length : Int)) || (decide ((q0.length : Int) < (IntKind.i64.wrap ((p0.length : Int) + 8))))) = true then some false else (cutI q0 0 (IntKind.i64.wrap ((p0.length : Int) + 8))).bind fun y4 => F_ref00_Kept_l3 p1 y4 big 0)
def F_ref08_numbers_l3B (rec4 : Int → (List Int) → Int → Option ((List Int) × Int × Bool)) (p0 : (List UInt8)) (p2 : Int) (x17 : Int) (x21 : List Int) (x23 : Int) : Option ((List Int) × Int × Bool) :=
  (if (decide (x23 < p2)) = true then (F_ref02_U p0 x17).bind fun c36 => (if ((c36.2.2 != 0) || (decide (c36.1 > 16777216))) = true then some ([], 0, false) else (room (x21.length + 1)).bind fun _ => rec4 c36.2.1 (x21 ++ [(IntKind.i64.wrap c36.1)]) (IntKind.i64.wrap (x23 + 1))) else some (x21, x17, true))
def F_ref08_numbers_l3 (p0 : (List UInt8)) (p2 : Int) : Nat → Int → (List Int) → Int → Option ((List Int) × Int × Bool)
  | 0, _, _, _ => none
  | n + 1, x17, x21, x23 => F_ref08_numbers_l3B (F_ref08_numbers_l3 p0 p2 n) p0 p2 x17 x21 x23
def F_ref08_numbers (p0 : (List UInt8)) (p1 : Int) (p2 : Int) : Option ((List Int) × Int × Bool) :=
  F_ref08_numbers_l3 p0 p2 big p1 ([]) 0
def F_ref08_Get_l19B (rec20 : (List Int) → Int → (List S_api_Unwind) → (List S_api_Saved) → Int → Option ((List S_api_Unwind) × Int × Int)) (rec18 : (List Int) → Int → (List S_api_Unwind) → Int → Int → Option ((List S_api_Unwind) × Int × Int)) (p0 : (List UInt8)) (x252 : Int) (x253 : Int) (c482 : (List Int) × Int × Bool) (y504 : Int) (y509 : Int) (y514 : Int) (y519 : Int) (x584 : List Int) (x586 : Int) (x590 : List S_api_Unwind) (x596 : List S_api_Saved) (x598 : Int) : Option ((List S_api_Unwind) × Int × Int) :=
  (getI c482.1 3).bind fun y643 => (if (decide (x598 < y643)) = true then (if (decide (x586 ≥ (p0.length : Int))) = true then some ([], 0, 5) else (F_ref08_numbers p0 (IntKind.i64.wrap (x586 + 1)) 1).bind fun c650 => (if (!c650.2.2) = true then some ([], 0, 5) else (getI p0 x586).bind fun y660 => (getI c650.1 0).bind fun y665 => (room (x596.length + ([(⟨(IntKind.i64.wrap (y660.toNat : Int)), (IntKind.i64.wrap (0 - y665))⟩ : S_api_Saved)] : List S_api_Saved).length)).bind fun _ => rec20 x584 c650.2.1 x590 (x596 ++ ([(⟨(IntKind.i64.wrap (y660.toNat : Int)), (IntKind.i64.wrap (0 - y665))⟩ : S_api_Saved)] : List S_api_Saved)) (IntKind.i64.wrap (x598 + 1)))) else (room (x590.length + 1)).bind fun _ => rec18 x584 x586 (x590 ++ [(⟨(IntKind.i64.wrap (x252 + y504)), (IntKind.i64.wrap ((IntKind.i64.wrap (x252 + y509)) + y514)), y519, x596⟩ : S_api_Unwind)]) (IntKind.i64.wrap ((IntKind.i64.wrap (x252 + y509)) + y514)) (IntKind.i64.wrap (x253 + 1)))
def F_ref08_Get_l19 (rec18 : (List Int) → Int → (List S_api_Unwind) → Int → Int → Option ((List S_api_Unwind) × Int × Int)) (p0 : (List UInt8)) (x252 : Int) (x253 : Int) (c482 : (List Int) × Int × Bool) (y504 : Int) (y509 : Int) (y514 : Int) (y519 : Int) : Nat → (List Int) → Int → (List S_api_Unwind) → (List S_api_Saved) → Int → Option ((List S_api_Unwind) × Int × Int)
  | 0, _, _, _, _, _ => none
  | n + 1, x584, x586, x590, x596, x598 => F_ref08_Get_l19B (F_ref08_Get_l19 rec18 p0 x252 x253 c482 y504 y509 y514 y519 n) rec18 p0 x252 x253 c482 y504 y509 y514 y519 x584 x586 x590 x596 x598
def F_ref08_Get_l17B (rec18 : (List Int) → Int → (List S_api_Unwind) → Int → Int → Option ((List S_api_Unwind) × Int × Int)) (p0 : (List UInt8)) (x244 : List Int) (x246 : Int) (x250 : List S_api_Unwind) (x252 : Int) (x253 : Int) : Option ((List S_api_Unwind) × Int × Int) :=
  (getI x244 0).bind fun y474 => (if (decide (x253 < y474)) = true then (F_ref08_numbers p0 x246 4).bind fun c482 => ((if (!c482.2.2) = true then some true else (getI c482.1 3).bind fun y494 => some (decide (y494 > 16)))).bind fun c491 => (if c491 = true then some ([], 0, 5) else (getI c482.1 0).bind fun y504 => (getI c482.1 0).bind fun y509 => (getI c482.1 1).bind fun y514 => (getI c482.1 2).bind fun y519 => (if (decide ((IntKind.i64.wrap ((IntKind.i64.wrap (x252 + y509)) + y514)) > 16777216)) = true then some ([], 0, 5) else F_ref08_Get_l19 rec18 p0 x252 x253 c482 y504 y509 y514 y519 big x244 c482.2.1 x250 ([]) 0)) else (F_ref08_Right x250).bind fun c688 => (if (!c688) = true then some ([], 0, 5) else some (x250, x246, 0)))
def F_ref08_Get_l17 (p0 : (List UInt8)) : Nat → (List Int) → Int → (List S_api_Unwind) → Int → Int → Option ((List S_api_Unwind) × Int × Int)
  | 0, _, _, _, _, _ => none
  | n + 1, x244, x246, x250, x252, x253 => F_ref08_Get_l17B (F_ref08_Get_l17 p0 n) p0 x244 x246 x250 x252 x253
def F_ref08_Get (p0 : (List UInt8)) (p1 : Int) : Option ((List S_api_Unwind) × Int × Int) :=
  (if ((decide (p1 < 0)) || (decide (p1 > (p0.length : Int)))) = true then some ([], 0, 1) else (F_ref08_numbers p0 p1 1).bind fun c4 => ((if (!c4.2.2) = true then some true else (getI c4.1 0).bind fun y16 => some (decide (y16 > 4000)))).bind fun c13 => (if c13 = true then some ([], 0, 5) else F_ref08_Get_l17 p0 big c4.1 c4.2.1 ([]) 0 0))
def F_law08_UnwindGets (p0 : (List UInt8)) (p1 : Int) : Option Bool :=
  (if (decide ((p0.length : Int) > 8192)) = true then (F_law08_works ).bind fun c4 => some c4 else (F_ref00_Roomy p0).bind fun c8 => (F_unwind_Get c8.1 p1).bind fun c19 => (F_ref08_Get p0 p1).bind fun c27 => (F_ref08_Same c19.1 c27.1).bind fun c35 => ((if ((c35 && (c19.2.1 == c27.2.1)) && (c19.2.2 == c27.2.2)) = true then (F_ref00_Kept c8.1 c8.2 p0).bind fun c42 => some c42 else some false)).bind fun c39 => ((if c39 = true then (F_law08_works ).bind fun c49 => some c49 else some false)).bind fun c46 => some c46)
end Go.Proofs.Ytneonhnackjdjaa
