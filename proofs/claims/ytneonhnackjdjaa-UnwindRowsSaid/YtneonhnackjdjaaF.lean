import Derived.Test.YtneonhnackjdjaaAd
import Derived.Test.YtneonhnackjdjaaFM
namespace Go.Proofs.Ytneonhnackjdjaa
open Go.Ab Go.RowKit
set_option linter.unusedVariables false
set_option linter.unusedSimpArgs false
set_option maxRecDepth 10000
structure zb where
  Reg : Int
  At : Int
  deriving DecidableEq
def zf : Ty zb where
  sz := 2
  R := fun σ x cs => cs = [.int .i64 x.Reg, .int .i64 x.At]
  len := by rintro σ x cs rfl; rfl
  one := by rintro σ x cs rfl; rfl
  mono := by rintro σ σ' x cs hle rfl; rfl
theorem zbU : zf.Flat := fun _ _ _ _ h => h
structure za where
  From : Int
  To : Int
  Up : Int
  Regs : (List zb)
  deriving DecidableEq
def zd : Ty za where
  sz := 4
  R := fun σ x cs => ∃ v3, cs = [.int .i64 x.From, .int .i64 x.To, .int .i64 x.Up, v3] ∧ RdT zf σ v3 x.Regs
  len := by rintro σ x cs ⟨v3, rfl, h0⟩; rfl
  one := by rintro σ x cs ⟨v3, rfl, h0⟩; obtain ⟨_, ⟨_, _, rfl, _⟩, _⟩ := h0; rfl
  mono := by rintro σ σ' x cs hle ⟨v3, rfl, h0⟩; exact ⟨v3, rfl, h0.le hle⟩
structure zc where
  Known : (List Bool)
  Regs : (List Int)
  Base : Int
  Words : (List Int)
  deriving DecidableEq
structure ze where
  b : (List UInt8)
  at_ : Int
  failed : Bool
  deriving DecidableEq
def zH (rec4 : Int → Int → Option Bool) (p0 : (List zb)) (x11 : Int) (x13 : Int) : Option Bool :=
  (if (decide (x13 < (p0.length : Int))) = true then (getI p0 x13).bind fun y24 => (if ((((decide (y24.Reg ≤ x11)) || (decide (y24.Reg > 11))) || (decide (y24.At > (-2)))) || (decide (y24.At < (-65536)))) = true then some false else rec4 y24.Reg (IntKind.i64.wrap (x13 + 1))) else some true)
def zD (p0 : (List zb)) : Nat → Int → Int → Option Bool
  | 0, _, _ => none
  | n + 1, x11, x13 => zH (zD p0 n) p0 x11 x13
def zbs (p0 : (List zb)) : Option Bool :=
  zD p0 big 5 0
def z9 (rec4 : Int → Int → Option Bool) (p0 : (List za)) (x24 : Int) (x26 : Int) : Option Bool :=
  (if (decide (x26 < (p0.length : Int))) = true then (getI p0 x26).bind fun y48 => ((if (((((decide (y48.From < x24)) || (decide (y48.To ≤ y48.From))) || (decide (y48.To > 16777216))) || (decide (y48.Up < 0))) || (decide (y48.Up > 65536))) = true then some true else (zbs y48.Regs).bind fun c61 => some (!c61))).bind fun c58 => (if c58 = true then some false else rec4 y48.To (IntKind.i64.wrap (x26 + 1))) else some (decide ((p0.length : Int) ≤ 4000)))
def zP (p0 : (List za)) : Nat → Int → Int → Option Bool
  | 0, _, _ => none
  | n + 1, x24, x26 => z9 (zP p0 n) p0 x24 x26
def zl (p0 : (List za)) : Option Bool :=
  zP p0 big 0 0
def zbq (p0 : (List UInt8)) : Option (List UInt8) := (room p0.length).bind fun _ => some p0
def zbb (rec4 : Int → (List UInt8) → Option (List UInt8))  (x28 : Int) (x32 : List UInt8) : Option (List UInt8) :=
  (if (decide (x28 > 127)) = true then (u8o (orI .u8 (IntKind.u8.wrap x28) 128)).bind fun z47 => (room (x32.length + 1)).bind fun _ => rec4 (shrI .u64 x28 7) (x32 ++ [z47]) else (u8o (IntKind.u8.wrap x28)).bind fun z52 => (room (x32.length + 1)).bind fun _ => some (x32 ++ [z52]))
def zR  : Nat → Int → (List UInt8) → Option (List UInt8)
  | 0, _, _ => none
  | n + 1, x28, x32 => zbb (zR  n)  x28 x32
def zo (p0 : (List UInt8)) (p1 : Int) : Option (List UInt8) :=
  (zbq p0).bind fun c3 => zR  big p1 c3
def zY (rec4 : (List UInt8) → Int → Option (List UInt8)) (p1 : (List Int)) (x61 : List UInt8) (x64 : Int) : Option (List UInt8) :=
  (if (decide (x64 < (p1.length : Int))) = true then (getI p1 x64).bind fun y84 => (zo x61 (IntKind.u64.wrap y84)).bind fun c91 => rec4 c91 (IntKind.i64.wrap (x64 + 1)) else some x61)
def zbl (p1 : (List Int)) : Nat → (List UInt8) → Int → Option (List UInt8)
  | 0, _, _ => none
  | n + 1, x61, x64 => zY (zbl p1 n) p1 x61 x64
def zn (p0 : (List UInt8)) (p1 : (List Int)) : Option (List UInt8) :=
  (if (decide (0 < (p1.length : Int))) = true then (getI p1 0).bind fun y101 => (zo p0 (IntKind.u64.wrap y101)).bind fun c106 => zbl p1 big c106 (IntKind.i64.wrap (0 + 1)) else none)
def zbd (rec16 : (List UInt8) → Int → Option ((List UInt8) × Int)) (rec14 : (List UInt8) → Int → Int → Option ((List UInt8) × Int)) (x181 : Int) (y329 : za) (x400 : List UInt8) (x405 : Int) : Option ((List UInt8) × Int) :=
  (if (decide (x405 < (y329.Regs.length : Int))) = true then (getI y329.Regs x405).bind fun y441 => (u8o (IntKind.u8.wrap y441.Reg)).bind fun z447 => (room (x400.length + ([z447] : List UInt8).length)).bind fun _ => (zn (x400 ++ ([z447] : List UInt8)) ([(IntKind.i64.wrap (0 - y441.At))] : List Int)).bind fun c464 => rec16 c464 (IntKind.i64.wrap (x405 + 1)) else rec14 x400 y329.To (IntKind.i64.wrap (x181 + 1)))
def z0 (rec14 : (List UInt8) → Int → Int → Option ((List UInt8) × Int)) (x181 : Int) (y329 : za) : Nat → (List UInt8) → Int → Option ((List UInt8) × Int)
  | 0, _, _ => none
  | n + 1, x400, x405 => zbd (z0 rec14 x181 y329 n) rec14 x181 y329 x400 x405
def z1 (rec14 : (List UInt8) → Int → Int → Option ((List UInt8) × Int)) (p1 : (List za)) (x177 : List UInt8) (x179 : Int) (x181 : Int) : Option ((List UInt8) × Int) :=
  (if (decide (x181 < (p1.length : Int))) = true then (getI p1 x181).bind fun y329 => (zn x177 ([(IntKind.i64.wrap (y329.From - x179)), (IntKind.i64.wrap (y329.To - y329.From)), y329.Up, (y329.Regs.length : Int)] : List Int)).bind fun c347 => z0 rec14 x181 y329 big c347 0 else some (x177, 0))
def zj (p1 : (List za)) : Nat → (List UInt8) → Int → Int → Option ((List UInt8) × Int)
  | 0, _, _, _ => none
  | n + 1, x177, x179, x181 => z1 (zj p1 n) p1 x177 x179 x181
def zw (p0 : (List UInt8)) (p1 : (List za)) : Option ((List UInt8) × Int) :=
  (zl p1).bind fun c3 => (if (!c3) = true then some ([], 1) else (zn p0 ([(p1.length : Int)] : List Int)).bind fun c14 => zj p1 big c14 0 0)
def z4 (rec4 : Int → Option Bool) (p0 : za) (p1 : za) (x22 : Int) : Option Bool :=
  (if (decide (x22 < (p0.Regs.length : Int))) = true then (getI p0.Regs x22).bind fun y37 => (getI p1.Regs x22).bind fun y42 => (if (!(( y37.Reg == y42.Reg) && (( y37.At == y42.At) && true))) = true then some false else rec4 (IntKind.i64.wrap (x22 + 1))) else some true)
def zbe (p0 : za) (p1 : za) : Nat → Int → Option Bool
  | 0, _ => none
  | n + 1, x22 => z4 (zbe p0 p1 n) p0 p1 x22
def zU (p0 : za) (p1 : za) : Option Bool :=
  (if ((((p0.From != p1.From) || (p0.To != p1.To)) || (p0.Up != p1.Up)) || ((p0.Regs.length : Int) != (p1.Regs.length : Int))) = true then some false else zbe p0 p1 big 0)
def zV (rec4 : Int → Option Bool) (p0 : (List za)) (p1 : (List za)) (x32 : Int) : Option Bool :=
  (if (decide (x32 < (p0.length : Int))) = true then (getI p0 x32).bind fun y59 => (getI p1 x32).bind fun y68 => (zU (⟨y59.From, y59.To, y59.Up, y59.Regs⟩ : za) (⟨y68.From, y68.To, y68.Up, y68.Regs⟩ : za)).bind fun c77 => (if (!c77) = true then some false else rec4 (IntKind.i64.wrap (x32 + 1))) else some true)
def zO (p0 : (List za)) (p1 : (List za)) : Nat → Int → Option Bool
  | 0, _ => none
  | n + 1, x32 => zV (zO p0 p1 n) p0 p1 x32
def zu (p0 : (List za)) (p1 : (List za)) : Option Bool :=
  (if ((p0.length : Int) != (p1.length : Int)) = true then some false else zO p0 p1 big 0)
def zI (rec4 : Int → Int → Option (Int × Int)) (p0 : (List UInt8)) (x18 : Int) (x19 : Int) : Option (Int × Int) :=
  (if (decide (x19 < (minI (p0.length : Int) 10))) = true then (getI p0 x19).bind fun y36 => (shlO .u64 (IntKind.u64.wrap (andI .u8 (y36.toNat : Int) 127)) (IntKind.i64.wrap (7 * x19))).bind fun y41 => (getI p0 x19).bind fun y43 => (if (decide ((y43.toNat : Int) < 128)) = true then some ((orI .u64 x18 y41), (IntKind.i64.wrap (x19 + 1))) else rec4 (orI .u64 x18 y41) (IntKind.i64.wrap (x19 + 1))) else some (0, 0))
def z7 (p0 : (List UInt8)) : Nat → Int → Int → Option (Int × Int)
  | 0, _, _ => none
  | n + 1, x18, x19 => zI (z7 p0 n) p0 x18 x19
def zbu (p0 : (List UInt8)) : Option (Int × Int) :=
  z7 p0 big 0 0
def zF (rec4 : Int → Option Bool) (p0 : (List UInt8)) (p1 : (List UInt8)) (x20 : Int) : Option Bool :=
  (if (decide (x20 < (p0.length : Int))) = true then (getI p0 x20).bind fun y35 => (getI p1 x20).bind fun y40 => (if ((y35.toNat : Int) != (y40.toNat : Int)) = true then some false else rec4 (IntKind.i64.wrap (x20 + 1))) else some true)
def zE (p0 : (List UInt8)) (p1 : (List UInt8)) : Nat → Int → Option Bool
  | 0, _ => none
  | n + 1, x20 => zF (zE p0 p1 n) p0 p1 x20
def zG (p0 : (List UInt8)) (p1 : (List UInt8)) : Option Bool :=
  (if ((p0.length : Int) != (p1.length : Int)) = true then some false else zE p0 p1 big 0)
def zbp (p0 : Int) (p1 : Int) : Option Int :=
  some p0
def zbn (p0 : (List UInt8)) (p1 : Int) : Option (Int × Int × Int) :=
  (if ((decide (p1 < 0)) || (decide (p1 > (p0.length : Int)))) = true then some (0, 0, 1) else (cutI p0 p1 (p0.length : Int)).bind fun y6 => (zbu y6).bind fun c11 => (zbp c11.1 c11.2).bind fun c15 => ((if (c11.2 == 0) = true then some true else (cutI p0 p1 (IntKind.i64.wrap (p1 + c11.2))).bind fun y22 => (zo [] c15).bind fun c27 => (zG c27 y22).bind fun c38 => some (!c38))).bind fun c19 => (if c19 = true then some (0, 0, 5) else some (c15, (IntKind.i64.wrap (p1 + c11.2)), 0)))
def zW (p0 : (List UInt8)) (p1 : Int) : Option (Int × Int × Int) :=
  (zbn p0 p1).bind fun c3 => some (c3.1, c3.2.1, c3.2.2)
def zh (q0 : ze) (p1 : Int) : Option (Int × ze) :=
  (zW q0.b q0.at_).bind fun c3 => (if ((q0.failed || (c3.2.2 != 0)) || (decide (c3.1 > (IntKind.u64.wrap p1)))) = true then some (0, (⟨q0.b, q0.at_, true⟩ : ze)) else some ((IntKind.i64.wrap c3.1), (⟨q0.b, c3.2.1, q0.failed⟩ : ze)))
def z8 (q0 : ze) : Option (Int × ze) :=
  (if (q0.failed || (decide (q0.at_ ≥ (q0.b.length : Int)))) = true then some (0, (⟨q0.b, q0.at_, true⟩ : ze)) else (getI q0.b (IntKind.i64.wrap ((IntKind.i64.wrap (q0.at_ + 1)) - 1))).bind fun y3 => some ((y3.toNat : Int), (⟨q0.b, (IntKind.i64.wrap (q0.at_ + 1)), q0.failed⟩ : ze)))
def zp (rec4 : (List UInt8) → Int → Bool → (List zb) → Int → Option (za × ze)) (p1 : Int) (c4 : Int × ze) (c13 : Int × ze) (c21 : Int × ze) (x66 : List UInt8) (x68 : Int) (x69 : Bool) (x73 : List zb) (x75 : Int) : Option (za × ze) :=
  (if ((decide (x75 > 0)) && (!x69)) = true then (z8 (⟨x66, x68, x69⟩ : ze)).bind fun c105 => (zh (⟨c105.2.b, c105.2.at_, c105.2.failed⟩ : ze) 65536).bind fun c113 => (room (x73.length + ([(⟨(IntKind.i64.wrap c105.1), (IntKind.i64.wrap (0 - c113.1))⟩ : zb)] : List zb).length)).bind fun _ => rec4 c113.2.b c113.2.at_ c113.2.failed (x73 ++ ([(⟨(IntKind.i64.wrap c105.1), (IntKind.i64.wrap (0 - c113.1))⟩ : zb)] : List zb)) (IntKind.i64.wrap (x75 - 1)) else some ((⟨(IntKind.i64.wrap (p1 + c4.1)), (IntKind.i64.wrap ((IntKind.i64.wrap (p1 + c4.1)) + c13.1)), c21.1, x73⟩ : za), (⟨x66, x68, x69⟩ : ze)))
def zS (p1 : Int) (c4 : Int × ze) (c13 : Int × ze) (c21 : Int × ze) : Nat → (List UInt8) → Int → Bool → (List zb) → Int → Option (za × ze)
  | 0, _, _, _, _, _ => none
  | n + 1, x66, x68, x69, x73, x75 => zp (zS p1 c4 c13 c21 n) p1 c4 c13 c21 x66 x68 x69 x73 x75
def z2 (q0 : ze) (p1 : Int) : Option (za × ze) :=
  (zh (⟨q0.b, q0.at_, q0.failed⟩ : ze) 16777216).bind fun c4 => (zh (⟨c4.2.b, c4.2.at_, c4.2.failed⟩ : ze) 16777216).bind fun c13 => (zh (⟨c13.2.b, c13.2.at_, c13.2.failed⟩ : ze) 65536).bind fun c21 => (zh (⟨c21.2.b, c21.2.at_, c21.2.failed⟩ : ze) 11).bind fun c29 => zS p1 c4 c13 c21 big c29.2.b c29.2.at_ c29.2.failed ([]) c29.1
def zq (rec4 : (List za) → (List UInt8) → Int → Bool → Int → Int → Option ((List za) × Int × Int))  (x50 : List za) (x54 : List UInt8) (x56 : Int) (x57 : Bool) (x58 : Int) (x59 : Int) : Option ((List za) × Int × Int) :=
  (if ((decide (x59 > 0)) && (!x57)) = true then (z2 (⟨x54, x56, x57⟩ : ze) x58).bind fun c96 => (room (x50.length + ([(⟨c96.1.From, c96.1.To, c96.1.Up, c96.1.Regs⟩ : za)] : List za).length)).bind fun _ => rec4 (x50 ++ ([(⟨c96.1.From, c96.1.To, c96.1.Up, c96.1.Regs⟩ : za)] : List za)) c96.2.b c96.2.at_ (c96.2.failed || (decide (c96.1.To > 16777216))) c96.1.To (IntKind.i64.wrap (x59 - 1)) else ((if x57 = true then some true else (zl x50).bind fun c124 => some (!c124))).bind fun c121 => (if c121 = true then some ([], 0, 5) else some (x50, x56, 0)))
def zL  : Nat → (List za) → (List UInt8) → Int → Bool → Int → Int → Option ((List za) × Int × Int)
  | 0, _, _, _, _, _, _ => none
  | n + 1, x50, x54, x56, x57, x58, x59 => zq (zL  n)  x50 x54 x56 x57 x58 x59
def zB (p0 : (List UInt8)) (p1 : Int) : Option ((List za) × Int × Int) :=
  (if ((decide (p1 < 0)) || (decide (p1 > (p0.length : Int)))) = true then some ([], 0, 1) else (zh (⟨p0, p1, false⟩ : ze) 4000).bind fun c5 => zL  big ([]) c5.2.b c5.2.at_ c5.2.failed 0 c5.1)
def zbr (p0 : (List zb)) : Option (List zb) := (room p0.length).bind fun _ => some p0
def zK (rec4 : Int → Option (za × Bool)) (p0 : (List za)) (p1 : Int) (x29 : Int) : Option (za × Bool) :=
  (if (decide (x29 < (p0.length : Int))) = true then (getI p0 x29).bind fun y55 => (if ((decide (y55.From ≤ p1)) && (decide (p1 < y55.To))) = true then (zbr y55.Regs).bind fun c66 => some ((⟨y55.From, y55.To, y55.Up, c66⟩ : za), true) else rec4 (IntKind.i64.wrap (x29 + 1))) else some ((⟨0, 0, 0, []⟩ : za), false))
def zba (p0 : (List za)) (p1 : Int) : Nat → Int → Option (za × Bool)
  | 0, _ => none
  | n + 1, x29 => zK (zba p0 p1 n) p0 p1 x29
def zbc (p0 : (List za)) (p1 : Int) : Option (za × Bool) :=
  zba p0 p1 big 0
def zz (p0 : zc) (p1 : Int) : Option (Int × Bool) :=
  ((if (decide (p1 ≥ (p0.Known.length : Int))) = true then some true else (getI p0.Known p1).bind fun y7 => some (!y7))).bind fun c4 => (if c4 = true then some (0, false) else (if (decide (p1 ≥ (p0.Regs.length : Int))) = true then some (0, true) else (getI p0.Regs p1).bind fun y14 => some (y14, true)))
def zZ (p0 : (List Bool)) : Option (List Bool) :=
  (mkI false (p0.length : Int) (p0.length : Int)).bind fun y2 => some (p0.take y2.length ++ y2.drop p0.length)
def zy (p0 : (List Int)) : Option (List Int) :=
  (mkI 0 (p0.length : Int) (p0.length : Int)).bind fun y2 => some (p0.take y2.length ++ y2.drop p0.length)
def zm (p0 : (List za)) (p1 : Int) (p2 : zc) : Option (zc × Int) :=
  (zbc p0 p1).bind fun c6 => (zz (⟨p2.Known, p2.Regs, p2.Base, p2.Words⟩ : zc) 15).bind fun c15 => (if ((!c6.2) || (!c15.2)) = true then some ((⟨[], [], 0, []⟩ : zc), 4) else (zZ p2.Known).bind fun c20 => (zy p2.Regs).bind fun c29 => (zy p2.Words).bind fun c38 => some ((⟨c20, c29, (IntKind.i64.wrap (c15.1 + c6.1.Up)), c38⟩ : zc), 0))
def zt (p0 : zc) (p1 : Int) : Option (Int × Bool) :=
  (if ((decide (p1 < 0)) || (decide (p1 ≥ (p0.Words.length : Int)))) = true then some (0, false) else (getI p0.Words p1).bind fun y5 => some (y5, true))
def zbj (rec18 : (List Bool) → (List Int) → Int → Option (Int × zc × Int)) (p2 : zc) (c6 : zc × Int) (c24 : za × Bool) (c44 : Int × Bool) (x610 : List Bool) (x617 : List Int) (x622 : Int) : Option (Int × zc × Int) :=
  (if (decide (x622 < (c24.1.Regs.length : Int))) = true then (getI c24.1.Regs x622).bind fun y659 => (zt (⟨p2.Known, p2.Regs, p2.Base, p2.Words⟩ : zc) (IntKind.i64.wrap (c6.1.Base + y659.At))).bind fun c665 => (if (!c665.2) = true then some (0, (⟨[], [], 0, []⟩ : zc), 4) else (getI x617 y659.Reg).bind fun y670 => (getI x610 y659.Reg).bind fun y679 => rec18 (x610.set (Int.toNat y659.Reg) true) (x617.set (Int.toNat y659.Reg) c665.1) (IntKind.i64.wrap (x622 + 1))) else some (c44.1, (⟨x610, x617, 0, c6.1.Words⟩ : zc), 0))
def zx (p2 : zc) (c6 : zc × Int) (c24 : za × Bool) (c44 : Int × Bool) : Nat → (List Bool) → (List Int) → Int → Option (Int × zc × Int)
  | 0, _, _, _ => none
  | n + 1, x610, x617, x622 => zbj (zx p2 c6 c24 c44 n) p2 c6 c24 c44 x610 x617 x622
def zT (rec16 : (List Bool) → (List Int) → Int → Option (Int × zc × Int)) (p2 : zc) (c6 : zc × Int) (c24 : za × Bool) (c44 : Int × Bool) (x301 : List Bool) (x308 : List Int) (x312 : Int) : Option (Int × zc × Int) :=
  (if (decide (x312 ≤ 11)) = true then (zz (⟨p2.Known, p2.Regs, p2.Base, p2.Words⟩ : zc) x312).bind fun c504 => (getI x308 x312).bind fun y508 => (getI x301 x312).bind fun y517 => rec16 (x301.set (Int.toNat x312) c504.2) (x308.set (Int.toNat x312) c504.1) (IntKind.i64.wrap (x312 + 1)) else (getI x308 15).bind fun y526 => (getI x301 15).bind fun y535 => zx p2 c6 c24 c44 big (x301.set (Int.toNat 15) true) (x308.set (Int.toNat 15) c6.1.Base) 0)
def zJ (p2 : zc) (c6 : zc × Int) (c24 : za × Bool) (c44 : Int × Bool) : Nat → (List Bool) → (List Int) → Int → Option (Int × zc × Int)
  | 0, _, _, _ => none
  | n + 1, x301, x308, x312 => zT (zJ p2 c6 c24 c44 n) p2 c6 c24 c44 x301 x308 x312
def zbw (p2 : zc) (c6 : zc × Int) (c24 : za × Bool) (c44 : Int × Bool) (x75 : List Bool) (x80 : List Int) : Option (Int × zc × Int) :=
  zJ p2 c6 c24 c44 big x75 x80 6
def zk (p0 : (List za)) (p1 : Int) (p2 : zc) : Option (Int × zc × Int) :=
  (zm p0 p1 (⟨p2.Known, p2.Regs, p2.Base, p2.Words⟩ : zc)).bind fun c6 => (if (c6.2 != 0) = true then some (0, (⟨[], [], 0, []⟩ : zc), c6.2) else (zbc p0 p1).bind fun c24 => (zl ([(⟨c24.1.From, c24.1.To, c24.1.Up, c24.1.Regs⟩ : za)] : List za)).bind fun c39 => (if (!c39) = true then some (0, (⟨[], [], 0, []⟩ : zc), 1) else (zt (⟨p2.Known, p2.Regs, p2.Base, p2.Words⟩ : zc) (IntKind.i64.wrap (c6.1.Base - 1))).bind fun c44 => (if (((!c44.2) || (decide (c44.1 < 0))) || (decide (c44.1 ≥ 16777216))) = true then some (0, (⟨[], [], 0, []⟩ : zc), 4) else (mkI false 16 16).bind fun y692 => (mkI 0 16 16).bind fun y699 => zbw p2 c6 c24 c44 y692 y699)))
def zbD (rec18 : (List Bool) → (List Int) → (List Int) → Int → Option zc) (p0 : Int) (p1 : Int) (x295 : List Bool) (x300 : List Int) (x305 : List Int) (x307 : Int) : Option zc :=
  (if (decide (x307 < p0)) = true then (room (x305.length + 1)).bind fun _ => rec18 x295 x300 (x305 ++ [x307]) (IntKind.i64.wrap (x307 + 1)) else (getI x300 15).bind fun y335 => some (⟨x295, (x300.set (Int.toNat 15) p1), 0, x305⟩ : zc))
def zbm (p0 : Int) (p1 : Int) : Nat → (List Bool) → (List Int) → (List Int) → Int → Option zc
  | 0, _, _, _, _ => none
  | n + 1, x295, x300, x305, x307 => zbD (zbm p0 p1 n) p0 p1 x295 x300 x305 x307
def zbB (rec16 : (List Bool) → (List Int) → Int → Option zc) (p0 : Int) (p1 : Int) (x143 : List Bool) (x149 : List Int) (x151 : Int) : Option zc :=
  (if (decide (x151 < 16)) = true then (getI x143 x151).bind fun y253 => rec16 (x143.set (Int.toNat x151) true) x149 (IntKind.i64.wrap (x151 + 1)) else zbm p0 p1 big x143 x149 ([]) 0)
def zbo (p0 : Int) (p1 : Int) : Nat → (List Bool) → (List Int) → Int → Option zc
  | 0, _, _, _ => none
  | n + 1, x143, x149, x151 => zbB (zbo p0 p1 n) p0 p1 x143 x149 x151
def zbz (p0 : Int) (p1 : Int) (x23 : List Bool) (x28 : List Int) : Option zc :=
  zbo p0 p1 big x23 x28 0
def zbv (p0 : Int) (p1 : Int) : Option zc :=
  (mkI false 16 16).bind fun y351 => (mkI 0 16 16).bind fun y358 => zbz p0 p1 y351 y358
def zr  : Option Bool :=
  (zw [] ([(⟨10, 20, 3, ([(⟨7, (-2)⟩ : zb)] : List zb)⟩ : za)] : List za)).bind fun c13 => (zB c13.1 0).bind fun c24 => (zbv 10 5).bind fun c32 => (zk c24.1 12 (⟨c32.Known, c32.Regs, c32.Base, c32.Words⟩ : zc)).bind fun c48 => ((if ((((c13.2 == 0) && ((c13.1.length : Int) == 7)) && (c24.2.2 == 0)) && (c24.2.1 == 7)) = true then (zu ([(⟨10, 20, 3, ([(⟨7, (-2)⟩ : zb)] : List zb)⟩ : za)] : List za) c24.1).bind fun c68 => some c68 else some false)).bind fun c65 => ((if (((c65 && (c48.2.2 == 0)) && (c48.1 == 7)) && ((c48.2.1.Regs.length : Int) == 16)) = true then (getI c48.2.1.Regs 15).bind fun y75 => some (y75 == 8) else some false)).bind fun c72 => ((if c72 = true then (getI c48.2.1.Regs 7).bind fun y83 => some (y83 == 6) else some false)).bind fun c80 => ((if (c80 && ((c48.2.1.Known.length : Int) == 16)) = true then (getI c48.2.1.Known 7).bind fun y91 => some y91 else some false)).bind fun c88 => ((if c88 = true then (getI c48.2.1.Known 0).bind fun y99 => some (!y99) else some false)).bind fun c96 => some c96
def z5 (rec2782 : (List Int) → (List Int) → (List za) → (List (List Int)) → (List zb) → Int → Option Bool) (rec2779 : (List Int) → (List Int) → (List za) → (List (List Int)) → Int → Option Bool) (p1 : (List UInt8)) (x54456 : Int) (y63809 : UInt8) (y63815 : Int) (x63943 : List Int) (x63950 : List Int) (x63956 : List za) (x63961 : List (List Int)) (x63966 : List zb) (x63968 : Int) : Option Bool :=
  (if (decide (x63968 < 6)) = true then (getI p1 x54456).bind fun y64024 => (shrO .u8 (y64024.toNat : Int) x63968).bind fun y64029 => (if ((andI .u8 y64029 1) == 1) = true then (getI x63950 (IntKind.i64.wrap (6 + x63968))).bind fun y64032 => (getI x63943 (IntKind.i64.wrap (y63815 + (IntKind.i64.wrap ((-2) - (x63966.length : Int)))))).bind fun y64039 => (room (x63966.length + 1)).bind fun _ => (getI x63950 (IntKind.i64.wrap (6 + x63968))).bind fun y64052 => rec2782 (x63943.set (Int.toNat (IntKind.i64.wrap (y63815 + (IntKind.i64.wrap ((-2) - (x63966.length : Int)))))) y64032) (x63950.set (Int.toNat (IntKind.i64.wrap (6 + x63968))) (IntKind.i64.wrap ((IntKind.i64.wrap (1000 * x54456)) + x63968))) x63956 x63961 (x63966 ++ [(⟨(IntKind.i64.wrap (6 + x63968)), (IntKind.i64.wrap ((-2) - (x63966.length : Int)))⟩ : zb)]) (IntKind.i64.wrap (x63968 + 1)) else rec2782 x63943 x63950 x63956 x63961 x63966 (IntKind.i64.wrap (x63968 + 1))) else (getI x63950 15).bind fun y64061 => (room (x63956.length + 1)).bind fun _ => rec2779 x63943 (x63950.set (Int.toNat 15) (IntKind.i64.wrap (y63815 - (IntKind.i64.wrap (10 + (IntKind.i64.wrap (Int.tmod (y63809.toNat : Int) 10))))))) (x63956 ++ [(⟨(IntKind.i64.wrap (10 * x54456)), (IntKind.i64.wrap ((IntKind.i64.wrap (10 * x54456)) + 10)), (IntKind.i64.wrap (10 + (IntKind.i64.wrap (Int.tmod (y63809.toNat : Int) 10)))), x63966⟩ : za)]) x63961 (IntKind.i64.wrap (x54456 + 1)))
def zbi (rec2779 : (List Int) → (List Int) → (List za) → (List (List Int)) → Int → Option Bool) (p1 : (List UInt8)) (x54456 : Int) (y63809 : UInt8) (y63815 : Int) : Nat → (List Int) → (List Int) → (List za) → (List (List Int)) → (List zb) → Int → Option Bool
  | 0, _, _, _, _, _, _ => none
  | n + 1, x63943, x63950, x63956, x63961, x63966, x63968 => z5 (zbi rec2779 p1 x54456 y63809 y63815 n) rec2779 p1 x54456 y63809 y63815 x63943 x63950 x63956 x63961 x63966 x63968
def zA (rec2779 : (List Int) → (List Int) → (List za) → (List (List Int)) → Int → Option Bool) (p1 : (List UInt8)) (x54456 : Int) (y63809 : UInt8) (y63815 : Int) (x63847 : List Int) (x63853 : List Int) (x63858 : List za) (x63863 : List (List Int)) : Option Bool :=
  zbi rec2779 p1 x54456 y63809 y63815 big x63847 x63853 x63858 x63863 ([]) 0
def zbf (rec2950 : (List (List Int)) → Int → Option Bool) (rec2942 : (List (List Int)) → (List Bool) → (List Int) → Int → (List Int) → Int → Option Bool) (x72272 : Int) (c72720 : Int × zc × Int) (x73086 : List (List Int)) (x73094 : Int) : Option Bool :=
  (if (decide (x73094 < 6)) = true then (getI c72720.2.1.Known x73094).bind fun y73112 => ((if y73112 = true then some true else (getI c72720.2.1.Known (IntKind.i64.wrap (12 + (Int.tmod x73094 3)))).bind fun y73120 => some y73120)).bind fun c73117 => (if c73117 = true then some false else rec2950 x73086 (IntKind.i64.wrap (x73094 + 1))) else rec2942 x73086 c72720.2.1.Known c72720.2.1.Regs c72720.2.1.Base c72720.2.1.Words (IntKind.i64.wrap (x72272 - 1)))
def zQ (rec2942 : (List (List Int)) → (List Bool) → (List Int) → Int → (List Int) → Int → Option Bool) (x72272 : Int) (c72720 : Int × zc × Int) : Nat → (List (List Int)) → Int → Option Bool
  | 0, _, _ => none
  | n + 1, x73086, x73094 => zbf (zQ rec2942 x72272 c72720 n) rec2942 x72272 c72720 x73086 x73094
def z6 (rec2948 : (List (List Int)) → Int → Option Bool) (rec2942 : (List (List Int)) → (List Bool) → (List Int) → Int → (List Int) → Int → Option Bool) (x72272 : Int) (c72720 : Int × zc × Int) (x72912 : List (List Int)) (x72920 : Int) : Option Bool :=
  (if (decide (x72920 ≤ 11)) = true then (getI c72720.2.1.Known x72920).bind fun y73025 => ((if (!y73025) = true then some true else (getI c72720.2.1.Regs x72920).bind fun y73033 => (getI x72912 x72272).bind fun y73038 => (getI y73038 x72920).bind fun y73049 => some (y73033 != y73049))).bind fun c73030 => (if c73030 = true then some false else rec2948 x72912 (IntKind.i64.wrap (x72920 + 1))) else zQ rec2942 x72272 c72720 big x72912 0)
def zN (rec2942 : (List (List Int)) → (List Bool) → (List Int) → Int → (List Int) → Int → Option Bool) (x72272 : Int) (c72720 : Int × zc × Int) : Nat → (List (List Int)) → Int → Option Bool
  | 0, _, _ => none
  | n + 1, x72912, x72920 => z6 (zN rec2942 x72272 c72720 n) rec2942 x72272 c72720 x72912 x72920
def zM (rec2942 : (List (List Int)) → (List Bool) → (List Int) → Int → (List Int) → Int → Option Bool) (x66774 : List za) (x72257 : List (List Int)) (x72261 : List Bool) (x72265 : List Int) (x72267 : Int) (x72270 : List Int) (x72272 : Int) : Option Bool :=
  (if (decide (x72272 ≥ 0)) = true then (zm x66774 (IntKind.i64.wrap ((IntKind.i64.wrap (10 * x72272)) + 5)) (⟨x72261, x72265, x72267, x72270⟩ : zc)).bind fun c72703 => (zk x66774 (IntKind.i64.wrap ((IntKind.i64.wrap (10 * x72272)) + 5)) (⟨x72261, x72265, x72267, x72270⟩ : zc)).bind fun c72720 => ((if ((c72703.2 != 0) || (c72720.2.2 != 0)) = true then some true else (getI x72257 x72272).bind fun y72740 => (getI y72740 15).bind fun y72751 => some (c72703.1.Base != y72751))).bind fun c72737 => ((if ((c72737 || ((c72720.2.1.Regs.length : Int) != 16)) || ((c72720.2.1.Known.length : Int) != 16)) = true then some true else (getI c72720.2.1.Regs 15).bind fun y72759 => (getI x72257 x72272).bind fun y72764 => (getI y72764 15).bind fun y72775 => some (y72759 != y72775))).bind fun c72756 => ((if c72756 = true then some true else (getI c72720.2.1.Known 15).bind fun y72783 => some (!y72783))).bind fun c72780 => (if c72780 = true then some false else ((if ((decide (x72272 > 0)) && (c72720.1 != (IntKind.i64.wrap ((IntKind.i64.wrap (10 * (IntKind.i64.wrap (x72272 - 1)))) + 5)))) = true then some true else (if (x72272 == 0) = true then some (c72720.1 != 9999) else some false))).bind fun c72789 => (if c72789 = true then some false else zN rec2942 x72272 c72720 big x72257 6)) else (zr ).bind fun c73126 => some c73126)
def zg (x66774 : List za) : Nat → (List (List Int)) → (List Bool) → (List Int) → Int → (List Int) → Int → Option Bool
  | 0, _, _, _, _, _, _ => none
  | n + 1, x72257, x72261, x72265, x72267, x72270, x72272 => zM (zg x66774 n) x66774 x72257 x72261 x72265 x72267 x72270 x72272
def zbg (rec2892 : (List za) → (List (List Int)) → (List Bool) → (List Int) → (List Int) → Int → Option Bool) (p0 : (List UInt8)) (x66774 : List za) (x66779 : List (List Int)) (x66784 : List Bool) (x66789 : List Int) (x66794 : List Int) (x66796 : Int) : Option Bool :=
  (if (decide (x66796 < 16)) = true then (room (x66784.length + 1)).bind fun _ => rec2892 x66774 x66779 (x66784 ++ [true]) x66789 x66794 (IntKind.i64.wrap (x66796 + 1)) else zg x66774 big x66779 x66784 x66789 0 x66794 (IntKind.i64.wrap ((p0.length : Int) - 1)))
def zbk (p0 : (List UInt8)) : Nat → (List za) → (List (List Int)) → (List Bool) → (List Int) → (List Int) → Int → Option Bool
  | 0, _, _, _, _, _, _ => none
  | n + 1, x66774, x66779, x66784, x66789, x66794, x66796 => zbg (zbk p0 n) p0 x66774 x66779 x66784 x66789 x66794 x66796
def z3 (rec2779 : (List Int) → (List Int) → (List za) → (List (List Int)) → Int → Option Bool) (p0 : (List UInt8)) (p1 : (List UInt8)) (x54437 : List Int) (x54443 : List Int) (x54449 : List za) (x54454 : List (List Int)) (x54456 : Int) : Option Bool :=
  (if (decide (x54456 < (p0.length : Int))) = true then (room (([] : List Int).length + x54443.length)).bind fun _ => (room (x54454.length + 1)).bind fun _ => (getI p0 x54456).bind fun y63809 => (getI x54443 15).bind fun y63815 => (getI x54437 (IntKind.i64.wrap (y63815 - 1))).bind fun y63822 => (if (decide (x54456 > 0)) = true then (getI (x54437.set (Int.toNat (IntKind.i64.wrap (y63815 - 1))) 9999) (IntKind.i64.wrap (y63815 - 1))).bind fun y64077 => zA rec2779 p1 x54456 y63809 y63815 ((x54437.set (Int.toNat (IntKind.i64.wrap (y63815 - 1))) 9999).set (Int.toNat (IntKind.i64.wrap (y63815 - 1))) (IntKind.i64.wrap ((IntKind.i64.wrap (10 * (IntKind.i64.wrap (x54456 - 1)))) + 5))) x54443 x54449 (x54454 ++ [(([] : List Int) ++ x54443)]) else zA rec2779 p1 x54456 y63809 y63815 (x54437.set (Int.toNat (IntKind.i64.wrap (y63815 - 1))) 9999) x54443 x54449 (x54454 ++ [(([] : List Int) ++ x54443)])) else zbk p0 big x54449 x54454 ([]) x54443 x54437 0)
def zi (p0 : (List UInt8)) (p1 : (List UInt8)) : Nat → (List Int) → (List Int) → (List za) → (List (List Int)) → Int → Option Bool
  | 0, _, _, _, _, _ => none
  | n + 1, x54437, x54443, x54449, x54454, x54456 => z3 (zi p0 p1 n) p0 p1 x54437 x54443 x54449 x54454 x54456
def zC (rec2459 : (List Int) → (List Int) → Int → Option Bool) (p0 : (List UInt8)) (p1 : (List UInt8)) (p2 : (List Int)) (x24401 : List Int) (x24407 : List Int) (x24410 : Int) : Option Bool :=
  (if (decide (x24410 < 6)) = true then (getI p2 x24410).bind fun y48772 => (getI x24407 (IntKind.i64.wrap (6 + x24410))).bind fun y48777 => rec2459 x24401 (x24407.set (Int.toNat (IntKind.i64.wrap (6 + x24410))) y48772) (IntKind.i64.wrap (x24410 + 1)) else (getI x24407 15).bind fun y48786 => zi p0 p1 big x24401 (x24407.set (Int.toNat 15) 600) ([]) ([]) 0)
def zbh (p0 : (List UInt8)) (p1 : (List UInt8)) (p2 : (List Int)) : Nat → (List Int) → (List Int) → Int → Option Bool
  | 0, _, _, _ => none
  | n + 1, x24401, x24407, x24410 => zC (zbh p0 p1 p2 n) p0 p1 p2 x24401 x24407 x24410
def zbt (p0 : (List UInt8)) (p1 : (List UInt8)) (p2 : (List Int)) : Option Bool :=
  (if (((decide ((p0.length : Int) > 20)) || (decide ((p1.length : Int) < (p0.length : Int)))) || (decide ((p2.length : Int) < 6))) = true then (zr ).bind fun c5 => some c5 else (mkI 0 600 600).bind fun y9 => (mkI 0 16 16).bind fun y16 => zbh p0 p1 p2 big y9 y16 0)
end Go.Proofs.Ytneonhnackjdjaa
