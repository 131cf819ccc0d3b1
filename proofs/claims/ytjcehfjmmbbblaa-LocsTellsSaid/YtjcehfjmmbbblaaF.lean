import Derived.Test.YtjcehfjmmbbblaaFM
namespace Go.Proofs.Ytjcehfjmmbbblaa
open Go.Ab Go.RowKit
set_option linter.unusedVariables false
set_option linter.unusedSimpArgs false
set_option maxRecDepth 10000
set_option maxHeartbeats 1000000
structure zd where
 Kind : UInt8
 N : Int
 deriving DecidableEq
def zw : Ty zd where
 sz := 2
 R := fun σ x cs => cs = [.int .u8 x.Kind.toNat, .int .i64 x.N]
 len := by rintro σ x cs rfl; rfl
 one := by rintro σ x cs rfl; rfl
 mono := by rintro σ σ' x cs hle rfl; rfl
structure za where
 From : Int
 To : Int
 At : (List zd)
 deriving DecidableEq
def zk : Ty za where
 sz := 3
 R := fun σ x cs => ∃ v2, cs = [.int .i64 x.From, .int .i64 x.To, v2] ∧ RdT zw σ v2 x.At
 len := by rintro σ x cs ⟨v2, rfl, h0⟩; rfl
 one := by rintro σ x cs ⟨v2, rfl, h0⟩; obtain ⟨_, ⟨_, _, rfl, _⟩, _⟩ := h0; rfl
 mono := by rintro σ σ' x cs hle ⟨v2, rfl, h0⟩; exact ⟨v2, rfl, h0.le hle⟩
structure zfa where
 deriving DecidableEq
structure zeG where
 deriving DecidableEq
structure ze8 where
 deriving DecidableEq
inductive z4 where
 | nil : z4
 | c_number (a : Int) : z4
 | c_reg (a : Int) : z4
 | c_base (a : Int) : z4
 | c_word (a : zfa) : z4
 | c_add (a : zeG) : z4
 | c_neg (a : ze8) : z4
 deriving DecidableEq
def zbG : z4 → Value
 | .nil => .nilIface
 | .c_number a => .iface 94 (.int .i64 a)
 | .c_reg a => .iface 95 (.int .i64 a)
 | .c_base a => .iface 96 (.int .i64 a)
 | .c_word a => .iface 98 (.agg #[])
 | .c_add a => .iface 99 (.agg #[])
 | .c_neg a => .iface 100 (.agg #[])
theorem zj1 (x : z4) : one (zbG x) = true := by cases x <;> rfl
theorem zjV (x : z4) : (zbG x).cells.toList = [zbG x] := by cases x <;> rfl
def zeq : Ty z4 where
 sz := 1
 R := fun σ x cs => cs = [zbG x]
 len := by rintro σ x cs rfl; rfl
 one := by rintro σ x cs rfl; simp [zj1]
 mono := by rintro σ σ' x cs hle rfl; rfl
structure zbw where
 From : Int
 To : Int
 At : Value
def ziz : Ty zbw where
 sz := 3
 R := fun σ x cs => cs = [.int .i64 x.From, .int .i64 x.To, x.At] ∧ Ab.one x.At = true
 len := by rintro σ x cs ⟨rfl, _⟩; rfl
 one := by rintro σ x cs ⟨rfl, h0⟩; simp only [List.all_cons, List.all_nil, h0]; rfl
 mono := by rintro σ σ' x cs hle h; exact h
def zG : NTy za zbw where
 T := ziz
 ty := 46
 E := fun τ y b o => ∃ (u0 : Value), b = ⟨y.From, y.To, u0⟩ ∧ zj zw 44 τ u0 y.At o
 Tf := zk
 mono := by rintro τ τ' y b o ⟨u0, rfl, h0⟩ hle; exact ⟨u0, rfl, zj.le h0 hle⟩
 sh := by rintro τ τ' y b o cs ⟨u0, rfl, h0⟩ ⟨rfl, _⟩ hle hr; exact ⟨u0, rfl, zj.rdAt h0 hle hr⟩
 szf := rfl
theorem zbR {τ : Hp} {y : za} {u0 : Value} {o : Ob} (h0 : zj zw 44 τ u0 y.At o) : zG.E τ y (⟨y.From, y.To, u0⟩ : zbw) (o) := ⟨_, rfl, h0⟩
abbrev zbT (b : Nat) (x0 : Int) (x1 : Int) (x2 : Value) : Ob := [(b, ⟨[.int .i64 x0, .int .i64 x1, x2], 46, 3, true⟩)]
def zdK (rec4 : Int → Int → Option Bool) (p0 : (List za)) (x22 : Int) (x23 : Int) : Option Bool :=
 (if ((decide (x23 < (p0.length : Int))) && (decide (x23 ≤ 5000))) = true then (zn p0 x23).bind fun y46 => (zn p0 x23).bind fun y55 => (if (decide ((y55.At.length : Int) > 1000)) = true then some true else rec4 (IntKind.i64.wrap (x22 + (zW (y46.At.length : Int) 1000))) (IntKind.i64.wrap (x23 + 1))) else some ((decide ((p0.length : Int) > 5000)) || (decide (x22 > 20000))))
def zdi (p0 : (List za)) : Nat → Int → Int → Option Bool
 | 0, _, _ => none
 | n + 1, x22, x23 => zdK (zdi p0 n) p0 x22 x23
def zef (p0 : (List za)) : Option Bool :=
 zdi p0 big 0 0
def zgx (p0 : zd) : Option (z4 × Bool) :=
 (if ((p0.Kind.toNat : Int) == 1) = true then some ((z4.c_number p0.N), true) else (if ((p0.Kind.toNat : Int) == 2) = true then some ((z4.c_reg p0.N), ((decide (p0.N ≥ 0)) && (decide (p0.N < 16)))) else (if ((p0.Kind.toNat : Int) == 3) = true then some ((z4.c_base p0.N), true) else (if ((p0.Kind.toNat : Int) == 4) = true then some ((z4.c_word (⟨⟩ : zfa)), (p0.N == 0)) else (if ((p0.Kind.toNat : Int) == 5) = true then some ((z4.c_add (⟨⟩ : zeG)), (p0.N == 0)) else (if ((p0.Kind.toNat : Int) == 6) = true then some ((z4.c_neg (⟨⟩ : ze8)), (p0.N == 0)) else some (z4.nil, false)))))))
def zgm (p0 : Int) : Option Int :=
 some 0
def zfF (p0 : Int) : Option Int :=
 some 0
def zfQ (p0 : Int) : Option Int :=
 some 0
def zfE (p0 : zfa) : Option Int :=
 some 1
def zgC (p0 : zeG) : Option Int :=
 some 2
def zfN (p0 : ze8) : Option Int :=
 some 1
def zfH (x : z4)  : Option Int :=
 match x with
 | .nil => none
 | .c_number a => zgm a
 | .c_reg a => zfF a
 | .c_base a => zfQ a
 | .c_word a => zfE a
 | .c_add a => zgC a
 | .c_neg a => zfN a
def zf8 (rec4 : (List z4) → Int → Int → Option ((List z4) × Bool)) (p0 : (List zd)) (x39 : List z4) (x41 : Int) (x42 : Int) : Option ((List z4) × Bool) :=
 (if (decide (x42 < (p0.length : Int))) = true then (zn p0 x42).bind fun y78 => (zgx (⟨y78.Kind, y78.N⟩ : zd)).bind fun c84 => ((if (!c84.2) = true then some true else (zfH c84.1).bind fun c91 => some (decide (c91 > x41)))).bind fun c88 => (if c88 = true then some ([], false) else (zfH c84.1).bind fun c96 => (if (decide ((IntKind.i64.wrap (x41 + (IntKind.i64.wrap (1 - c96)))) > 8)) = true then some ([], false) else (room (x39.length + 1)).bind fun _ => rec4 (x39 ++ [c84.1]) (IntKind.i64.wrap (x41 + (IntKind.i64.wrap (1 - c96)))) (IntKind.i64.wrap (x42 + 1)))) else ((if (decide ((p0.length : Int) ≤ 16)) = true then (if ((p0.length : Int) == 0) = true then some true else some (x41 == 1)) else some false)).bind fun c106 => some (x39, c106))
def zeX (p0 : (List zd)) : Nat → (List z4) → Int → Int → Option ((List z4) × Bool)
 | 0, _, _, _ => none
 | n + 1, x39, x41, x42 => zf8 (zeX p0 n) p0 x39 x41 x42
def zgz (p0 : (List zd)) : Option ((List z4) × Bool) :=
 zeX p0 big ([]) 0 0
def zea (p0 : (List zd)) : Option Bool :=
 (zgz p0).bind fun c2 => some c2.2
def zfo (rec4 : Int → Int → Option Bool) (p0 : (List za)) (x21 : Int) (x22 : Int) : Option Bool :=
 (if (decide (x22 < (p0.length : Int))) = true then (zn p0 x22).bind fun y44 => ((if ((((decide (y44.From < x21)) || (decide (y44.To ≤ y44.From))) || (decide (y44.To > 16777216))) || ((y44.At.length : Int) == 0)) = true then some true else (zea y44.At).bind fun c57 => some (!c57))).bind fun c54 => (if c54 = true then some false else rec4 y44.To (IntKind.i64.wrap (x22 + 1))) else some (decide ((p0.length : Int) ≤ 4000)))
def zfc (p0 : (List za)) : Nat → Int → Int → Option Bool
 | 0, _, _ => none
 | n + 1, x21, x22 => zfo (zfc p0 n) p0 x21 x22
def zdz (p0 : (List za)) : Option Bool :=
 zfc p0 big 0 0
def zem (p0 : (List UInt8)) : Option (List UInt8) := (room p0.length).bind fun _ => some p0
def zf0 (rec4 : Int → (List UInt8) → Option (List UInt8))  (x30 : Int) (x34 : List UInt8) : Option (List UInt8) :=
 (if (decide (x30 > 127)) = true then (u8o (orI .u8 (IntKind.u8.wrap x30) 128)).bind fun z51 => (room (x34.length + 1)).bind fun _ => rec4 (zch .u64 x30 7) (x34 ++ [z51]) else (u8o (IntKind.u8.wrap x30)).bind fun z57 => (room (x34.length + 1)).bind fun _ => some (x34 ++ [z57]))
def ze0  : Nat → Int → (List UInt8) → Option (List UInt8)
 | 0, _, _ => none
 | n + 1, x30, x34 => zf0 (ze0  n)  x30 x34
def zcP (p0 : (List UInt8)) (p1 : Int) : Option (List UInt8) :=
 (zem p0).bind fun c3 => ze0  big p1 c3
def zeo (p0 : Int) : Option Bool :=
 some ((decide (p0 ≥ 1)) && (decide (p0 ≤ 3)))
def zfi (rec4 : Int → (List UInt8) → Option (List UInt8))  (x30 : Int) (x34 : List UInt8) : Option (List UInt8) :=
 (if ((decide (x30 > 63)) || (decide (x30 < (-64)))) = true then (u8o (orI .u8 (IntKind.u8.wrap x30) 128)).bind fun z51 => (room (x34.length + 1)).bind fun _ => rec4 (zch .i64 x30 7) (x34 ++ [z51]) else (u8o (zeK .u8 (IntKind.u8.wrap x30) 127)).bind fun z57 => (room (x34.length + 1)).bind fun _ => some (x34 ++ [z57]))
def zev  : Nat → Int → (List UInt8) → Option (List UInt8)
 | 0, _, _ => none
 | n + 1, x30, x34 => zfi (zev  n)  x30 x34
def zeT (p0 : (List UInt8)) (p1 : Int) : Option (List UInt8) :=
 (zem p0).bind fun c3 => zev  big p1 c3
def zgA (rec4 : (List UInt8) → Int → Option ((List UInt8) × Int)) (p1 : (List zd)) (x53 : List UInt8) (x55 : Int) : Option ((List UInt8) × Int) :=
 (if (decide (x55 < (p1.length : Int))) = true then (zn p1 x55).bind fun y86 => (room (x53.length + 1)).bind fun _ => (zeo (y86.Kind.toNat : Int)).bind fun c97 => (if c97 = true then (zeT (x53 ++ [y86.Kind]) y86.N).bind fun c104 => rec4 c104 (IntKind.i64.wrap (x55 + 1)) else rec4 (x53 ++ [y86.Kind]) (IntKind.i64.wrap (x55 + 1))) else some (x53, 0))
def zfg (p1 : (List zd)) : Nat → (List UInt8) → Int → Option ((List UInt8) × Int)
 | 0, _, _ => none
 | n + 1, x53, x55 => zgA (zfg p1 n) p1 x53 x55
def zfu (p0 : (List UInt8)) (p1 : (List zd)) : Option ((List UInt8) × Int) :=
 (zea p1).bind fun c3 => (if (!c3) = true then some ([], 1) else (zcP p0 (IntKind.u64.wrap (p1.length : Int))).bind fun c8 => zfg p1 big c8 0)
def zfr (rec4 : (List UInt8) → Int → Int → Option ((List UInt8) × Int)) (p1 : (List za)) (x69 : List UInt8) (x71 : Int) (x72 : Int) : Option ((List UInt8) × Int) :=
 (if (decide (x72 < (p1.length : Int))) = true then (zn p1 x72).bind fun y119 => (zcP x69 (IntKind.u64.wrap (IntKind.i64.wrap (y119.From - x71)))).bind fun c131 => (zcP c131 (IntKind.u64.wrap (IntKind.i64.wrap (y119.To - y119.From)))).bind fun c142 => (zfu c142 y119.At).bind fun c153 => rec4 c153.1 y119.To (IntKind.i64.wrap (x72 + 1)) else some (x69, 0))
def ze6 (p1 : (List za)) : Nat → (List UInt8) → Int → Int → Option ((List UInt8) × Int)
 | 0, _, _, _ => none
 | n + 1, x69, x71, x72 => zfr (ze6 p1 n) p1 x69 x71 x72
def zf6 (p0 : (List UInt8)) (p1 : (List za)) : Option ((List UInt8) × Int) :=
 (zdz p1).bind fun c3 => (if (!c3) = true then some ([], 1) else (zcP p0 (IntKind.u64.wrap (p1.length : Int))).bind fun c8 => ze6 p1 big c8 0 0)
def zdo (rec4 : Int → Option Bool) (p0 : (List zd)) (p1 : (List zd)) (x16 : Int) : Option Bool :=
 (if (decide (x16 < (p0.length : Int))) = true then (zn p0 x16).bind fun y31 => (zn p1 x16).bind fun y36 => (if (!(( (y31.Kind.toNat : Int) == (y36.Kind.toNat : Int)) && (( y31.N == y36.N) && true))) = true then some false else rec4 (IntKind.i64.wrap (x16 + 1))) else some true)
def zdP (p0 : (List zd)) (p1 : (List zd)) : Nat → Int → Option Bool
 | 0, _ => none
 | n + 1, x16 => zdo (zdP p0 p1 n) p0 p1 x16
def zcI (p0 : (List zd)) (p1 : (List zd)) : Option Bool :=
 (if ((p0.length : Int) != (p1.length : Int)) = true then some false else zdP p0 p1 big 0)
def zdR (rec4 : Int → Option Bool) (p0 : (List za)) (p1 : (List za)) (x70 : Int) : Option Bool :=
 (if (decide (x70 < (p0.length : Int))) = true then (zn p0 x70).bind fun y139 => (zn p1 x70).bind fun y148 => ((if (y139.From != y148.From) = true then some true else (zn p0 x70).bind fun y160 => (zn p1 x70).bind fun y169 => some (y160.To != y169.To))).bind fun c157 => ((if c157 = true then some true else (zn p0 x70).bind fun y181 => (zn p1 x70).bind fun y190 => (zcI y181.At y190.At).bind fun c199 => some (!c199))).bind fun c178 => (if c178 = true then some false else rec4 (IntKind.i64.wrap (x70 + 1))) else some true)
def zdC (p0 : (List za)) (p1 : (List za)) : Nat → Int → Option Bool
 | 0, _ => none
 | n + 1, x70 => zdR (zdC p0 p1 n) p0 p1 x70
def zbI (p0 : (List za)) (p1 : (List za)) : Option Bool :=
 (if ((p0.length : Int) != (p1.length : Int)) = true then some false else zdC p0 p1 big 0)
def zfj (rec4 : Int → Int → Option (Int × Int)) (p0 : (List UInt8)) (x16 : Int) (x17 : Int) : Option (Int × Int) :=
 (if (decide (x17 < (zW (p0.length : Int) 10))) = true then (zn p0 x17).bind fun y34 => (zeO .u64 (IntKind.u64.wrap (zeK .u8 (y34.toNat : Int) 127)) (IntKind.i64.wrap (7 * x17))).bind fun y39 => (zn p0 x17).bind fun y41 => (if (decide ((y41.toNat : Int) < 128)) = true then some ((orI .u64 x16 y39), (IntKind.i64.wrap (x17 + 1))) else rec4 (orI .u64 x16 y39) (IntKind.i64.wrap (x17 + 1))) else some (0, 0))
def zeL (p0 : (List UInt8)) : Nat → Int → Int → Option (Int × Int)
 | 0, _, _ => none
 | n + 1, x16, x17 => zfj (zeL p0 n) p0 x16 x17
def zeD (p0 : (List UInt8)) : Option (Int × Int) :=
 zeL p0 big 0 0
def zgH (rec4 : Int → Option Bool) (p0 : (List UInt8)) (p1 : (List UInt8)) (x16 : Int) : Option Bool :=
 (if (decide (x16 < (p0.length : Int))) = true then (zn p0 x16).bind fun y31 => (zn p1 x16).bind fun y36 => (if ((y31.toNat : Int) != (y36.toNat : Int)) = true then some false else rec4 (IntKind.i64.wrap (x16 + 1))) else some true)
def zeu (p0 : (List UInt8)) (p1 : (List UInt8)) : Nat → Int → Option Bool
 | 0, _ => none
 | n + 1, x16 => zgH (zeu p0 p1 n) p0 p1 x16
def zeh (p0 : (List UInt8)) (p1 : (List UInt8)) : Option Bool :=
 (if ((p0.length : Int) != (p1.length : Int)) = true then some false else zeu p0 p1 big 0)
def zf7 (p0 : Int) (p1 : Int) : Option Int :=
 some p0
def zgD (p0 : (List UInt8)) (p1 : Int) : Option (Int × Int × Int) :=
 (if ((decide (p1 < 0)) || (decide (p1 > (p0.length : Int)))) = true then some (0, 0, 1) else (zcK p0 p1 (p0.length : Int)).bind fun y6 => (zeD y6).bind fun c11 => (zf7 c11.1 c11.2).bind fun c15 => ((if (c11.2 == 0) = true then some true else (zcK p0 p1 (IntKind.i64.wrap (p1 + c11.2))).bind fun y22 => (zcP [] c15).bind fun c27 => (zeh c27 y22).bind fun c38 => some (!c38))).bind fun c19 => (if c19 = true then some (0, 0, 5) else some (c15, (IntKind.i64.wrap (p1 + c11.2)), 0)))
def zcW (p0 : (List UInt8)) (p1 : Int) : Option (Int × Int × Int) :=
 (zgD p0 p1).bind fun c3 => some (c3.1, c3.2.1, c3.2.2)
def zf3 (p0 : Int) (p1 : Int) : Option Int :=
 (zeO .u64 p0 (zS 0 (IntKind.i64.wrap (64 - (IntKind.i64.wrap (7 * p1)))))).bind fun y3 => (zgv .i64 (IntKind.i64.wrap y3) (zS 0 (IntKind.i64.wrap (64 - (IntKind.i64.wrap (7 * p1)))))).bind fun y5 => some y5
def zf1 (p0 : (List UInt8)) (p1 : Int) : Option (Int × Int × Int) :=
 (if ((decide (p1 < 0)) || (decide (p1 > (p0.length : Int)))) = true then some (0, 0, 1) else (zcK p0 p1 (p0.length : Int)).bind fun y6 => (zeD y6).bind fun c11 => (zf3 c11.1 c11.2).bind fun c15 => ((if (c11.2 == 0) = true then some true else (zcK p0 p1 (IntKind.i64.wrap (p1 + c11.2))).bind fun y22 => (zeT [] c15).bind fun c27 => (zeh c27 y22).bind fun c38 => some (!c38))).bind fun c19 => (if c19 = true then some (0, 0, 5) else some (c15, (IntKind.i64.wrap (p1 + c11.2)), 0)))
def zgF (p0 : (List UInt8)) (p1 : Int) : Option (Int × Int × Int) :=
 (zf1 p0 p1).bind fun c3 => some (c3.1, c3.2.1, c3.2.2)
def zfT (rec4 : (List zd) → Int → Int → Option ((List zd) × Int × Int)) (p0 : (List UInt8)) (c4 : Int × Int × Int) (x47 : List zd) (x49 : Int) (x50 : Int) : Option ((List zd) × Int × Int) :=
 (if (decide (x50 < c4.1)) = true then (if (decide (x49 ≥ (p0.length : Int))) = true then some ([], 0, 5) else (zn p0 x49).bind fun y89 => (zeo (y89.toNat : Int)).bind fun c95 => (if c95 = true then (zgF p0 (IntKind.i64.wrap (x49 + 1))).bind fun c100 => (if (c100.2.2 != 0) = true then some ([], 0, 5) else (room (x47.length + 1)).bind fun _ => rec4 (x47 ++ [(⟨y89, c100.1⟩ : zd)]) c100.2.1 (IntKind.u64.wrap (x50 + 1))) else (room (x47.length + 1)).bind fun _ => rec4 (x47 ++ [(⟨y89, 0⟩ : zd)]) (IntKind.i64.wrap (x49 + 1)) (IntKind.u64.wrap (x50 + 1)))) else (zea x47).bind fun c117 => (if (!c117) = true then some ([], 0, 5) else some (x47, x49, 0)))
def zel (p0 : (List UInt8)) (c4 : Int × Int × Int) : Nat → (List zd) → Int → Int → Option ((List zd) × Int × Int)
 | 0, _, _, _ => none
 | n + 1, x47, x49, x50 => zfT (zel p0 c4 n) p0 c4 x47 x49 x50
def zfL (p0 : (List UInt8)) (p1 : Int) : Option ((List zd) × Int × Int) :=
 (if ((decide (p1 < 0)) || (decide (p1 > (p0.length : Int)))) = true then some ([], 0, 1) else (zcW p0 p1).bind fun c4 => (if ((c4.2.2 != 0) || (decide (c4.1 > 16))) = true then some ([], 0, 5) else zel p0 c4 big ([]) c4.2.1 0))
def zgu (p0 : (List UInt8)) (p1 : Int) (p2 : Int) : Option (za × Int × Bool) :=
 (zcW p0 p1).bind fun c5 => (if ((c5.2.2 != 0) || (decide (c5.1 > 16777216))) = true then some ((⟨0, 0, []⟩ : za), 0, false) else (zcW p0 c5.2.1).bind fun c10 => (if ((c10.2.2 != 0) || (decide (c10.1 > 16777216))) = true then some ((⟨0, 0, []⟩ : za), 0, false) else (zfL p0 c10.2.1).bind fun c15 => some ((⟨(IntKind.i64.wrap (p2 + (IntKind.i64.wrap c5.1))), (IntKind.i64.wrap ((IntKind.i64.wrap (p2 + (IntKind.i64.wrap c5.1))) + (IntKind.i64.wrap c10.1))), c15.1⟩ : za), c15.2.1, ((c15.2.2 == 0) && (decide ((IntKind.i64.wrap ((IntKind.i64.wrap (p2 + (IntKind.i64.wrap c5.1))) + (IntKind.i64.wrap c10.1))) ≤ 16777216))))))
def zfZ (rec4 : (List za) → Int → Int → Int → Option ((List za) × Int × Int)) (p0 : (List UInt8)) (c4 : Int × Int × Int) (x40 : List za) (x42 : Int) (x43 : Int) (x44 : Int) : Option ((List za) × Int × Int) :=
 (if (decide (x44 < c4.1)) = true then (zgu p0 x42 x43).bind fun c76 => (if (!c76.2.2) = true then some ([], 0, 5) else (room (x40.length + ([(⟨c76.1.From, c76.1.To, c76.1.At⟩ : za)] : List za).length)).bind fun _ => rec4 (x40 ++ ([(⟨c76.1.From, c76.1.To, c76.1.At⟩ : za)] : List za)) c76.2.1 c76.1.To (IntKind.u64.wrap (x44 + 1))) else (zdz x40).bind fun c99 => (if (!c99) = true then some ([], 0, 5) else some (x40, x42, 0)))
def zeI (p0 : (List UInt8)) (c4 : Int × Int × Int) : Nat → (List za) → Int → Int → Int → Option ((List za) × Int × Int)
 | 0, _, _, _, _ => none
 | n + 1, x40, x42, x43, x44 => zfZ (zeI p0 c4 n) p0 c4 x40 x42 x43 x44
def zfM (p0 : (List UInt8)) (p1 : Int) : Option ((List za) × Int × Int) :=
 (if ((decide (p1 < 0)) || (decide (p1 > (p0.length : Int)))) = true then some ([], 0, 1) else (zcW p0 p1).bind fun c4 => (if ((c4.2.2 != 0) || (decide (c4.1 > 4000))) = true then some ([], 0, 5) else zeI p0 c4 big ([]) c4.2.1 0 0))
def zcy (p0 : (List zd)) : Option (List zd) := (room p0.length).bind fun _ => some p0
def zd2 (rec4 : Int → Option (List zd)) (p0 : (List za)) (p1 : Int) (x24 : Int) : Option (List zd) :=
 (if (decide (x24 < (p0.length : Int))) = true then (zn p0 x24).bind fun y48 => (if ((decide (y48.From ≤ p1)) && (decide (p1 < y48.To))) = true then (zcy y48.At).bind fun c59 => some c59 else rec4 (IntKind.i64.wrap (x24 + 1))) else some ([]))
def zdT (p0 : (List za)) (p1 : Int) : Nat → Int → Option (List zd)
 | 0, _ => none
 | n + 1, x24 => zd2 (zdT p0 p1 n) p0 p1 x24
def zdA (p0 : (List za)) (p1 : Int) : Option (List zd) :=
 zdT p0 p1 big 0
def zcD (p0 : za) : Option za :=
 (zcy p0.At).bind fun c4 => some (⟨p0.From, p0.To, c4⟩ : za)
def zcw (p0 : za) (qf0 : (List za)) : Option (Bool × (List za)) :=
 (zcD (⟨p0.From, p0.To, p0.At⟩ : za)).bind fun c3 => (room (qf0.length + ([(⟨c3.From, c3.To, c3.At⟩ : za)] : List za).length)).bind fun _ => some (true, (qf0 ++ ([(⟨c3.From, c3.To, c3.At⟩ : za)] : List za)))
def zeW (rec9 : (List za) → Int → Option (List za)) (qf1 : Int) (qf2 : Int) (x72 : Int) (y135 : za) (x151 : List za) : Option (List za) :=
 (if (decide (y135.From < (zW y135.To qf1))) = true then (zcw (⟨y135.From, (zW y135.To qf1), y135.At⟩ : za) x151).bind fun c159 => (if (!c159.1) = true then some c159.2 else (if (decide ((zS y135.From qf2) < y135.To)) = true then (zcw (⟨(zS y135.From qf2), y135.To, y135.At⟩ : za) c159.2).bind fun c170 => (if (!c170.1) = true then some c170.2 else rec9 c170.2 (IntKind.i64.wrap (x72 + 1))) else rec9 c159.2 (IntKind.i64.wrap (x72 + 1)))) else (if false = true then some x151 else (if (decide ((zS y135.From qf2) < y135.To)) = true then (zcw (⟨(zS y135.From qf2), y135.To, y135.At⟩ : za) x151).bind fun c182 => (if (!c182.1) = true then some c182.2 else rec9 c182.2 (IntKind.i64.wrap (x72 + 1))) else rec9 x151 (IntKind.i64.wrap (x72 + 1)))))
def zc9 (rec9 : (List za) → Int → Option (List za)) (qf0 : (List za)) (qf1 : Int) (qf2 : Int) (x70 : List za) (x72 : Int) : Option (List za) :=
 (if (decide (x72 < (qf0.length : Int))) = true then (zn qf0 x72).bind fun y135 => (if (decide (y135.From ≥ y135.To)) = true then rec9 x70 (IntKind.i64.wrap (x72 + 1)) else zeW rec9 qf1 qf2 x72 y135 x70) else some x70)
def zca (qf0 : (List za)) (qf1 : Int) (qf2 : Int) : Nat → (List za) → Int → Option (List za)
 | 0, _, _ => none
 | n + 1, x70, x72 => zc9 (zca qf0 qf1 qf2 n) qf0 qf1 qf2 x70 x72
def zeS (q0_0 : (List za)) (qf0 : (List za)) (qf1 : Int) (qf2 : Int) : Option (List za) :=
 zca qf0 qf1 qf2 big q0_0 0
def zc8 (rec4 : (List za) → Int → Option (List za)) (p0 : (List za)) (x40 : List za) (x43 : Int) : Option (List za) :=
 (if (decide (x43 < (p0.length : Int))) = true then (zn p0 x43).bind fun y75 => (zcD (⟨y75.From, y75.To, y75.At⟩ : za)).bind fun c85 => (room (x40.length + ([(⟨c85.From, c85.To, c85.At⟩ : za)] : List za).length)).bind fun _ => rec4 (x40 ++ ([(⟨c85.From, c85.To, c85.At⟩ : za)] : List za)) (IntKind.i64.wrap (x43 + 1)) else some x40)
def zcG (p0 : (List za)) : Nat → (List za) → Int → Option (List za)
 | 0, _, _ => none
 | n + 1, x40, x43 => zc8 (zcG p0 n) p0 x40 x43
def zcO (p0 : (List za)) (p1 : Int) (p2 : Int) : Option (List za) :=
 (if (decide (p1 ≥ p2)) = true then zcG p0 big ([]) 0 else zeS ([]) p0 p1 p2)
def zdr (rec4 : Int → Option Bool) (p0 : (List zd)) (p1 : (List zd)) (x16 : Int) : Option Bool :=
 (if (decide (x16 < (p0.length : Int))) = true then (zn p0 x16).bind fun y31 => (zn p1 x16).bind fun y36 => (if (!(( (y31.Kind.toNat : Int) == (y36.Kind.toNat : Int)) && (( y31.N == y36.N) && true))) = true then some false else rec4 (IntKind.i64.wrap (x16 + 1))) else some true)
def zdU (p0 : (List zd)) (p1 : (List zd)) : Nat → Int → Option Bool
 | 0, _ => none
 | n + 1, x16 => zdr (zdU p0 p1 n) p0 p1 x16
def zcZ (p0 : (List zd)) (p1 : (List zd)) : Option Bool :=
 (if ((p0.length : Int) != (p1.length : Int)) = true then some false else zdU p0 p1 big 0)
def zcX (rec4 : (List za) → Int → Option (List za)) (p0 : (List za)) (x114 : List za) (x117 : Int) : Option (List za) :=
 (if (decide (x117 < (p0.length : Int))) = true then (zn p0 x117).bind fun y190 => ((if (decide ((IntKind.i64.wrap ((x114.length : Int) - 1)) ≥ 0)) = true then (zn x114 (IntKind.i64.wrap ((x114.length : Int) - 1))).bind fun y203 => some (y203.To == y190.From) else some false)).bind fun c200 => ((if c200 = true then (zn x114 (IntKind.i64.wrap ((x114.length : Int) - 1))).bind fun y217 => (zcZ y217.At y190.At).bind fun c228 => some c228 else some false)).bind fun c214 => (if c214 = true then (zn x114 (IntKind.i64.wrap ((x114.length : Int) - 1))).bind fun y233 => rec4 (x114.set (Int.toNat (IntKind.i64.wrap ((x114.length : Int) - 1))) (⟨y233.From, y190.To, y233.At⟩ : za)) (IntKind.i64.wrap (x117 + 1)) else (zcD (⟨y190.From, y190.To, y190.At⟩ : za)).bind fun c246 => (room (x114.length + 1)).bind fun _ => rec4 (x114 ++ [(⟨c246.From, c246.To, c246.At⟩ : za)]) (IntKind.i64.wrap (x117 + 1))) else some x114)
def zb3 (p0 : (List za)) : Nat → (List za) → Int → Option (List za)
 | 0, _, _ => none
 | n + 1, x114, x117 => zcX (zb3 p0 n) p0 x114 x117
def zc4 (p0 : (List za)) : Option (List za) :=
 zb3 p0 big ([]) 0
def zdw  : Option Bool :=
 (zf6 [] ([(⟨3, 5, ([(⟨(2 : UInt8), 2⟩ : zd)] : List zd)⟩ : za), (⟨5, 9, ([(⟨(1 : UInt8), 7⟩ : zd)] : List zd)⟩ : za)] : List za)).bind fun c19 => (zfM c19.1 0).bind fun c30 => (zdA ([(⟨3, 5, ([(⟨(2 : UInt8), 2⟩ : zd)] : List zd)⟩ : za), (⟨5, 9, ([(⟨(1 : UInt8), 7⟩ : zd)] : List zd)⟩ : za)] : List za) 4).bind fun c38 => (zcO ([(⟨3, 5, ([(⟨(2 : UInt8), 2⟩ : zd)] : List zd)⟩ : za), (⟨5, 9, ([(⟨(1 : UInt8), 7⟩ : zd)] : List zd)⟩ : za)] : List za) 4 6).bind fun c47 => ((if ((((c19.2 == 0) && ((c19.1.length : Int) == 11)) && (c30.2.2 == 0)) && (c30.2.1 == 11)) = true then (zbI ([(⟨3, 5, ([(⟨(2 : UInt8), 2⟩ : zd)] : List zd)⟩ : za), (⟨5, 9, ([(⟨(1 : UInt8), 7⟩ : zd)] : List zd)⟩ : za)] : List za) c30.1).bind fun c59 => some c59 else some false)).bind fun c56 => ((if (c56 && ((c38.length : Int) == 1)) = true then (zn c38 0).bind fun y66 => some (y66.N == 2) else some false)).bind fun c63 => ((if (c63 && ((c47.length : Int) == 2)) = true then (zn c47 0).bind fun y76 => some (y76.To == 4) else some false)).bind fun c73 => ((if c73 = true then (zn c47 1).bind fun y90 => some (y90.From == 6) else some false)).bind fun c87 => ((if c87 = true then (zdz []).bind fun c104 => some c104 else some false)).bind fun c101 => ((if c101 = true then (zc4 ([(⟨3, 5, ([(⟨(2 : UInt8), 2⟩ : zd)] : List zd)⟩ : za), (⟨5, 9, ([(⟨(1 : UInt8), 7⟩ : zd)] : List zd)⟩ : za)] : List za)).bind fun c111 => some ((c111.length : Int) == 2) else some false)).bind fun c108 => some c108
def zcr (p0 : (List zd)) : Option (List zd) :=
 (room (([] : List zd).length + p0.length)).bind fun _ => some (([] : List zd) ++ p0)
def zd0 (rec4 : (List za) → Int → Option (List za)) (p0 : (List za)) (x50 : List za) (x52 : Int) : Option (List za) :=
 (if (decide (x52 < (p0.length : Int))) = true then (zn p0 x52).bind fun y99 => (zn p0 x52).bind fun y108 => (zn p0 x52).bind fun y117 => (zcr y117.At).bind fun c126 => (room (x50.length + 1)).bind fun _ => rec4 (x50 ++ [(⟨y99.From, y108.To, c126⟩ : za)]) (IntKind.i64.wrap (x52 + 1)) else some x50)
def zdu (p0 : (List za)) : Nat → (List za) → Int → Option (List za)
 | 0, _, _ => none
 | n + 1, x50, x52 => zd0 (zdu p0 n) p0 x50 x52
def zdH (p0 : (List za)) : Option (List za) :=
 zdu p0 big ([]) 0
def zdQ (rec4 : Int → Option (List zd)) (p0 : (List za)) (p1 : Int) (x44 : Int) : Option (List zd) :=
 (if (decide (x44 < (p0.length : Int))) = true then (zn p0 x44).bind fun y88 => ((if (decide (y88.From ≤ p1)) = true then (zn p0 x44).bind fun y100 => some (decide (p1 < y100.To)) else some false)).bind fun c97 => (if c97 = true then (zn p0 x44).bind fun y110 => (zcr y110.At).bind fun c119 => some c119 else rec4 (IntKind.i64.wrap (x44 + 1))) else some ([]))
def zdD (p0 : (List za)) (p1 : Int) : Nat → Int → Option (List zd)
 | 0, _ => none
 | n + 1, x44 => zdQ (zdD p0 p1 n) p0 p1 x44
def zek (p0 : (List za)) (p1 : Int) : Option (List zd) :=
 zdD p0 p1 big 0
def zde (rec9 : (List za) → Int → Option (List za)) (p2 : Int) (x65 : Int) (y114 : za) (x133 : List za) : Option (List za) :=
 (if ((decide (y114.From < y114.To)) && (decide (y114.To > p2))) = true then (room (x133.length + 1)).bind fun _ => rec9 (x133 ++ [(⟨(zS y114.From p2), y114.To, y114.At⟩ : za)]) (IntKind.i64.wrap (x65 + 1)) else rec9 x133 (IntKind.i64.wrap (x65 + 1)))
def zdM (rec9 : (List za) → Int → Option (List za)) (p0 : (List za)) (p1 : Int) (p2 : Int) (x63 : List za) (x65 : Int) : Option (List za) :=
 (if (decide (x65 < (p0.length : Int))) = true then (zn p0 x65).bind fun y114 => (if ((decide (y114.From < y114.To)) && (decide (y114.From < p1))) = true then (room (x63.length + 1)).bind fun _ => zde rec9 p2 x65 y114 (x63 ++ [(⟨y114.From, (zW y114.To p1), y114.At⟩ : za)]) else zde rec9 p2 x65 y114 x63) else (zdH x63).bind fun c150 => some c150)
def zcQ (p0 : (List za)) (p1 : Int) (p2 : Int) : Nat → (List za) → Int → Option (List za)
 | 0, _, _ => none
 | n + 1, x63, x65 => zdM (zcQ p0 p1 p2 n) p0 p1 p2 x63 x65
def zeb (p0 : (List za)) (p1 : Int) (p2 : Int) : Option (List za) :=
 (if (decide (p1 ≥ p2)) = true then (zdH p0).bind fun c5 => some c5 else zcQ p0 p1 p2 big ([]) 0)
def zdm (rec4 : (List za) → Int → Option (List za)) (p0 : (List za)) (x48 : List za) (x50 : Int) : Option (List za) :=
 (if (decide (x50 < (p0.length : Int))) = true then (zn p0 x50).bind fun y95 => (zn p0 x50).bind fun y104 => (zn p0 x50).bind fun y113 => (zcr y95.At).bind fun c122 => (room (x48.length + 1)).bind fun _ => rec4 (x48 ++ [(⟨y95.From, y95.To, c122⟩ : za)]) (IntKind.i64.wrap (x50 + 1)) else some x48)
def zdk (p0 : (List za)) : Nat → (List za) → Int → Option (List za)
 | 0, _, _ => none
 | n + 1, x48, x50 => zdm (zdk p0 n) p0 x48 x50
def ze9 (p0 : (List za)) : Option (List za) :=
 zdk p0 big ([]) 0
def zdV (p0 : za) : Option za :=
 (zcy p0.At).bind fun c4 => some (⟨p0.From, p0.To, c4⟩ : za)
def zd9 (p0 : za) (qf0 : (List za)) : Option (Bool × (List za)) :=
 (zdV (⟨p0.From, p0.To, p0.At⟩ : za)).bind fun c3 => (room (qf0.length + ([(⟨c3.From, c3.To, c3.At⟩ : za)] : List za).length)).bind fun _ => some (true, (qf0 ++ [(⟨c3.From, c3.To, c3.At⟩ : za)]))
def zfm (rec9 : (List za) → Int → Option (List za)) (qf1 : Int) (qf2 : Int) (x72 : Int) (y135 : za) (x151 : List za) : Option (List za) :=
 (if (decide (y135.From < (zW y135.To qf1))) = true then (zd9 (⟨y135.From, (zW y135.To qf1), y135.At⟩ : za) x151).bind fun c159 => (if (!c159.1) = true then some c159.2 else (if (decide ((zS y135.From qf2) < y135.To)) = true then (zd9 (⟨(zS y135.From qf2), y135.To, y135.At⟩ : za) c159.2).bind fun c170 => (if (!c170.1) = true then some c170.2 else rec9 c170.2 (IntKind.i64.wrap (x72 + 1))) else rec9 c159.2 (IntKind.i64.wrap (x72 + 1)))) else (if false = true then some x151 else (if (decide ((zS y135.From qf2) < y135.To)) = true then (zd9 (⟨(zS y135.From qf2), y135.To, y135.At⟩ : za) x151).bind fun c182 => (if (!c182.1) = true then some c182.2 else rec9 c182.2 (IntKind.i64.wrap (x72 + 1))) else rec9 x151 (IntKind.i64.wrap (x72 + 1)))))
def zff (rec9 : (List za) → Int → Option (List za)) (qf0 : (List za)) (qf1 : Int) (qf2 : Int) (x70 : List za) (x72 : Int) : Option (List za) :=
 (if (decide (x72 < (qf0.length : Int))) = true then (zn qf0 x72).bind fun y135 => (if (decide (y135.From ≥ y135.To)) = true then rec9 x70 (IntKind.i64.wrap (x72 + 1)) else zfm rec9 qf1 qf2 x72 y135 x70) else some x70)
def zcz (qf0 : (List za)) (qf1 : Int) (qf2 : Int) : Nat → (List za) → Int → Option (List za)
 | 0, _, _ => none
 | n + 1, x70, x72 => zff (zcz qf0 qf1 qf2 n) qf0 qf1 qf2 x70 x72
def zer (q0_0 : (List za)) (qf0 : (List za)) (qf1 : Int) (qf2 : Int) : Option (List za) :=
 zcz qf0 qf1 qf2 big q0_0 0
def zeP (rec4 : (List za) → Int → Option (List za)) (p0 : (List za)) (x40 : List za) (x43 : Int) : Option (List za) :=
 (if (decide (x43 < (p0.length : Int))) = true then (zn p0 x43).bind fun y75 => (zdV (⟨y75.From, y75.To, y75.At⟩ : za)).bind fun c85 => (room (x40.length + ([(⟨c85.From, c85.To, c85.At⟩ : za)] : List za).length)).bind fun _ => rec4 (x40 ++ ([(⟨c85.From, c85.To, c85.At⟩ : za)] : List za)) (IntKind.i64.wrap (x43 + 1)) else some x40)
def zc0 (p0 : (List za)) : Nat → (List za) → Int → Option (List za)
 | 0, _, _ => none
 | n + 1, x40, x43 => zeP (zc0 p0 n) p0 x40 x43
def zdF (p0 : (List za)) (p1 : Int) (p2 : Int) : Option (List za) :=
 (if (decide (p1 ≥ p2)) = true then zc0 p0 big ([]) 0 else zer ([]) p0 p1 p2)
def zew (rec4 : (List za) → Int → Option (List za)) (p0 : (List za)) (x135 : List za) (x138 : Int) : Option (List za) :=
 (if (decide (x138 < (p0.length : Int))) = true then (zn p0 x138).bind fun y231 => ((if (decide ((IntKind.i64.wrap ((x135.length : Int) - 1)) ≥ 0)) = true then (zn x135 (IntKind.i64.wrap ((x135.length : Int) - 1))).bind fun y244 => some (y244.To == y231.From) else some false)).bind fun c241 => ((if c241 = true then (zn x135 (IntKind.i64.wrap ((x135.length : Int) - 1))).bind fun y256 => (zcZ y256.At y231.At).bind fun c277 => some c277 else some false)).bind fun c253 => (if c253 = true then (zn x135 (IntKind.i64.wrap ((x135.length : Int) - 1))).bind fun y282 => rec4 (x135.set (Int.toNat (IntKind.i64.wrap ((x135.length : Int) - 1))) (⟨y282.From, y231.To, y282.At⟩ : za)) (IntKind.i64.wrap (x138 + 1)) else (zdV (⟨y231.From, y231.To, y231.At⟩ : za)).bind fun c306 => (room (x135.length + 1)).bind fun _ => rec4 (x135 ++ [(⟨c306.From, c306.To, c306.At⟩ : za)]) (IntKind.i64.wrap (x138 + 1))) else some x135)
def zdg (p0 : (List za)) : Nat → (List za) → Int → Option (List za)
 | 0, _, _ => none
 | n + 1, x135, x138 => zew (zdg p0 n) p0 x135 x138
def zdx (p0 : (List za)) : Option (List za) :=
 zdg p0 big ([]) 0
def zd4 (rec4 : (List za) → Int → Option (List za)) (p0 : (List za)) (x205 : List za) (x208 : Int) : Option (List za) :=
 (if (decide (x208 < (p0.length : Int))) = true then ((if (decide ((IntKind.i64.wrap ((x205.length : Int) - 1)) ≥ 0)) = true then (zn x205 (IntKind.i64.wrap ((x205.length : Int) - 1))).bind fun y348 => (zn p0 x208).bind fun y357 => some (y348.To == y357.From) else some false)).bind fun c345 => ((if c345 = true then (zn x205 (IntKind.i64.wrap ((x205.length : Int) - 1))).bind fun y369 => (zn p0 x208).bind fun y390 => (zcI y369.At y390.At).bind fun c399 => some c399 else some false)).bind fun c366 => (if c366 = true then (zn p0 x208).bind fun y404 => (zn x205 (IntKind.i64.wrap ((x205.length : Int) - 1))).bind fun y413 => rec4 (x205.set (Int.toNat (IntKind.i64.wrap ((x205.length : Int) - 1))) (⟨y413.From, y404.To, y413.At⟩ : za)) (IntKind.i64.wrap (x208 + 1)) else (zn p0 x208).bind fun y437 => (zn p0 x208).bind fun y446 => (zn p0 x208).bind fun y455 => (zcr y437.At).bind fun c464 => (room (x205.length + 1)).bind fun _ => rec4 (x205 ++ [(⟨y437.From, y437.To, c464⟩ : za)]) (IntKind.i64.wrap (x208 + 1))) else some x205)
def zcA (p0 : (List za)) : Nat → (List za) → Int → Option (List za)
 | 0, _, _ => none
 | n + 1, x205, x208 => zd4 (zcA p0 n) p0 x205 x208
def ze5 (p0 : (List za)) : Option (List za) :=
 zcA p0 big ([]) 0
def zdy (rec188 : (List za) → (List za) → Int → Option Bool) (rec186 : (List za) → (List za) → Int → Option Bool) (x6228 : Int) (x7184 : List za) (x7190 : List za) (x7192 : Int) : Option Bool :=
 (zn x7184 x6228).bind fun y7243 => (if (decide (x7192 < (y7243.At.length : Int))) = true then (zn x7184 x6228).bind fun y7253 => (zn y7253.At x7192).bind fun y7274 => (zn y7253.At x7192).bind fun y7281 => rec188 (x7184.set (Int.toNat x6228) (⟨y7253.From, y7253.To, (y7253.At.set (Int.toNat x7192) (⟨y7274.Kind, (IntKind.i64.wrap (y7274.N + 1))⟩ : zd))⟩ : za)) x7190 (IntKind.i64.wrap (x7192 + 1)) else rec186 x7184 x7190 (IntKind.i64.wrap (x6228 + 1)))
def zdO (rec186 : (List za) → (List za) → Int → Option Bool) (x6228 : Int) : Nat → (List za) → (List za) → Int → Option Bool
 | 0, _, _, _ => none
 | n + 1, x7184, x7190, x7192 => zdy (zdO rec186 x6228 n) rec186 x6228 x7184 x7190 x7192
def zdj (rec196 : (List za) → Int → Option Bool) (rec194 : (List za) → Int → Option Bool) (x7514 : Int) (x7822 : List za) (x7825 : Int) : Option Bool :=
 (zn x7822 x7514).bind fun y7876 => (if (decide (x7825 < (y7876.At.length : Int))) = true then (zn x7822 x7514).bind fun y7886 => (zn y7886.At x7825).bind fun y7907 => (zn y7886.At x7825).bind fun y7914 => rec196 (x7822.set (Int.toNat x7514) (⟨y7886.From, y7886.To, (y7886.At.set (Int.toNat x7825) (⟨y7907.Kind, (IntKind.i64.wrap (y7907.N + 1))⟩ : zd))⟩ : za)) (IntKind.i64.wrap (x7825 + 1)) else rec194 x7822 (IntKind.i64.wrap (x7514 + 1)))
def zdh (rec194 : (List za) → Int → Option Bool) (x7514 : Int) : Nat → (List za) → Int → Option Bool
 | 0, _, _ => none
 | n + 1, x7822, x7825 => zdj (zdh rec194 x7514 n) rec194 x7514 x7822 x7825
def zd1 (rec194 : (List za) → Int → Option Bool) (p0 : (List za)) (c14 : (List za)) (x7512 : List za) (x7514 : Int) : Option Bool :=
 (if (decide (x7514 < (x7512.length : Int))) = true then (zn x7512 x7514).bind fun y7727 => (zn x7512 x7514).bind fun y7736 => zdh rec194 x7514 big (x7512.set (Int.toNat x7514) (⟨(IntKind.i64.wrap (y7727.From + 1)), y7736.To, y7736.At⟩ : za)) 0 else (zbI c14 p0).bind fun c7925 => ((if c7925 = true then (zdw ).bind fun c7932 => some c7932 else some false)).bind fun c7929 => some c7929)
def zb2 (p0 : (List za)) (c14 : (List za)) : Nat → (List za) → Int → Option Bool
 | 0, _, _ => none
 | n + 1, x7512, x7514 => zd1 (zb2 p0 c14 n) p0 c14 x7512 x7514
def zdE (rec186 : (List za) → (List za) → Int → Option Bool) (p0 : (List za)) (c14 : (List za)) (x6221 : List za) (x6226 : List za) (x6228 : Int) : Option Bool :=
 (if (decide (x6228 < (x6221.length : Int))) = true then (zn x6221 x6228).bind fun y7084 => (zn x6221 x6228).bind fun y7093 => zdO rec186 x6228 big (x6221.set (Int.toNat x6228) (⟨(IntKind.i64.wrap (y7084.From + 1)), y7093.To, y7093.At⟩ : za)) x6226 0 else zb2 p0 c14 big x6226 0)
def zb8 (p0 : (List za)) (c14 : (List za)) : Nat → (List za) → (List za) → Int → Option Bool
 | 0, _, _, _ => none
 | n + 1, x6221, x6226, x6228 => zdE (zb8 p0 c14 n) p0 c14 x6221 x6226 x6228
def zdn (rec164 : (List zd) → (List za) → (List za) → Int → Option Bool) (p0 : (List za)) (c14 : (List za)) (x2721 : List zd) (x2727 : List za) (x2732 : List za) (x2734 : Int) : Option Bool :=
 (if (decide (x2734 < (x2721.length : Int))) = true then (zn x2721 x2734).bind fun y5337 => (zn x2721 x2734).bind fun y5344 => rec164 (x2721.set (Int.toNat x2734) (⟨y5337.Kind, (IntKind.i64.wrap (y5337.N + 1))⟩ : zd)) x2727 x2732 (IntKind.i64.wrap (x2734 + 1)) else zb8 p0 c14 big x2727 x2732 0)
def zdZ (p0 : (List za)) (c14 : (List za)) : Nat → (List zd) → (List za) → (List za) → Int → Option Bool
 | 0, _, _, _, _ => none
 | n + 1, x2721, x2727, x2732, x2734 => zdn (zdZ p0 c14 n) p0 c14 x2721 x2727 x2732 x2734
def zeQ (p0 : (List za)) (p1 : Int) (p2 : Int) (p3 : Int) : Option Bool :=
 (zef p0).bind fun c5 => (if c5 = true then (zdw ).bind fun c10 => some c10 else (ze9 p0).bind fun c14 => (zdA c14 p1).bind fun c25 => (zdF c14 p2 p3).bind fun c34 => (zdx c14).bind fun c43 => (zek p0 p1).bind fun c52 => (zcI c25 c52).bind fun c61 => ((if (!c61) = true then some true else (zeb p0 p2 p3).bind fun c68 => (zbI c34 c68).bind fun c79 => some (!c79))).bind fun c65 => ((if c65 = true then some true else (ze5 p0).bind fun c86 => (zbI c43 c86).bind fun c95 => some (!c95))).bind fun c83 => (if c83 = true then some false else zdZ p0 c14 big c25 c34 c43 0))
end Go.Proofs.Ytjcehfjmmbbblaa
