import Derived.Test.YtckcngkkofemjaaGreatFM
namespace Go.Proofs.YtckcngkkofemjaaGreat
open Go.Ab Go.RowKit
set_option linter.unusedVariables false
set_option linter.unusedSimpArgs false
set_option maxRecDepth 10000
set_option maxHeartbeats 1000000
structure zE where
 Kind : UInt8
 N : Int
 deriving DecidableEq
def zbs : Ty zE where
 sz := 2
 R := fun σ x cs => cs = [.int .u8 x.Kind.toNat, .int .i64 x.N]
 len := by rintro σ x cs rfl; rfl
 one := by rintro σ x cs rfl; rfl
 mono := by rintro σ σ' x cs hle rfl; rfl
structure zq where
 From : Int
 To : Int
 At : (List zE)
 deriving DecidableEq
def zT : Ty zq where
 sz := 3
 R := fun σ x cs => ∃ v2, cs = [.int .i64 x.From, .int .i64 x.To, v2] ∧ RdT zbs σ v2 x.At
 len := by rintro σ x cs ⟨v2, rfl, h0⟩; rfl
 one := by rintro σ x cs ⟨v2, rfl, h0⟩; obtain ⟨_, ⟨_, _, rfl, _⟩, _⟩ := h0; rfl
 mono := by rintro σ σ' x cs hle ⟨v2, rfl, h0⟩; exact ⟨v2, rfl, h0.le hle⟩
structure zbp where
 Kind : UInt8
 N : Int
 Name : ByteArray
 deriving DecidableEq
structure zG where
 Name : ByteArray
 Type_ : zbp
 Words : Int
 Fields : (List ByteArray)
 deriving DecidableEq
def zby : Ty zG where
 sz := 6
 R := fun σ x cs => ∃ v5, cs = [.string x.Name, .int .u8 x.Type_.Kind.toNat, .int .i64 x.Type_.N, .string x.Type_.Name, .int .i64 x.Words, v5] ∧ RdT Ty.str σ v5 x.Fields
 len := by rintro σ x cs ⟨v5, rfl, h0⟩; rfl
 one := by rintro σ x cs ⟨v5, rfl, h0⟩; obtain ⟨_, ⟨_, _, rfl, _⟩, _⟩ := h0; rfl
 mono := by rintro σ σ' x cs hle ⟨v5, rfl, h0⟩; exact ⟨v5, rfl, h0.le hle⟩
structure zo where
 Name : ByteArray
 From : Int
 To : Int
 Vars : (List zG)
 Spans : (List (List zq))
 deriving DecidableEq
def zV : Ty zo where
 sz := 5
 R := fun σ x cs => ∃ v3 v4, cs = [.string x.Name, .int .i64 x.From, .int .i64 x.To, v3, v4] ∧ RdT zby σ v3 x.Vars ∧ RdT (Ty.slice zT) σ v4 x.Spans
 len := by rintro σ x cs ⟨v3, v4, rfl, h0, h1⟩; rfl
 one := by rintro σ x cs ⟨v3, v4, rfl, h0, h1⟩; obtain ⟨_, ⟨_, _, rfl, _⟩, _⟩ := h0; obtain ⟨_, ⟨_, _, rfl, _⟩, _⟩ := h1; rfl
 mono := by rintro σ σ' x cs hle ⟨v3, v4, rfl, h0, h1⟩; exact ⟨v3, v4, rfl, h0.le hle, h1.le hle⟩
structure zB where
 Func : Int
 Line : Int
 Scope : (List Int)
 deriving DecidableEq
def zbg : Ty zB where
 sz := 3
 R := fun σ x cs => ∃ v2, cs = [.int .i64 x.Func, .int .i64 x.Line, v2] ∧ RdT (Ty.int .i64) σ v2 x.Scope
 len := by rintro σ x cs ⟨v2, rfl, h0⟩; rfl
 one := by rintro σ x cs ⟨v2, rfl, h0⟩; obtain ⟨_, ⟨_, _, rfl, _⟩, _⟩ := h0; rfl
 mono := by rintro σ σ' x cs hle ⟨v2, rfl, h0⟩; exact ⟨v2, rfl, h0.le hle⟩
structure zjn where
 L : (List zo)
 Points : (List zB)
 deriving DecidableEq
structure zhv where
 deriving DecidableEq
structure zhU where
 deriving DecidableEq
structure zhK where
 deriving DecidableEq
inductive zbw where
 | nil : zbw
 | c_number (a : Int) : zbw
 | c_reg (a : Int) : zbw
 | c_base (a : Int) : zbw
 | c_word (a : zhv) : zbw
 | c_add (a : zhU) : zbw
 | c_neg (a : zhK) : zbw
 deriving DecidableEq
def zbT : zbw → Value
 | .nil => .nilIface
 | .c_number a => .iface 154 (.int .i64 a)
 | .c_reg a => .iface 155 (.int .i64 a)
 | .c_base a => .iface 156 (.int .i64 a)
 | .c_word a => .iface 158 (.agg #[])
 | .c_add a => .iface 159 (.agg #[])
 | .c_neg a => .iface 160 (.agg #[])
theorem zmQ (x : zbw) : one (zbT x) = true := by cases x <;> rfl
theorem zpE (x : zbw) : (zbT x).cells.toList = [zbT x] := by cases x <;> rfl
def zhY : Ty zbw where
 sz := 1
 R := fun σ x cs => cs = [zbT x]
 len := by rintro σ x cs rfl; rfl
 one := by rintro σ x cs rfl; simp [zmQ]
 mono := by rintro σ σ' x cs hle rfl; rfl
structure z8 where
 b : (List UInt8)
 deriving DecidableEq
structure zp where
 b : (List UInt8)
 at_ : Int
 failed : Bool
 deriving DecidableEq
structure zI where
 B : (List UInt8)
 At : Int
 Failed : Bool
 deriving DecidableEq
def zmw (rec4 : Int → Int → Option Bool) (p0 : (List zq)) (x24 : Int) (x25 : Int) : Option Bool :=
 (if ((decide (x25 < (p0.length : Int))) && (decide (x25 ≤ 5000))) = true then (zz p0 x25).bind fun y48 => (zz p0 x25).bind fun y57 => (if (decide ((y57.At.length : Int) > 1000)) = true then some true else rec4 (IntKind.i64.wrap (x24 + (zbY (y48.At.length : Int) 1000))) (IntKind.i64.wrap (x25 + 1))) else some ((decide ((p0.length : Int) > 5000)) || (decide (x24 > 20000))))
def zpO (p0 : (List zq)) : Nat → Int → Int → Option Bool
 | 0, _, _ => none
 | n + 1, x24, x25 => zmw (zpO p0 n) p0 x24 x25
def znP (rec96 : Int → Option Bool) (rec94 : Int → Int → Option Bool) (y1394 : zo) (x1624 : Int) (x1627 : Int) (y1839 : zG) (x1903 : Int) : Option Bool :=
 (zz y1394.Vars x1627).bind fun y1930 => (if (decide (x1903 < (y1930.Fields.length : Int))) = true then (zz y1394.Vars x1627).bind fun y1940 => (zz y1940.Fields x1903).bind fun y1949 => (if (decide ((y1949.size : Int) > 1000)) = true then some true else rec96 (IntKind.i64.wrap (x1903 + 1))) else rec94 (IntKind.i64.wrap (x1624 + (zbY (y1839.Fields.length : Int) 32768))) (IntKind.i64.wrap (x1627 + 1)))
def znD (rec94 : Int → Int → Option Bool) (y1394 : zo) (x1624 : Int) (x1627 : Int) (y1839 : zG) : Nat → Int → Option Bool
 | 0, _ => none
 | n + 1, x1903 => znP (znD rec94 y1394 x1624 x1627 y1839 n) rec94 y1394 x1624 x1627 y1839 x1903
def zgR (rec4 : Int → Option Bool) (p0 : ByteArray) (x21 : Int) : Option Bool :=
 (if (decide (x21 < ((p0.data.toList).length : Int))) = true then (zz (p0.data.toList) x21).bind fun y37 => (if ((decide ((y37.toNat : Int) ≥ 97)) && (decide ((y37.toNat : Int) ≤ 122))) = true then (if ((decide ((y37.toNat : Int) ≥ 97)) && (decide ((y37.toNat : Int) ≤ 122))) = true then rec4 (IntKind.i64.wrap (x21 + 1)) else some false) else (if ((decide ((y37.toNat : Int) ≥ 65)) && (decide ((y37.toNat : Int) ≤ 90))) = true then (if ((decide ((y37.toNat : Int) ≥ 65)) && (decide ((y37.toNat : Int) ≤ 90))) = true then rec4 (IntKind.i64.wrap (x21 + 1)) else some false) else (if ((decide ((y37.toNat : Int) ≥ 48)) && (decide ((y37.toNat : Int) ≤ 57))) = true then (if ((decide ((y37.toNat : Int) ≥ 48)) && (decide ((y37.toNat : Int) ≤ 57))) = true then rec4 (IntKind.i64.wrap (x21 + 1)) else some false) else (if ((y37.toNat : Int) == 95) = true then rec4 (IntKind.i64.wrap (x21 + 1)) else some false)))) else some ((decide ((p0.size : Int) ≥ 1)) && (decide ((p0.size : Int) ≤ 24))))
def zfm (p0 : ByteArray) : Nat → Int → Option Bool
 | 0, _ => none
 | n + 1, x21 => zgR (zfm p0 n) p0 x21
def zdT (p0 : ByteArray) : Option Bool :=
 zfm p0 big 0
def zfa (rec6 : Bool → Int → Option Bool) (p0 : zG) (x32 : Bool) (x34 : Int) : Option Bool :=
 (if (decide (x34 < (p0.Fields.length : Int))) = true then (zz p0.Fields x34).bind fun y50 => ((if x32 = true then (zdT y50).bind fun c58 => some c58 else some false)).bind fun c55 => rec6 c55 (IntKind.i64.wrap (x34 + 1)) else some x32)
def zgL (p0 : zG) : Nat → Bool → Int → Option Bool
 | 0, _, _ => none
 | n + 1, x32, x34 => zfa (zgL p0 n) p0 x32 x34
def ze1 (p0 : zG) (x10 : Bool) : Option Bool :=
 (if x10 = true then some ((((zbu p0.Type_.Name (⟨#[]⟩ : ByteArray)) && ((p0.Fields.length : Int) == 0)) && (p0.Type_.N == 0)) && (p0.Words == 1)) else (if ((p0.Type_.Kind.toNat : Int) == 3) = true then some (((((zbu p0.Type_.Name (⟨#[]⟩ : ByteArray)) && ((p0.Fields.length : Int) == 0)) && (decide (p0.Type_.N ≥ 1))) && (decide (p0.Type_.N ≤ 16))) && (p0.Words == p0.Type_.N)) else (if ((p0.Type_.Kind.toNat : Int) == 4) = true then (zdT p0.Type_.Name).bind fun c14 => zgL p0 big ((((c14 && (p0.Type_.N == 0)) && (p0.Words == (p0.Fields.length : Int))) && (decide (p0.Words ≥ 1))) && (decide (p0.Words ≤ 8))) 0 else some false)))
def zej (p0 : zG) : Option Bool :=
 (zdT p0.Name).bind fun c3 => (if (!c3) = true then some false else (if ((p0.Type_.Kind.toNat : Int) == 1) = true then ze1 p0 ((p0.Type_.Kind.toNat : Int) == 1) else ze1 p0 ((p0.Type_.Kind.toNat : Int) == 2)))
def zfn (p0 : zE) : Option (zbw × Bool) :=
 (if ((p0.Kind.toNat : Int) == 1) = true then some ((zbw.c_number p0.N), true) else (if ((p0.Kind.toNat : Int) == 2) = true then some ((zbw.c_reg p0.N), ((decide (p0.N ≥ 0)) && (decide (p0.N < 16)))) else (if ((p0.Kind.toNat : Int) == 3) = true then some ((zbw.c_base p0.N), true) else (if ((p0.Kind.toNat : Int) == 4) = true then some ((zbw.c_word (⟨⟩ : zhv)), (p0.N == 0)) else (if ((p0.Kind.toNat : Int) == 5) = true then some ((zbw.c_add (⟨⟩ : zhU)), (p0.N == 0)) else (if ((p0.Kind.toNat : Int) == 6) = true then some ((zbw.c_neg (⟨⟩ : zhK)), (p0.N == 0)) else some (zbw.nil, false)))))))
def zg5 (p0 : Int) : Option Int :=
 some 0
def zhm (p0 : Int) : Option Int :=
 some 0
def zhQ (p0 : Int) : Option Int :=
 some 0
def zg2 (p0 : zhv) : Option Int :=
 some 1
def zhB (p0 : zhU) : Option Int :=
 some 2
def zhM (p0 : zhK) : Option Int :=
 some 1
def zgy (x : zbw)  : Option Int :=
 match x with
 | .nil => none
 | .c_number a => zg5 a
 | .c_reg a => zhm a
 | .c_base a => zhQ a
 | .c_word a => zg2 a
 | .c_add a => zhB a
 | .c_neg a => zhM a
def zfW (rec4 : (List zbw) → Int → Int → Option ((List zbw) × Bool)) (p0 : (List zE)) (x42 : List zbw) (x44 : Int) (x46 : Int) : Option ((List zbw) × Bool) :=
 (if (decide (x46 < (p0.length : Int))) = true then (zz p0 x46).bind fun y82 => (zfn (⟨y82.Kind, y82.N⟩ : zE)).bind fun c88 => ((if (!c88.2) = true then some true else (zgy c88.1).bind fun c95 => some (decide (c95 > x44)))).bind fun c92 => (if c92 = true then some ([], false) else (zgy c88.1).bind fun c100 => (if (decide ((IntKind.i64.wrap (x44 + (IntKind.i64.wrap (1 - c100)))) > 8)) = true then some ([], false) else (room (x42.length + 1)).bind fun _ => rec4 (x42 ++ [c88.1]) (IntKind.i64.wrap (x44 + (IntKind.i64.wrap (1 - c100)))) (IntKind.i64.wrap (x46 + 1)))) else ((if (decide ((p0.length : Int) ≤ 16)) = true then (if ((p0.length : Int) == 0) = true then some true else some (x44 == 1)) else some false)).bind fun c110 => some (x42, c110))
def zfZ (p0 : (List zE)) : Nat → (List zbw) → Int → Int → Option ((List zbw) × Bool)
 | 0, _, _, _ => none
 | n + 1, x42, x44, x46 => zfW (zfZ p0 n) p0 x42 x44 x46
def zfh (p0 : (List zE)) : Option ((List zbw) × Bool) :=
 zfZ p0 big ([]) 0 0
def zd4 (p0 : (List zE)) : Option Bool :=
 (zfh p0).bind fun c2 => some c2.2
def zfT (rec4 : Int → Int → Option Bool) (p0 : (List zq)) (x24 : Int) (x26 : Int) : Option Bool :=
 (if (decide (x26 < (p0.length : Int))) = true then (zz p0 x26).bind fun y48 => ((if ((((decide (y48.From < x24)) || (decide (y48.To ≤ y48.From))) || (decide (y48.To > 16777216))) || ((y48.At.length : Int) == 0)) = true then some true else (zd4 y48.At).bind fun c61 => some (!c61))).bind fun c58 => (if c58 = true then some false else rec4 y48.To (IntKind.i64.wrap (x26 + 1))) else some (decide ((p0.length : Int) ≤ 4000)))
def zfs (p0 : (List zq)) : Nat → Int → Int → Option Bool
 | 0, _, _ => none
 | n + 1, x24, x26 => zfT (zfs p0 n) p0 x24 x26
def zeA (p0 : (List zq)) : Option Bool :=
 zfs p0 big 0 0
def zgq (rec4 : Int → Option Bool) (p0 : zo) (x70 : Int) : Option Bool :=
 (if (decide (x70 < (p0.Vars.length : Int))) = true then (zz p0.Vars x70).bind fun y128 => (zz p0.Spans x70).bind fun y138 => (zej (⟨y128.Name, (⟨y128.Type_.Kind, y128.Type_.N, y128.Type_.Name⟩ : zbp), y128.Words, y128.Fields⟩ : zG)).bind fun c147 => ((if (!c147) = true then some true else (zeA y138).bind fun c154 => some (!c154))).bind fun c151 => (if c151 = true then some false else ((if (decide ((y138.length : Int) > 0)) = true then (zz y138 0).bind fun y162 => (if (decide (y162.From < p0.From)) = true then some true else (zz y138 (IntKind.i64.wrap ((y138.length : Int) - 1))).bind fun y172 => some (decide (y172.To > p0.To))) else some false)).bind fun c159 => (if c159 = true then some false else rec4 (IntKind.i64.wrap (x70 + 1)))) else some true)
def zfy (p0 : zo) : Nat → Int → Option Bool
 | 0, _ => none
 | n + 1, x70 => zgq (zfy p0 n) p0 x70
def zeD (p0 : zo) (p1 : Int) : Option Bool :=
 (zdT p0.Name).bind fun c4 => (if ((((((!c4) || (decide (p0.From < p1))) || (decide (p0.To ≤ p0.From))) || (decide (p0.To > 16777216))) || (decide ((p0.Vars.length : Int) > 64))) || ((p0.Spans.length : Int) != (p0.Vars.length : Int))) = true then some false else zfy p0 big 0)
def zgJ (rec4 : Int → Int → Option Bool) (p0 : zB) (p1 : (List zo)) (x33 : Int) (x35 : Int) : Option Bool :=
 (if (decide (x35 < (p0.Scope.length : Int))) = true then (zz p0.Scope x35).bind fun y61 => ((if (decide (y61 ≤ x33)) = true then some true else (zz p1 p0.Func).bind fun y69 => some (decide (y61 ≥ (y69.Vars.length : Int))))).bind fun c66 => (if c66 = true then some false else rec4 y61 (IntKind.i64.wrap (x35 + 1))) else some true)
def zgi (p0 : zB) (p1 : (List zo)) : Nat → Int → Int → Option Bool
 | 0, _, _ => none
 | n + 1, x33, x35 => zgJ (zgi p0 p1 n) p0 p1 x33 x35
def zex (p0 : zB) (p1 : (List zo)) : Option Bool :=
 (if ((((decide (p0.Func < 0)) || (decide (p0.Func ≥ (p1.length : Int)))) || (decide (p0.Line < 1))) || (decide (p0.Line > 1048576))) = true then some false else zgi p0 p1 big (-1) 0)
def zgp (rec16 : Int → Option Bool) (p0 : (List zo)) (p1 : (List zB)) (x206 : Int) : Option Bool :=
 (if (decide (x206 < (p1.length : Int))) = true then (zz p1 x206).bind fun y225 => (zex (⟨y225.Func, y225.Line, y225.Scope⟩ : zB) p0).bind fun c235 => (if (!c235) = true then some false else rec16 (IntKind.i64.wrap (x206 + 1))) else some ((decide ((p0.length : Int) ≤ 64)) && (decide ((p1.length : Int) ≤ 1000))))
def zgl (p0 : (List zo)) (p1 : (List zB)) : Nat → Int → Option Bool
 | 0, _ => none
 | n + 1, x206 => zgp (zgl p0 p1 n) p0 p1 x206
def ze3 (rec14 : Int → Int → Option Bool) (p0 : (List zo)) (p1 : (List zB)) (x84 : Int) (x86 : Int) : Option Bool :=
 (if (decide (x86 < (p0.length : Int))) = true then (zz p0 x86).bind fun y165 => (zeD (⟨y165.Name, y165.From, y165.To, y165.Vars, y165.Spans⟩ : zo) x84).bind fun c179 => (if (!c179) = true then some false else rec14 y165.To (IntKind.i64.wrap (x86 + 1))) else zgl p0 p1 big 0)
def zgD (p0 : (List zo)) (p1 : (List zB)) : Nat → Int → Int → Option Bool
 | 0, _, _ => none
 | n + 1, x84, x86 => ze3 (zgD p0 p1 n) p0 p1 x84 x86
def zee (p0 : (List zo)) (p1 : (List zB)) : Option Bool :=
 zgD p0 p1 big 0 0
def zey (p0 : (List UInt8)) : Option (List UInt8) := (room p0.length).bind fun _ => some p0
def zeU (rec4 : Int → (List UInt8) → Option (List UInt8))  (x30 : Int) (x34 : List UInt8) : Option (List UInt8) :=
 (if (decide (x30 > 127)) = true then (u8o (orI .u8 (IntKind.u8.wrap x30) 128)).bind fun z51 => (room (x34.length + 1)).bind fun _ => rec4 (zcy .u64 x30 7) (x34 ++ [z51]) else (u8o (IntKind.u8.wrap x30)).bind fun z57 => (room (x34.length + 1)).bind fun _ => some (x34 ++ [z57]))
def zeR  : Nat → Int → (List UInt8) → Option (List UInt8)
 | 0, _, _ => none
 | n + 1, x30, x34 => zeU (zeR  n)  x30 x34
def zcu (p0 : (List UInt8)) (p1 : Int) : Option (List UInt8) :=
 (zey p0).bind fun c3 => zeR  big p1 c3
def zjI (p1 : Int) : Option (List UInt8) :=
 (if (decide ((IntKind.i64.wrap (p1 - (IntKind.i64.wrap (0 - 0)))) > 0)) = true then (nneg (IntKind.i64.wrap (p1 - (IntKind.i64.wrap (0 - 0))))).bind fun _ => (room (([] : List UInt8).length + Int.toNat (IntKind.i64.wrap (p1 - (IntKind.i64.wrap (0 - 0)))))).bind fun _ => (zb0 (([] : List UInt8) ++ List.replicate (Int.toNat (IntKind.i64.wrap (p1 - (IntKind.i64.wrap (0 - 0))))) (0 : UInt8)) 0 0).bind fun y12 => some y12 else some ([]))
def zih (_n0 : (List UInt8)) (p1 : Int) : Option (List UInt8) :=
 (if (decide (p1 < 0)) = true then none else zjI p1)
def zh6 (rec16 : (List UInt8) → Int → Option (List UInt8)) (p0 : (List (List UInt8))) (x211 : List UInt8) (x214 : Int) : Option (List UInt8) :=
 (if (decide (x214 < (p0.length : Int))) = true then (zz p0 x214).bind fun y232 => (room (x211.length + y232.length)).bind fun _ => rec16 (x211 ++ y232) (IntKind.i64.wrap (x214 + 1)) else some x211)
def zhb (p0 : (List (List UInt8))) : Nat → (List UInt8) → Int → Option (List UInt8)
 | 0, _, _ => none
 | n + 1, x211, x214 => zh6 (zhb p0 n) p0 x211 x214
def zi9 (rec14 : Int → Int → Option (List UInt8)) (p0 : (List (List UInt8))) (x84 : Int) (x86 : Int) : Option (List UInt8) :=
 (if (decide (x86 < (p0.length : Int))) = true then (zz p0 x86).bind fun y168 => (if (decide ((IntKind.i64.wrap (x84 + (y168.length : Int))) < 0)) = true then none else rec14 (IntKind.i64.wrap (x84 + (y168.length : Int))) (IntKind.i64.wrap (x86 + 1))) else (zih [] x84).bind fun c178 => zhb p0 big c178 0)
def zha (p0 : (List (List UInt8))) : Nat → Int → Int → Option (List UInt8)
 | 0, _, _ => none
 | n + 1, x84, x86 => zi9 (zha p0 n) p0 x84 x86
def ziK (p0 : (List (List UInt8))) : Option (List UInt8) :=
 zha p0 big 0 0
def zh9 (p0 : (List UInt8)) (p1 : ByteArray) : Option ((List UInt8) × Int) :=
 (if (decide ((p1.size : Int) > 255)) = true then some ([], 1) else (u8o (IntKind.u8.wrap (p1.size : Int))).bind fun z4 => (ziK ([p0, ([z4] : List UInt8), (p1.data.toList)] : List (List UInt8))).bind fun c21 => some (c21, 0))
def ze5 (p0 : Int) : Option Bool :=
 some ((decide (p0 ≥ 1)) && (decide (p0 ≤ 3)))
def zff (rec4 : Int → (List UInt8) → Option (List UInt8))  (x30 : Int) (x34 : List UInt8) : Option (List UInt8) :=
 (if ((decide (x30 > 63)) || (decide (x30 < (-64)))) = true then (u8o (orI .u8 (IntKind.u8.wrap x30) 128)).bind fun z51 => (room (x34.length + 1)).bind fun _ => rec4 (zcy .i64 x30 7) (x34 ++ [z51]) else (u8o (zdK .u8 (IntKind.u8.wrap x30) 127)).bind fun z57 => (room (x34.length + 1)).bind fun _ => some (x34 ++ [z57]))
def zf8  : Nat → Int → (List UInt8) → Option (List UInt8)
 | 0, _, _ => none
 | n + 1, x30, x34 => zff (zf8  n)  x30 x34
def zeF (p0 : (List UInt8)) (p1 : Int) : Option (List UInt8) :=
 (zey p0).bind fun c3 => zf8  big p1 c3
def zjD (rec4 : (List UInt8) → Int → Option ((List UInt8) × Int)) (p1 : (List zE)) (x54 : List UInt8) (x57 : Int) : Option ((List UInt8) × Int) :=
 (if (decide (x57 < (p1.length : Int))) = true then (zz p1 x57).bind fun y88 => (room (x54.length + 1)).bind fun _ => (ze5 (y88.Kind.toNat : Int)).bind fun c99 => (if c99 = true then (zeF (x54 ++ [y88.Kind]) y88.N).bind fun c106 => rec4 c106 (IntKind.i64.wrap (x57 + 1)) else rec4 (x54 ++ [y88.Kind]) (IntKind.i64.wrap (x57 + 1))) else some (x54, 0))
def zhF (p1 : (List zE)) : Nat → (List UInt8) → Int → Option ((List UInt8) × Int)
 | 0, _, _ => none
 | n + 1, x54, x57 => zjD (zhF p1 n) p1 x54 x57
def zh8 (p0 : (List UInt8)) (p1 : (List zE)) : Option ((List UInt8) × Int) :=
 (zd4 p1).bind fun c3 => (if (!c3) = true then some ([], 1) else (zcu p0 (IntKind.u64.wrap (p1.length : Int))).bind fun c8 => zhF p1 big c8 0)
def ziZ (rec4 : (List UInt8) → Int → Int → Option ((List UInt8) × Int)) (p1 : (List zq)) (x70 : List UInt8) (x72 : Int) (x74 : Int) : Option ((List UInt8) × Int) :=
 (if (decide (x74 < (p1.length : Int))) = true then (zz p1 x74).bind fun y121 => (zcu x70 (IntKind.u64.wrap (IntKind.i64.wrap (y121.From - x72)))).bind fun c133 => (zcu c133 (IntKind.u64.wrap (IntKind.i64.wrap (y121.To - y121.From)))).bind fun c144 => (zh8 c144 y121.At).bind fun c155 => rec4 c155.1 y121.To (IntKind.i64.wrap (x74 + 1)) else some (x70, 0))
def zhT (p1 : (List zq)) : Nat → (List UInt8) → Int → Int → Option ((List UInt8) × Int)
 | 0, _, _, _ => none
 | n + 1, x70, x72, x74 => ziZ (zhT p1 n) p1 x70 x72 x74
def zjB (p0 : (List UInt8)) (p1 : (List zq)) : Option ((List UInt8) × Int) :=
 (zeA p1).bind fun c3 => (if (!c3) = true then some ([], 1) else (zcu p0 (IntKind.u64.wrap (p1.length : Int))).bind fun c8 => zhT p1 big c8 0 0)
def zed (q0 : z8) (p1 : ByteArray) : Option z8 :=
 (zh9 q0.b p1).bind fun c5 => some (⟨c5.1⟩ : z8)
def zcr (q0 : z8) (p1 : Int) : Option z8 :=
 (zcu q0.b (IntKind.u64.wrap p1)).bind fun c5 => some (⟨c5⟩ : z8)
def ze6 (p2 : (List zq)) (x116 : List UInt8) : Option z8 :=
 (zjB x116 p2).bind fun c121 => some (⟨c121.1⟩ : z8)
def zik (rec10 : (List UInt8) → Int → Option z8) (p1 : zG) (p2 : (List zq)) (x184 : List UInt8) (x188 : Int) : Option z8 :=
 (if (decide (x188 < (p1.Fields.length : Int))) = true then (zz p1.Fields x188).bind fun y206 => (zed (⟨x184⟩ : z8) y206).bind fun c211 => rec10 c211.b (IntKind.i64.wrap (x188 + 1)) else ze6 p2 x184)
def zgZ (p1 : zG) (p2 : (List zq)) : Nat → (List UInt8) → Int → Option z8
 | 0, _, _ => none
 | n + 1, x184, x188 => zik (zgZ p1 p2 n) p1 p2 x184 x188
def zh2 (q0 : z8) (p1 : zG) (p2 : (List zq)) : Option z8 :=
 (zed (⟨q0.b⟩ : z8) p1.Name).bind fun c5 => (room (c5.b.length + ([p1.Type_.Kind] : List UInt8).length)).bind fun _ => (if ((p1.Type_.Kind.toNat : Int) == 3) = true then (zcr (⟨(c5.b ++ ([p1.Type_.Kind] : List UInt8))⟩ : z8) p1.Type_.N).bind fun c131 => ze6 p2 c131.b else (if ((p1.Type_.Kind.toNat : Int) == 4) = true then (zed (⟨(c5.b ++ ([p1.Type_.Kind] : List UInt8))⟩ : z8) p1.Type_.Name).bind fun c141 => (zcr (⟨c141.b⟩ : z8) (p1.Fields.length : Int)).bind fun c150 => zgZ p1 p2 big c150.b 0 else ze6 p2 (c5.b ++ ([p1.Type_.Kind] : List UInt8))))
def zjA (rec4 : (List UInt8) → Int → Option z8) (p1 : zo) (x81 : List UInt8) (x86 : Int) : Option z8 :=
 (if (decide (x86 < (p1.Vars.length : Int))) = true then (zz p1.Vars x86).bind fun y118 => (zz p1.Spans x86).bind fun y128 => (zh2 (⟨x81⟩ : z8) (⟨y118.Name, (⟨y118.Type_.Kind, y118.Type_.N, y118.Type_.Name⟩ : zbp), y118.Words, y118.Fields⟩ : zG) y128).bind fun c137 => rec4 c137.b (IntKind.i64.wrap (x86 + 1)) else some (⟨x81⟩ : z8))
def zhj (p1 : zo) : Nat → (List UInt8) → Int → Option z8
 | 0, _, _ => none
 | n + 1, x81, x86 => zjA (zhj p1 n) p1 x81 x86
def ziH (q0 : z8) (p1 : zo) (p2 : Int) : Option z8 :=
 (zed (⟨q0.b⟩ : z8) p1.Name).bind fun c5 => (zcr (⟨c5.b⟩ : z8) (IntKind.i64.wrap (p1.From - p2))).bind fun c14 => (zcr (⟨c14.b⟩ : z8) (IntKind.i64.wrap (p1.To - p1.From))).bind fun c23 => (zcr (⟨c23.b⟩ : z8) (p1.Vars.length : Int)).bind fun c32 => zhj p1 big c32.b 0
def zi5 (rec52 : (List UInt8) → Int → Option ((List UInt8) × Int)) (rec50 : (List UInt8) → Int → Option ((List UInt8) × Int)) (x868 : Int) (y970 : zB) (x1032 : List UInt8) (x1036 : Int) : Option ((List UInt8) × Int) :=
 (if (decide (x1036 < (y970.Scope.length : Int))) = true then (zz y970.Scope x1036).bind fun y1054 => (zcr (⟨x1032⟩ : z8) y1054).bind fun c1059 => rec52 c1059.b (IntKind.i64.wrap (x1036 + 1)) else rec50 x1032 (IntKind.i64.wrap (x868 + 1)))
def zhx (rec50 : (List UInt8) → Int → Option ((List UInt8) × Int)) (x868 : Int) (y970 : zB) : Nat → (List UInt8) → Int → Option ((List UInt8) × Int)
 | 0, _, _ => none
 | n + 1, x1032, x1036 => zi5 (zhx rec50 x868 y970 n) rec50 x868 y970 x1032 x1036
def zia (rec50 : (List UInt8) → Int → Option ((List UInt8) × Int)) (p2 : (List zB)) (x865 : List UInt8) (x868 : Int) : Option ((List UInt8) × Int) :=
 (if (decide (x868 < (p2.length : Int))) = true then (zz p2 x868).bind fun y970 => (zcr (⟨x865⟩ : z8) y970.Func).bind fun c980 => (zcr (⟨c980.b⟩ : z8) y970.Line).bind fun c989 => (zcr (⟨c989.b⟩ : z8) (y970.Scope.length : Int)).bind fun c998 => zhx rec50 x868 y970 big c998.b 0 else some (x865, 0))
def zdG (p2 : (List zB)) : Nat → (List UInt8) → Int → Option ((List UInt8) × Int)
 | 0, _, _ => none
 | n + 1, x865, x868 => zia (zdG p2 n) p2 x865 x868
def ziY (rec44 : (List UInt8) → Int → Int → Option ((List UInt8) × Int)) (p1 : (List zo)) (p2 : (List zB)) (x374 : List UInt8) (x376 : Int) (x378 : Int) : Option ((List UInt8) × Int) :=
 (if (decide (x378 < (p1.length : Int))) = true then (zz p1 x378).bind fun y725 => (ziH (⟨x374⟩ : z8) (⟨y725.Name, y725.From, y725.To, y725.Vars, y725.Spans⟩ : zo) x376).bind fun c739 => rec44 c739.b y725.To (IntKind.i64.wrap (x378 + 1)) else (zcr (⟨x374⟩ : z8) (p2.length : Int)).bind fun c748 => zdG p2 big c748.b 0)
def zg1 (p1 : (List zo)) (p2 : (List zB)) : Nat → (List UInt8) → Int → Int → Option ((List UInt8) × Int)
 | 0, _, _, _ => none
 | n + 1, x374, x376, x378 => ziY (zg1 p1 p2 n) p1 p2 x374 x376 x378
def zjl (p0 : (List UInt8)) (p1 : (List zo)) (p2 : (List zB)) : Option ((List UInt8) × Int) :=
 (zee p1 p2).bind fun c4 => (if (!c4) = true then some ([], 1) else (zcu p0 (IntKind.u64.wrap (p1.length : Int))).bind fun c9 => zg1 p1 p2 big c9 0 0)
def zgC (rec4 : Int → Option Bool) (p0 : zG) (p1 : zG) (x22 : Int) : Option Bool :=
 (if (decide (x22 < (p0.Fields.length : Int))) = true then (zz p0.Fields x22).bind fun y37 => (zz p1.Fields x22).bind fun y42 => (if (!(zbu y37 y42)) = true then some false else rec4 (IntKind.i64.wrap (x22 + 1))) else some true)
def zfK (p0 : zG) (p1 : zG) : Nat → Int → Option Bool
 | 0, _ => none
 | n + 1, x22 => zgC (zfK p0 p1 n) p0 p1 x22
def zew (p0 : zG) (p1 : zG) : Option Bool :=
 (if ((((!(zbu p0.Name p1.Name)) || (!(( (p0.Type_.Kind.toNat : Int) == (p1.Type_.Kind.toNat : Int)) && (( p0.Type_.N == p1.Type_.N) && ((zbu p0.Type_.Name p1.Type_.Name) && true))))) || (p0.Words != p1.Words)) || ((p0.Fields.length : Int) != (p1.Fields.length : Int))) = true then some false else zfK p0 p1 big 0)
def zfL (rec4 : Int → Option Bool) (p0 : (List zE)) (p1 : (List zE)) (x20 : Int) : Option Bool :=
 (if (decide (x20 < (p0.length : Int))) = true then (zz p0 x20).bind fun y35 => (zz p1 x20).bind fun y40 => (if (!(( (y35.Kind.toNat : Int) == (y40.Kind.toNat : Int)) && (( y35.N == y40.N) && true))) = true then some false else rec4 (IntKind.i64.wrap (x20 + 1))) else some true)
def zfN (p0 : (List zE)) (p1 : (List zE)) : Nat → Int → Option Bool
 | 0, _ => none
 | n + 1, x20 => zfL (zfN p0 p1 n) p0 p1 x20
def zfb (p0 : (List zE)) (p1 : (List zE)) : Option Bool :=
 (if ((p0.length : Int) != (p1.length : Int)) = true then some false else zfN p0 p1 big 0)
def zf9 (rec4 : Int → Option Bool) (p0 : (List zq)) (p1 : (List zq)) (x74 : Int) : Option Bool :=
 (if (decide (x74 < (p0.length : Int))) = true then (zz p0 x74).bind fun y143 => (zz p1 x74).bind fun y152 => ((if (y143.From != y152.From) = true then some true else (zz p0 x74).bind fun y164 => (zz p1 x74).bind fun y173 => some (y164.To != y173.To))).bind fun c161 => ((if c161 = true then some true else (zz p0 x74).bind fun y185 => (zz p1 x74).bind fun y194 => (zfb y185.At y194.At).bind fun c203 => some (!c203))).bind fun c182 => (if c182 = true then some false else rec4 (IntKind.i64.wrap (x74 + 1))) else some true)
def zfc (p0 : (List zq)) (p1 : (List zq)) : Nat → Int → Option Bool
 | 0, _ => none
 | n + 1, x74 => zf9 (zfc p0 p1 n) p0 p1 x74
def zgV (p0 : (List zq)) (p1 : (List zq)) : Option Bool :=
 (if ((p0.length : Int) != (p1.length : Int)) = true then some false else zfc p0 p1 big 0)
def zeQ (rec52 : Int → Option Bool) (rec44 : Int → Option Bool) (p0 : (List zo)) (p1 : (List zo)) (x932 : Int) (x2654 : Int) : Option Bool :=
 (zz p0 x932).bind fun y2719 => (if (decide (x2654 < (y2719.Spans.length : Int))) = true then (zz p0 x932).bind fun y2733 => (zz y2733.Spans x2654).bind fun y2746 => (zz p1 x932).bind fun y2755 => (zz y2755.Spans x2654).bind fun y2768 => (zgV y2746 y2768).bind fun c2777 => (if (!c2777) = true then some false else rec52 (IntKind.i64.wrap (x2654 + 1))) else rec44 (IntKind.i64.wrap (x932 + 1)))
def zgF (rec44 : Int → Option Bool) (p0 : (List zo)) (p1 : (List zo)) (x932 : Int) : Nat → Int → Option Bool
 | 0, _ => none
 | n + 1, x2654 => zeQ (zgF rec44 p0 p1 x932 n) rec44 p0 p1 x932 x2654
def zgT (rec50 : Int → Option Bool) (rec44 : Int → Option Bool) (p0 : (List zo)) (p1 : (List zo)) (x932 : Int) (x2264 : Int) : Option Bool :=
 (zz p0 x932).bind fun y2524 => (if (decide (x2264 < (y2524.Vars.length : Int))) = true then (zz p0 x932).bind fun y2538 => (zz y2538.Vars x2264).bind fun y2551 => (zz p1 x932).bind fun y2560 => (zz y2560.Vars x2264).bind fun y2573 => (zew (⟨y2551.Name, (⟨y2551.Type_.Kind, y2551.Type_.N, y2551.Type_.Name⟩ : zbp), y2551.Words, y2551.Fields⟩ : zG) (⟨y2573.Name, (⟨y2573.Type_.Kind, y2573.Type_.N, y2573.Type_.Name⟩ : zbp), y2573.Words, y2573.Fields⟩ : zG)).bind fun c2582 => (if (!c2582) = true then some false else rec50 (IntKind.i64.wrap (x2264 + 1))) else zgF rec44 p0 p1 x932 big 0)
def zeM (rec44 : Int → Option Bool) (p0 : (List zo)) (p1 : (List zo)) (x932 : Int) : Nat → Int → Option Bool
 | 0, _ => none
 | n + 1, x2264 => zgT (zeM rec44 p0 p1 x932 n) rec44 p0 p1 x932 x2264
def zft (rec44 : Int → Option Bool) (p0 : (List zo)) (p1 : (List zo)) (x932 : Int) : Option Bool :=
 (if (decide (x932 < (p0.length : Int))) = true then (zz p0 x932).bind fun y1859 => (zz p1 x932).bind fun y1872 => ((if (!(zbu y1859.Name y1872.Name)) = true then some true else (zz p0 x932).bind fun y1888 => (zz p1 x932).bind fun y1901 => some (y1888.From != y1901.From))).bind fun c1885 => ((if c1885 = true then some true else (zz p0 x932).bind fun y1917 => (zz p1 x932).bind fun y1930 => some (y1917.To != y1930.To))).bind fun c1914 => ((if c1914 = true then some true else (zz p0 x932).bind fun y1946 => (zz p1 x932).bind fun y1959 => some ((y1946.Vars.length : Int) != (y1959.Vars.length : Int)))).bind fun c1943 => ((if c1943 = true then some true else (zz p0 x932).bind fun y1975 => (zz p1 x932).bind fun y1988 => some ((y1975.Spans.length : Int) != (y1988.Spans.length : Int)))).bind fun c1972 => (if c1972 = true then some false else zeM rec44 p0 p1 x932 big 0) else some true)
def zcn (p0 : (List zo)) (p1 : (List zo)) : Nat → Int → Option Bool
 | 0, _ => none
 | n + 1, x932 => zft (zcn p0 p1 n) p0 p1 x932
def zeC (p0 : (List zo)) (p1 : (List zo)) : Option Bool :=
 (if ((p0.length : Int) != (p1.length : Int)) = true then some false else zcn p0 p1 big 0)
def zf3 (rec16 : Int → Option Bool) (rec14 : Int → Option Bool) (p0 : (List zB)) (p1 : (List zB)) (x193 : Int) (x485 : Int) : Option Bool :=
 (zz p0 x193).bind fun y526 => (if (decide (x485 < (y526.Scope.length : Int))) = true then (zz p0 x193).bind fun y536 => (zz y536.Scope x485).bind fun y545 => (zz p1 x193).bind fun y550 => (zz y550.Scope x485).bind fun y559 => (if (y545 != y559) = true then some false else rec16 (IntKind.i64.wrap (x485 + 1))) else rec14 (IntKind.i64.wrap (x193 + 1)))
def zeS (rec14 : Int → Option Bool) (p0 : (List zB)) (p1 : (List zB)) (x193 : Int) : Nat → Int → Option Bool
 | 0, _ => none
 | n + 1, x485 => zf3 (zeS rec14 p0 p1 x193 n) rec14 p0 p1 x193 x485
def zeZ (rec14 : Int → Option Bool) (p0 : (List zB)) (p1 : (List zB)) (x193 : Int) : Option Bool :=
 (if (decide (x193 < (p0.length : Int))) = true then (zz p0 x193).bind fun y381 => (zz p1 x193).bind fun y390 => ((if (y381.Func != y390.Func) = true then some true else (zz p0 x193).bind fun y402 => (zz p1 x193).bind fun y411 => some (y402.Line != y411.Line))).bind fun c399 => ((if c399 = true then some true else (zz p0 x193).bind fun y423 => (zz p1 x193).bind fun y432 => some ((y423.Scope.length : Int) != (y432.Scope.length : Int)))).bind fun c420 => (if c420 = true then some false else zeS rec14 p0 p1 x193 big 0) else some true)
def zcS (p0 : (List zB)) (p1 : (List zB)) : Nat → Int → Option Bool
 | 0, _ => none
 | n + 1, x193 => zeZ (zcS p0 p1 n) p0 p1 x193
def zez (p0 : (List zB)) (p1 : (List zB)) : Option Bool :=
 (if ((p0.length : Int) != (p1.length : Int)) = true then some false else zcS p0 p1 big 0)
def zf7 (rec4 : Int → Int → Option (Int × Int)) (p0 : (List UInt8)) (x18 : Int) (x19 : Int) : Option (Int × Int) :=
 (if (decide (x19 < (zbY (p0.length : Int) 10))) = true then (zz p0 x19).bind fun y36 => (zbU .u64 (IntKind.u64.wrap (zdK .u8 (y36.toNat : Int) 127)) (IntKind.i64.wrap (7 * x19))).bind fun y41 => (zz p0 x19).bind fun y43 => (if (decide ((y43.toNat : Int) < 128)) = true then some ((orI .u64 x18 y41), (IntKind.i64.wrap (x19 + 1))) else rec4 (orI .u64 x18 y41) (IntKind.i64.wrap (x19 + 1))) else some (0, 0))
def zfg (p0 : (List UInt8)) : Nat → Int → Int → Option (Int × Int)
 | 0, _, _ => none
 | n + 1, x18, x19 => zf7 (zfg p0 n) p0 x18 x19
def ze4 (p0 : (List UInt8)) : Option (Int × Int) :=
 zfg p0 big 0 0
def zgB (rec4 : Int → Option Bool) (p0 : (List UInt8)) (p1 : (List UInt8)) (x20 : Int) : Option Bool :=
 (if (decide (x20 < (p0.length : Int))) = true then (zz p0 x20).bind fun y35 => (zz p1 x20).bind fun y40 => (if ((y35.toNat : Int) != (y40.toNat : Int)) = true then some false else rec4 (IntKind.i64.wrap (x20 + 1))) else some true)
def zfH (p0 : (List UInt8)) (p1 : (List UInt8)) : Nat → Int → Option Bool
 | 0, _ => none
 | n + 1, x20 => zgB (zfH p0 p1 n) p0 p1 x20
def zer (p0 : (List UInt8)) (p1 : (List UInt8)) : Option Bool :=
 (if ((p0.length : Int) != (p1.length : Int)) = true then some false else zfH p0 p1 big 0)
def zg8 (p0 : Int) (p1 : Int) : Option Int :=
 some p0
def zhp (p0 : (List UInt8)) (p1 : Int) : Option (Int × Int × Int) :=
 (if ((decide (p1 < 0)) || (decide (p1 > (p0.length : Int)))) = true then some (0, 0, 1) else (zb0 p0 p1 (p0.length : Int)).bind fun y6 => (ze4 y6).bind fun c11 => (zg8 c11.1 c11.2).bind fun c15 => ((if (c11.2 == 0) = true then some true else (zb0 p0 p1 (IntKind.i64.wrap (p1 + c11.2))).bind fun y22 => (zcu [] c15).bind fun c27 => (zer c27 y22).bind fun c38 => some (!c38))).bind fun c19 => (if c19 = true then some (0, 0, 5) else some (c15, (IntKind.i64.wrap (p1 + c11.2)), 0)))
def zcZ (p0 : (List UInt8)) (p1 : Int) : Option (Int × Int × Int) :=
 (zhp p0 p1).bind fun c3 => some (c3.1, c3.2.1, c3.2.2)
def zbB (q0 : zp) (p1 : Int) : Option (Int × zp) :=
 (zcZ q0.b q0.at_).bind fun c3 => (if ((q0.failed || (c3.2.2 != 0)) || (decide (c3.1 > (IntKind.u64.wrap p1)))) = true then some (0, (⟨q0.b, q0.at_, true⟩ : zp)) else some ((IntKind.i64.wrap c3.1), (⟨q0.b, c3.2.1, q0.failed⟩ : zp)))
def zcJ (p0 : (List UInt8)) (p1 : Int) (p2 : Int) : Option ((List UInt8) × Int × Int) :=
 (if ((decide (p1 < 0)) || (decide (p1 > (p0.length : Int)))) = true then some ([], 0, 1) else (zb0 p0 p1 (p0.length : Int)).bind fun y5 => (if (decide ((y5.length : Int) ≥ p2)) = true then (zb0 y5 0 p2).bind fun y11 => some (y11, (IntKind.i64.wrap (p1 + p2)), 0) else some ([], 0, 5)))
def zcI (p0 : (List UInt8)) (p1 : Int) : Option (Int × Int × Int) :=
 (zcJ p0 p1 1).bind fun c3 => (if (c3.2.2 != 0) = true then some (0, 0, c3.2.2) else (zz c3.1 0).bind fun y12 => some ((y12.toNat : Int), c3.2.1, 0))
def zcq (p0 : (List UInt8)) (p1 : Int) : Option (ByteArray × Int × Int) :=
 (zcI p0 p1).bind fun c3 => (if (c3.2.2 != 0) = true then some ((⟨#[]⟩ : ByteArray), 0, c3.2.2) else (zcJ p0 c3.2.1 (IntKind.i64.wrap c3.1)).bind fun c8 => some ((⟨c8.1.toArray⟩ : ByteArray), c8.2.1, c8.2.2))
def zcx (q0 : zp) : Option (ByteArray × zp) :=
 (zcq q0.b q0.at_).bind fun c2 => (if (q0.failed || (c2.2.2 != 0)) = true then some ((⟨#[]⟩ : ByteArray), (⟨q0.b, q0.at_, true⟩ : zp)) else some (c2.1, (⟨q0.b, c2.2.1, q0.failed⟩ : zp)))
def zck (q0 : zp) : Option (Int × zp) :=
 (zcI q0.b q0.at_).bind fun c2 => (if (q0.failed || (c2.2.2 != 0)) = true then some (0, (⟨q0.b, q0.at_, true⟩ : zp)) else some (c2.1, (⟨q0.b, c2.2.1, q0.failed⟩ : zp)))
def zjp (rec4 : (List UInt8) → Int → Bool → (List ByteArray) → Int → Option ((List ByteArray) × zp))  (x30 : List UInt8) (x32 : Int) (x33 : Bool) (x37 : List ByteArray) (x39 : Int) : Option ((List ByteArray) × zp) :=
 (if ((decide (x39 > 0)) && (!x33)) = true then (zcx (⟨x30, x32, x33⟩ : zp)).bind fun c56 => (room (x37.length + 1)).bind fun _ => rec4 c56.2.b c56.2.at_ c56.2.failed (x37 ++ [c56.1]) (IntKind.i64.wrap (x39 - 1)) else some (x37, (⟨x30, x32, x33⟩ : zp)))
def zdb  : Nat → (List UInt8) → Int → Bool → (List ByteArray) → Int → Option ((List ByteArray) × zp)
 | 0, _, _, _, _, _ => none
 | n + 1, x30, x32, x33, x37, x39 => zjp (zdb  n)  x30 x32 x33 x37 x39
def zfu (q0 : zp) (p1 : Int) : Option ((List ByteArray) × zp) :=
 (zbB (⟨q0.b, q0.at_, q0.failed⟩ : zp) p1).bind fun c4 => zdb  big c4.2.b c4.2.at_ c4.2.failed ([]) c4.1
def zd0 (q0 : zp) : Option (zG × zp) :=
 (zcx (⟨q0.b, q0.at_, q0.failed⟩ : zp)).bind fun c3 => (zck (⟨c3.2.b, c3.2.at_, c3.2.failed⟩ : zp)).bind fun c12 => (if (c12.1 == 3) = true then (zbB (⟨c12.2.b, c12.2.at_, c12.2.failed⟩ : zp) 16).bind fun c21 => (u8o c12.1).bind fun z29 => some ((⟨c3.1, (⟨z29, c21.1, (⟨#[]⟩ : ByteArray)⟩ : zbp), c21.1, []⟩ : zG), (⟨c21.2.b, c21.2.at_, c21.2.failed⟩ : zp)) else (if (c12.1 == 4) = true then (zcx (⟨c12.2.b, c12.2.at_, c12.2.failed⟩ : zp)).bind fun c31 => (zfu (⟨c31.2.b, c31.2.at_, c31.2.failed⟩ : zp) 8).bind fun c39 => (u8o c12.1).bind fun z54 => some ((⟨c3.1, (⟨z54, 0, c31.1⟩ : zbp), (c39.1.length : Int), c39.1⟩ : zG), (⟨c39.2.b, c39.2.at_, c39.2.failed⟩ : zp)) else (u8o c12.1).bind fun z55 => some ((⟨c3.1, (⟨z55, 0, (⟨#[]⟩ : ByteArray)⟩ : zbp), 1, []⟩ : zG), (⟨c12.2.b, c12.2.at_, c12.2.failed⟩ : zp))))
def zgI (p0 : Int) (p1 : Int) : Option Int :=
 (zbU .u64 p0 (zdz 0 (IntKind.i64.wrap (64 - (IntKind.i64.wrap (7 * p1)))))).bind fun y3 => (zfA .i64 (IntKind.i64.wrap y3) (zdz 0 (IntKind.i64.wrap (64 - (IntKind.i64.wrap (7 * p1)))))).bind fun y5 => some y5
def zhD (p0 : (List UInt8)) (p1 : Int) : Option (Int × Int × Int) :=
 (if ((decide (p1 < 0)) || (decide (p1 > (p0.length : Int)))) = true then some (0, 0, 1) else (zb0 p0 p1 (p0.length : Int)).bind fun y6 => (ze4 y6).bind fun c11 => (zgI c11.1 c11.2).bind fun c15 => ((if (c11.2 == 0) = true then some true else (zb0 p0 p1 (IntKind.i64.wrap (p1 + c11.2))).bind fun y22 => (zeF [] c15).bind fun c27 => (zer c27 y22).bind fun c38 => some (!c38))).bind fun c19 => (if c19 = true then some (0, 0, 5) else some (c15, (IntKind.i64.wrap (p1 + c11.2)), 0)))
def zgW (p0 : (List UInt8)) (p1 : Int) : Option (Int × Int × Int) :=
 (zhD p0 p1).bind fun c3 => some (c3.1, c3.2.1, c3.2.2)
def zdP (rec4 : (List zE) → Int → Int → Option ((List zE) × Int × Int)) (p0 : (List UInt8)) (c4 : Int × Int × Int) (x49 : List zE) (x51 : Int) (x52 : Int) : Option ((List zE) × Int × Int) :=
 (if (decide (x52 < c4.1)) = true then (if (decide (x51 ≥ (p0.length : Int))) = true then some ([], 0, 5) else (zz p0 x51).bind fun y91 => (ze5 (y91.toNat : Int)).bind fun c97 => (if c97 = true then (zgW p0 (IntKind.i64.wrap (x51 + 1))).bind fun c102 => (if (c102.2.2 != 0) = true then some ([], 0, 5) else (room (x49.length + 1)).bind fun _ => rec4 (x49 ++ [(⟨y91, c102.1⟩ : zE)]) c102.2.1 (IntKind.u64.wrap (x52 + 1))) else (room (x49.length + 1)).bind fun _ => rec4 (x49 ++ [(⟨y91, 0⟩ : zE)]) (IntKind.i64.wrap (x51 + 1)) (IntKind.u64.wrap (x52 + 1)))) else (zd4 x49).bind fun c119 => (if (!c119) = true then some ([], 0, 5) else some (x49, x51, 0)))
def zgo (p0 : (List UInt8)) (c4 : Int × Int × Int) : Nat → (List zE) → Int → Int → Option ((List zE) × Int × Int)
 | 0, _, _, _ => none
 | n + 1, x49, x51, x52 => zdP (zgo p0 c4 n) p0 c4 x49 x51 x52
def zfv (p0 : (List UInt8)) (p1 : Int) : Option ((List zE) × Int × Int) :=
 (if ((decide (p1 < 0)) || (decide (p1 > (p0.length : Int)))) = true then some ([], 0, 1) else (zcZ p0 p1).bind fun c4 => (if ((c4.2.2 != 0) || (decide (c4.1 > 16))) = true then some ([], 0, 5) else zgo p0 c4 big ([]) c4.2.1 0))
def zfV (p0 : (List UInt8)) (p1 : Int) (p2 : Int) : Option (zq × Int × Bool) :=
 (zcZ p0 p1).bind fun c5 => (if ((c5.2.2 != 0) || (decide (c5.1 > 16777216))) = true then some ((⟨0, 0, []⟩ : zq), 0, false) else (zcZ p0 c5.2.1).bind fun c10 => (if ((c10.2.2 != 0) || (decide (c10.1 > 16777216))) = true then some ((⟨0, 0, []⟩ : zq), 0, false) else (zfv p0 c10.2.1).bind fun c15 => some ((⟨(IntKind.i64.wrap (p2 + (IntKind.i64.wrap c5.1))), (IntKind.i64.wrap ((IntKind.i64.wrap (p2 + (IntKind.i64.wrap c5.1))) + (IntKind.i64.wrap c10.1))), c15.1⟩ : zq), c15.2.1, ((c15.2.2 == 0) && (decide ((IntKind.i64.wrap ((IntKind.i64.wrap (p2 + (IntKind.i64.wrap c5.1))) + (IntKind.i64.wrap c10.1))) ≤ 16777216))))))
def zdH (rec4 : (List zq) → Int → Int → Int → Option ((List zq) × Int × Int)) (p0 : (List UInt8)) (c4 : Int × Int × Int) (x42 : List zq) (x44 : Int) (x45 : Int) (x46 : Int) : Option ((List zq) × Int × Int) :=
 (if (decide (x46 < c4.1)) = true then (zfV p0 x44 x45).bind fun c78 => (if (!c78.2.2) = true then some ([], 0, 5) else (room (x42.length + ([(⟨c78.1.From, c78.1.To, c78.1.At⟩ : zq)] : List zq).length)).bind fun _ => rec4 (x42 ++ ([(⟨c78.1.From, c78.1.To, c78.1.At⟩ : zq)] : List zq)) c78.2.1 c78.1.To (IntKind.u64.wrap (x46 + 1))) else (zeA x42).bind fun c101 => (if (!c101) = true then some ([], 0, 5) else some (x42, x44, 0)))
def zeT (p0 : (List UInt8)) (c4 : Int × Int × Int) : Nat → (List zq) → Int → Int → Int → Option ((List zq) × Int × Int)
 | 0, _, _, _, _ => none
 | n + 1, x42, x44, x45, x46 => zdH (zeT p0 c4 n) p0 c4 x42 x44 x45 x46
def zfk (p0 : (List UInt8)) (p1 : Int) : Option ((List zq) × Int × Int) :=
 (if ((decide (p1 < 0)) || (decide (p1 > (p0.length : Int)))) = true then some ([], 0, 1) else (zcZ p0 p1).bind fun c4 => (if ((c4.2.2 != 0) || (decide (c4.1 > 4000))) = true then some ([], 0, 5) else zeT p0 c4 big ([]) c4.2.1 0 0))
def zdI (q0 : zp) : Option ((List zq) × zp) :=
 (zfk q0.b q0.at_).bind fun c2 => (if (q0.failed || (c2.2.2 != 0)) = true then some ([], (⟨q0.b, q0.at_, true⟩ : zp)) else some (c2.1, (⟨q0.b, c2.2.1, q0.failed⟩ : zp)))
def zdS (qf0 : zp) (qf1 : zo) : Option (zG × zp × zo) :=
 (zd0 (⟨qf0.b, qf0.at_, qf0.failed⟩ : zp)).bind fun c2 => (zdI (⟨c2.2.b, c2.2.at_, c2.2.failed⟩ : zp)).bind fun c15 => (room (qf1.Spans.length + ([c15.1] : List (List zq)).length)).bind fun _ => some ((⟨c2.1.Name, (⟨c2.1.Type_.Kind, c2.1.Type_.N, c2.1.Type_.Name⟩ : zbp), c2.1.Words, c2.1.Fields⟩ : zG), (⟨c15.2.b, c15.2.at_, c15.2.failed⟩ : zp), (⟨qf1.Name, qf1.From, qf1.To, qf1.Vars, (qf1.Spans ++ ([c15.1] : List (List zq)))⟩ : zo))
def zh0 (rec4 : (List UInt8) → Int → Bool → ByteArray → Int → Int → (List zG) → (List (List zq)) → (List zG) → Int → Option ((List zG) × zp × zo))  (x50 : List UInt8) (x52 : Int) (x53 : Bool) (x55 : ByteArray) (x56 : Int) (x57 : Int) (x60 : List zG) (x65 : List (List zq)) (x70 : List zG) (x72 : Int) : Option ((List zG) × zp × zo) :=
 (if ((decide (x72 > 0)) && (!x53)) = true then (zdS (⟨x50, x52, x53⟩ : zp) (⟨x55, x56, x57, x60, x65⟩ : zo)).bind fun c102 => (room (x70.length + 1)).bind fun _ => rec4 c102.2.1.b c102.2.1.at_ c102.2.1.failed c102.2.2.Name c102.2.2.From c102.2.2.To c102.2.2.Vars c102.2.2.Spans (x70 ++ [(⟨c102.1.Name, (⟨c102.1.Type_.Kind, c102.1.Type_.N, c102.1.Type_.Name⟩ : zbp), c102.1.Words, c102.1.Fields⟩ : zG)]) (IntKind.i64.wrap (x72 - 1)) else some (x70, (⟨x50, x52, x53⟩ : zp), (⟨x55, x56, x57, x60, x65⟩ : zo)))
def zfU  : Nat → (List UInt8) → Int → Bool → ByteArray → Int → Int → (List zG) → (List (List zq)) → (List zG) → Int → Option ((List zG) × zp × zo)
 | 0, _, _, _, _, _, _, _, _, _, _ => none
 | n + 1, x50, x52, x53, x55, x56, x57, x60, x65, x70, x72 => zh0 (zfU  n)  x50 x52 x53 x55 x56 x57 x60 x65 x70 x72
def zfI (q0 : zp) (p1 : Int) (q2_1 : zo) : Option ((List zG) × zp × zo) :=
 (zbB (⟨q0.b, q0.at_, q0.failed⟩ : zp) p1).bind fun c4 => zfU  big c4.2.b c4.2.at_ c4.2.failed q2_1.Name q2_1.From q2_1.To q2_1.Vars q2_1.Spans ([]) c4.1
def zfP (x21 : List UInt8) (x23 : Int) (x24 : Bool) (x27 : ByteArray) (x28 : Int) : Option (zo × zp × Int) :=
 (zbB (⟨x21, x23, x24⟩ : zp) 16777216).bind fun c29 => (zfI (⟨c29.2.b, c29.2.at_, (c29.2.failed || (decide ((IntKind.i64.wrap (x28 + c29.1)) > 16777216)))⟩ : zp) 64 (⟨x27, x28, (IntKind.i64.wrap (x28 + c29.1)), [], ([] : List (List zq))⟩ : zo)).bind fun c38 => some ((⟨c38.2.2.Name, c38.2.2.From, c38.2.2.To, c38.1, c38.2.2.Spans⟩ : zo), (⟨c38.2.1.b, c38.2.1.at_, c38.2.1.failed⟩ : zp), (IntKind.i64.wrap (x28 + c29.1)))
def zdU (qf0 : zp) (qf1 : Int) : Option (zo × zp × Int) :=
 (zcx (⟨qf0.b, qf0.at_, qf0.failed⟩ : zp)).bind fun c64 => (zbB (⟨c64.2.b, c64.2.at_, c64.2.failed⟩ : zp) 16777216).bind fun c72 => zfP c72.2.b c72.2.at_ c72.2.failed c64.1 (IntKind.i64.wrap (qf1 + c72.1))
def zjd (rec4 : (List UInt8) → Int → Bool → Int → (List zo) → Int → Option ((List zo) × zp × Int))  (x39 : List UInt8) (x41 : Int) (x42 : Bool) (x44 : Int) (x48 : List zo) (x50 : Int) : Option ((List zo) × zp × Int) :=
 (if ((decide (x50 > 0)) && (!x42)) = true then (zdU (⟨x39, x41, x42⟩ : zp) x44).bind fun c75 => (room (x48.length + 1)).bind fun _ => rec4 c75.2.1.b c75.2.1.at_ c75.2.1.failed c75.2.2 (x48 ++ [(⟨c75.1.Name, c75.1.From, c75.1.To, c75.1.Vars, c75.1.Spans⟩ : zo)]) (IntKind.i64.wrap (x50 - 1)) else some (x48, (⟨x39, x41, x42⟩ : zp), x44))
def zf2  : Nat → (List UInt8) → Int → Bool → Int → (List zo) → Int → Option ((List zo) × zp × Int)
 | 0, _, _, _, _, _, _ => none
 | n + 1, x39, x41, x42, x44, x48, x50 => zjd (zf2  n)  x39 x41 x42 x44 x48 x50
def zel (q0 : zp) (p1 : Int) (q2_1 : Int) : Option ((List zo) × zp × Int) :=
 (zbB (⟨q0.b, q0.at_, q0.failed⟩ : zp) p1).bind fun c4 => zf2  big c4.2.b c4.2.at_ c4.2.failed q2_1 ([]) c4.1
def zdC (qf0 : zp) : Option (Int × zp) :=
 (zbB (⟨qf0.b, qf0.at_, qf0.failed⟩ : zp) 64).bind fun c1 => some (c1.1, (⟨c1.2.b, c1.2.at_, c1.2.failed⟩ : zp))
def ziy (rec4 : (List UInt8) → Int → Bool → (List Int) → Int → Option ((List Int) × zp))  (x31 : List UInt8) (x33 : Int) (x34 : Bool) (x39 : List Int) (x41 : Int) : Option ((List Int) × zp) :=
 (if ((decide (x41 > 0)) && (!x34)) = true then (zdC (⟨x31, x33, x34⟩ : zp)).bind fun c58 => (room (x39.length + 1)).bind fun _ => rec4 c58.2.b c58.2.at_ c58.2.failed (x39 ++ [c58.1]) (IntKind.i64.wrap (x41 - 1)) else some (x39, (⟨x31, x33, x34⟩ : zp)))
def zdA  : Nat → (List UInt8) → Int → Bool → (List Int) → Int → Option ((List Int) × zp)
 | 0, _, _, _, _, _ => none
 | n + 1, x31, x33, x34, x39, x41 => ziy (zdA  n)  x31 x33 x34 x39 x41
def zeV (q0 : zp) (p1 : Int) : Option ((List Int) × zp) :=
 (zbB (⟨q0.b, q0.at_, q0.failed⟩ : zp) p1).bind fun c4 => zdA  big c4.2.b c4.2.at_ c4.2.failed ([]) c4.1
def zf4 (x21 : List UInt8) (x23 : Int) (x24 : Bool) (x27 : Int) (x28 : Int) : Option (zB × zp) :=
 (zeV (⟨x21, x23, x24⟩ : zp) 64).bind fun c29 => some ((⟨x27, x28, c29.1⟩ : zB), (⟨c29.2.b, c29.2.at_, c29.2.failed⟩ : zp))
def zd2 (qf0 : zp) : Option (zB × zp) :=
 (zbB (⟨qf0.b, qf0.at_, qf0.failed⟩ : zp) 64).bind fun c44 => (zbB (⟨c44.2.b, c44.2.at_, c44.2.failed⟩ : zp) 1048576).bind fun c52 => zf4 c52.2.b c52.2.at_ c52.2.failed c44.1 c52.1
def zim (rec4 : (List UInt8) → Int → Bool → (List zB) → Int → Option ((List zB) × zp))  (x35 : List UInt8) (x37 : Int) (x38 : Bool) (x43 : List zB) (x45 : Int) : Option ((List zB) × zp) :=
 (if ((decide (x45 > 0)) && (!x38)) = true then (zd2 (⟨x35, x37, x38⟩ : zp)).bind fun c66 => (room (x43.length + 1)).bind fun _ => rec4 c66.2.b c66.2.at_ c66.2.failed (x43 ++ [(⟨c66.1.Func, c66.1.Line, c66.1.Scope⟩ : zB)]) (IntKind.i64.wrap (x45 - 1)) else some (x43, (⟨x35, x37, x38⟩ : zp)))
def zev  : Nat → (List UInt8) → Int → Bool → (List zB) → Int → Option ((List zB) × zp)
 | 0, _, _, _, _, _ => none
 | n + 1, x35, x37, x38, x43, x45 => zim (zev  n)  x35 x37 x38 x43 x45
def zeb (q0 : zp) (p1 : Int) : Option ((List zB) × zp) :=
 (zbB (⟨q0.b, q0.at_, q0.failed⟩ : zp) p1).bind fun c4 => zev  big c4.2.b c4.2.at_ c4.2.failed ([]) c4.1
def zds (p0 : (List UInt8)) (p1 : Int) : Option ((List zo) × (List zB) × Int × Int) :=
 (if ((decide (p1 < 0)) || (decide (p1 > (p0.length : Int)))) = true then some ([], [], 0, 1) else (zel (⟨p0, p1, false⟩ : zp) 64 0).bind fun c9 => (zeb (⟨c9.2.1.b, c9.2.1.at_, c9.2.1.failed⟩ : zp) 1000).bind fun c22 => ((if c22.2.failed = true then some true else (zee c9.1 c22.1).bind fun c42 => some (!c42))).bind fun c39 => (if c39 = true then some ([], [], 0, 5) else some (c9.1, c22.1, c22.2.at_, 0)))
def zix  : Option zjn :=
 some (⟨([(⟨(⟨#[102]⟩ : ByteArray), 0, 9, ([(⟨(⟨#[120]⟩ : ByteArray), (⟨(1 : UInt8), 0, (⟨#[]⟩ : ByteArray)⟩ : zbp), 1, []⟩ : zG)] : List zG), ([([(⟨2, 5, ([(⟨(2 : UInt8), 1⟩ : zE)] : List zE)⟩ : zq)] : List zq)] : List (List zq))⟩ : zo)] : List zo), ([(⟨0, 3, ([0] : List Int)⟩ : zB)] : List zB)⟩ : zjn)
def ziE (rec4 : Int → Option (Int × Bool)) (p0 : (List zo)) (p1 : Int) (x21 : Int) : Option (Int × Bool) :=
 (if (decide (x21 < (p0.length : Int))) = true then (zz p0 x21).bind fun y40 => (if ((decide (y40.From ≤ p1)) && (decide (p1 < y40.To))) = true then some (x21, true) else rec4 (IntKind.i64.wrap (x21 + 1))) else some (0, false))
def zg3 (p0 : (List zo)) (p1 : Int) : Nat → Int → Option (Int × Bool)
 | 0, _ => none
 | n + 1, x21 => ziE (zg3 p0 p1 n) p0 p1 x21
def zir (p0 : (List zo)) (p1 : Int) : Option (Int × Bool) :=
 zg3 p0 p1 big 0
def zjm (rec4 : Int → Bool → Int → Option (Int × Bool)) (p0 : (List zo)) (p3 : ByteArray) (y6 : zB) (x53 : Int) (x54 : Bool) (x57 : Int) : Option (Int × Bool) :=
 (if (decide (x57 < (y6.Scope.length : Int))) = true then (zz y6.Scope x57).bind fun y92 => (zz p0 y6.Func).bind fun y97 => ((if ((decide (y92 ≥ 0)) && (decide (y92 < (y97.Vars.length : Int)))) = true then (zz y97.Vars y92).bind fun y113 => some (zbu y113.Name p3) else some false)).bind fun c110 => (if c110 = true then rec4 y92 true (IntKind.i64.wrap (x57 + 1)) else rec4 x53 x54 (IntKind.i64.wrap (x57 + 1))) else some (x53, x54))
def zhN (p0 : (List zo)) (p3 : ByteArray) (y6 : zB) : Nat → Int → Bool → Int → Option (Int × Bool)
 | 0, _, _, _ => none
 | n + 1, x53, x54, x57 => zjm (zhN p0 p3 y6 n) p0 p3 y6 x53 x54 x57
def zjJ (p0 : (List zo)) (p1 : (List zB)) (p2 : Int) (p3 : ByteArray) : Option (Int × Bool) :=
 (if ((decide (p2 < 0)) || (decide (p2 ≥ (p1.length : Int)))) = true then some (0, false) else (zz p1 p2).bind fun y6 => (if ((decide (y6.Func < 0)) || (decide (y6.Func ≥ (p0.length : Int)))) = true then some (0, false) else zhN p0 p3 y6 big 0 false 0))
def zfq  : Option Bool :=
 (zix ).bind fun c1 => (zjl [] c1.L c1.Points).bind fun c14 => (zds c14.1 0).bind fun c25 => (zir c25.1 8).bind fun c37 => (zjJ c25.1 c25.2.1 0 (⟨#[120]⟩ : ByteArray)).bind fun c41 => ((if ((((c14.2 == 0) && ((c14.1.length : Int) == 20)) && (c25.2.2.2 == 0)) && (c25.2.2.1 == 20)) = true then (zeC c25.1 c1.L).bind fun c48 => some c48 else some false)).bind fun c45 => ((if c45 = true then (zez c25.2.1 c1.Points).bind fun c55 => some c55 else some false)).bind fun c52 => some ((((c52 && (c37.1 == 0)) && c37.2) && (c41.1 == 0)) && c41.2)
def zc7 (rec29 : Int → Int → Option Bool) (p0 : (List zE)) (x78 : Int) (x79 : Int) (x188 : Int) : Option Bool :=
 ((if (decide (x188 > 0)) = true then (zz p0 x79).bind fun y192 => some (y192.N != 0) else some false)).bind fun c189 => (if (c189 || (decide (x188 > x78))) = true then some false else (if (decide ((IntKind.i64.wrap ((IntKind.i64.wrap (x78 - x188)) + 1)) > 8)) = true then some false else rec29 (IntKind.i64.wrap ((IntKind.i64.wrap (x78 - x188)) + 1)) (IntKind.i64.wrap (x79 + 1))))
def zfe (rec29 : Int → Int → Option Bool) (p0 : (List zE)) (x78 : Int) (x79 : Int) (y156 : zE) (x220 : Bool) : Option Bool :=
 (if x220 = true then zc7 rec29 p0 x78 x79 1 else (if ((y156.Kind.toNat : Int) == 5) = true then zc7 rec29 p0 x78 x79 2 else some false))
def zeW (rec29 : Int → Int → Option Bool) (p0 : (List zE)) (x78 : Int) (x79 : Int) (y156 : zE) (x201 : Bool) : Option Bool :=
 (if x201 = true then zc7 rec29 p0 x78 x79 0 else (if ((y156.Kind.toNat : Int) == 2) = true then (zz p0 x79).bind fun y204 => ((if (decide (y204.N < 0)) = true then some true else (zz p0 x79).bind fun y212 => some (decide (y212.N > 15)))).bind fun c209 => (if c209 = true then some false else zc7 rec29 p0 x78 x79 0) else (if ((y156.Kind.toNat : Int) == 4) = true then zfe rec29 p0 x78 x79 y156 ((y156.Kind.toNat : Int) == 4) else zfe rec29 p0 x78 x79 y156 ((y156.Kind.toNat : Int) == 6))))
def zd5 (rec29 : Int → Int → Option Bool) (p0 : (List zE)) (x78 : Int) (x79 : Int) : Option Bool :=
 (if (decide (x79 < (p0.length : Int))) = true then (zz p0 x79).bind fun y156 => (if ((y156.Kind.toNat : Int) == 1) = true then zeW rec29 p0 x78 x79 y156 ((y156.Kind.toNat : Int) == 1) else zeW rec29 p0 x78 x79 y156 ((y156.Kind.toNat : Int) == 3)) else ((if (decide ((p0.length : Int) ≤ 16)) = true then (if ((p0.length : Int) == 0) = true then some true else some (x78 == 1)) else some false)).bind fun c225 => some c225)
def zdl (p0 : (List zE)) : Nat → Int → Int → Option Bool
 | 0, _, _ => none
 | n + 1, x78, x79 => zd5 (zdl p0 n) p0 x78 x79
def zfl (p0 : (List zE)) : Option Bool :=
 zdl p0 big 0 0
def zfD (rec4 : Int → Int → Option Bool) (p0 : (List zq)) (x85 : Int) (x86 : Int) : Option Bool :=
 (if (decide (x86 < (p0.length : Int))) = true then (zz p0 x86).bind fun y170 => ((if (decide (y170.From < x85)) = true then some true else (zz p0 x86).bind fun y182 => (zz p0 x86).bind fun y191 => some (decide (y182.To ≤ y191.From)))).bind fun c179 => ((if c179 = true then some true else (zz p0 x86).bind fun y203 => some (decide (y203.To > 16777216)))).bind fun c200 => ((if c200 = true then some true else (zz p0 x86).bind fun y215 => some ((y215.At.length : Int) == 0))).bind fun c212 => ((if c212 = true then some true else (zz p0 x86).bind fun y227 => (zfl y227.At).bind fun c236 => some (!c236))).bind fun c224 => (if c224 = true then some false else (zz p0 x86).bind fun y241 => rec4 y241.To (IntKind.i64.wrap (x86 + 1))) else some (decide ((p0.length : Int) ≤ 4000)))
def zf0 (p0 : (List zq)) : Nat → Int → Int → Option Bool
 | 0, _, _ => none
 | n + 1, x85, x86 => zfD (zf0 p0 n) p0 x85 x86
def zf1 (p0 : (List zq)) : Option Bool :=
 zf0 p0 big 0 0
def zfJ (rec4 : Int → Option Bool) (p0 : ByteArray) (x14 : Int) : Option Bool :=
 (if (decide (x14 < (p0.size : Int))) = true then (zb6 p0 x14).bind fun y29 => ((if ((decide ((y29.toNat : Int) ≥ 97)) && (decide ((y29.toNat : Int) ≤ 122))) = true then some true else (if (decide ((y29.toNat : Int) ≥ 65)) = true then some (decide ((y29.toNat : Int) ≤ 90)) else some false))).bind fun c31 => ((if c31 = true then some true else (if (decide ((y29.toNat : Int) ≥ 48)) = true then some (decide ((y29.toNat : Int) ≤ 57)) else some false))).bind fun c35 => (if (!(c35 || ((y29.toNat : Int) == 95))) = true then some false else rec4 (IntKind.i64.wrap (x14 + 1))) else some ((decide ((p0.size : Int) ≥ 1)) && (decide ((p0.size : Int) ≤ 24))))
def zfB (p0 : ByteArray) : Nat → Int → Option Bool
 | 0, _ => none
 | n + 1, x14 => zfJ (zfB p0 n) p0 x14
def zdO (p0 : ByteArray) : Option Bool :=
 zfB p0 big 0
def zgf (rec6 : Int → Option Bool) (p0 : zG) (x34 : Int) : Option Bool :=
 (if (decide (x34 < (p0.Fields.length : Int))) = true then (zz p0.Fields x34).bind fun y55 => (zdO y55).bind fun c60 => (if (!c60) = true then some false else rec6 (IntKind.i64.wrap (x34 + 1))) else ((if (p0.Type_.N == 0) = true then (zdO p0.Type_.Name).bind fun c68 => some c68 else some false)).bind fun c65 => some (((c65 && (decide ((p0.Fields.length : Int) ≥ 1))) && (decide ((p0.Fields.length : Int) ≤ 8))) && (p0.Words == (p0.Fields.length : Int))))
def zgE (p0 : zG) : Nat → Int → Option Bool
 | 0, _ => none
 | n + 1, x34 => zgf (zgE p0 n) p0 x34
def zeJ (p0 : zG) (x10 : Bool) : Option Bool :=
 (if x10 = true then some ((((p0.Type_.N == 0) && (zbu p0.Type_.Name (⟨#[]⟩ : ByteArray))) && (p0.Words == 1)) && ((p0.Fields.length : Int) == 0)) else (if ((p0.Type_.Kind.toNat : Int) == 3) = true then some (((((decide (p0.Type_.N ≥ 1)) && (decide (p0.Type_.N ≤ 16))) && (zbu p0.Type_.Name (⟨#[]⟩ : ByteArray))) && (p0.Words == p0.Type_.N)) && ((p0.Fields.length : Int) == 0)) else (if ((p0.Type_.Kind.toNat : Int) == 4) = true then zgE p0 big 0 else some false)))
def zem (p0 : zG) : Option Bool :=
 (zdO p0.Name).bind fun c3 => (if (!c3) = true then some false else (if ((p0.Type_.Kind.toNat : Int) == 1) = true then zeJ p0 ((p0.Type_.Kind.toNat : Int) == 1) else zeJ p0 ((p0.Type_.Kind.toNat : Int) == 2)))
def zgc (rec4 : Int → Option Bool) (p0 : zo) (x67 : Int) : Option Bool :=
 (if (decide (x67 < (p0.Vars.length : Int))) = true then (zz p0.Spans x67).bind fun y124 => (zz p0.Vars x67).bind fun y133 => (zem (⟨y133.Name, (⟨y133.Type_.Kind, y133.Type_.N, y133.Type_.Name⟩ : zbp), y133.Words, y133.Fields⟩ : zG)).bind fun c142 => ((if (!c142) = true then some true else (zf1 y124).bind fun c149 => some (!c149))).bind fun c146 => (if c146 = true then some false else ((if (decide ((y124.length : Int) > 0)) = true then (zz y124 0).bind fun y157 => (if (decide (y157.From < p0.From)) = true then some true else (zz y124 (IntKind.i64.wrap ((y124.length : Int) - 1))).bind fun y167 => some (decide (y167.To > p0.To))) else some false)).bind fun c154 => (if c154 = true then some false else rec4 (IntKind.i64.wrap (x67 + 1)))) else some true)
def zgS (p0 : zo) : Nat → Int → Option Bool
 | 0, _ => none
 | n + 1, x67 => zgc (zgS p0 n) p0 x67
def zek (p0 : zo) (p1 : Int) : Option Bool :=
 (zdO p0.Name).bind fun c4 => (if ((((((!c4) || (decide (p0.From < p1))) || (decide (p0.To ≤ p0.From))) || (decide (p0.To > 16777216))) || (decide ((p0.Vars.length : Int) > 64))) || ((p0.Spans.length : Int) != (p0.Vars.length : Int))) = true then some false else zgS p0 big 0)
def zgu (rec52 : Int → Int → Option Bool) (rec50 : Int → Option Bool) (p0 : (List zo)) (x962 : Int) (y1085 : zB) (x1135 : Int) (x1136 : Int) : Option Bool :=
 (if (decide (x1136 < (y1085.Scope.length : Int))) = true then (zz y1085.Scope x1136).bind fun y1172 => ((if (decide (y1172 ≤ x1135)) = true then some true else (zz y1085.Scope x1136).bind fun y1180 => (zz p0 y1085.Func).bind fun y1185 => some (decide (y1180 ≥ (y1185.Vars.length : Int))))).bind fun c1177 => (if c1177 = true then some false else (zz y1085.Scope x1136).bind fun y1199 => rec52 y1199 (IntKind.i64.wrap (x1136 + 1))) else rec50 (IntKind.i64.wrap (x962 + 1)))
def zfR (rec50 : Int → Option Bool) (p0 : (List zo)) (x962 : Int) (y1085 : zB) : Nat → Int → Int → Option Bool
 | 0, _, _ => none
 | n + 1, x1135, x1136 => zgu (zfR rec50 p0 x962 y1085 n) rec50 p0 x962 y1085 x1135 x1136
def zfG (rec50 : Int → Option Bool) (p0 : (List zo)) (p1 : (List zB)) (x962 : Int) : Option Bool :=
 (if (decide (x962 < (p1.length : Int))) = true then (zz p1 x962).bind fun y1085 => (if ((((decide (y1085.Func < 0)) || (decide (y1085.Func ≥ (p0.length : Int)))) || (decide (y1085.Line < 1))) || (decide (y1085.Line > 1048576))) = true then some false else zfR rec50 p0 x962 y1085 big (-1) 0) else some ((decide ((p0.length : Int) ≤ 64)) && (decide ((p1.length : Int) ≤ 1000))))
def zc6 (p0 : (List zo)) (p1 : (List zB)) : Nat → Int → Option Bool
 | 0, _ => none
 | n + 1, x962 => zfG (zc6 p0 p1 n) p0 p1 x962
def zgx (rec44 : Int → Int → Option Bool) (p0 : (List zo)) (p1 : (List zB)) (x405 : Int) (x406 : Int) : Option Bool :=
 (if (decide (x406 < (p0.length : Int))) = true then (zz p0 x406).bind fun y807 => (zek (⟨y807.Name, y807.From, y807.To, y807.Vars, y807.Spans⟩ : zo) x405).bind fun c820 => (if (!c820) = true then some false else (zz p0 x406).bind fun y825 => rec44 y825.To (IntKind.i64.wrap (x406 + 1))) else zc6 p0 p1 big 0)
def zfj (p0 : (List zo)) (p1 : (List zB)) : Nat → Int → Int → Option Bool
 | 0, _, _ => none
 | n + 1, x405, x406 => zgx (zfj p0 p1 n) p0 p1 x405 x406
def zeq (p0 : (List zo)) (p1 : (List zB)) : Option Bool :=
 zfj p0 p1 big 0 0
def zgg (p0 : Int) (p1 : Int) : Option Bool :=
 ((if (decide ((IntKind.i64.wrap (7 * p1)) ≥ 64)) = true then some true else (zbU .u64 1 (IntKind.u64.wrap (IntKind.i64.wrap (7 * p1)))).bind fun y6 => some (decide (p0 < y6)))).bind fun c3 => some c3
def zf5 (rec4 : (List UInt8) → Int → Option (List UInt8)) (p0 : (List UInt8)) (x18 : List UInt8) (x21 : Int) : Option (List UInt8) :=
 (if (decide (x21 < (p0.length : Int))) = true then (zz p0 x21).bind fun y35 => (room (x18.length + 1)).bind fun _ => rec4 (x18 ++ [y35]) (IntKind.i64.wrap (x21 + 1)) else some x18)
def ze2 (p0 : (List UInt8)) : Nat → (List UInt8) → Int → Option (List UInt8)
 | 0, _, _ => none
 | n + 1, x18, x21 => zf5 (ze2 p0 n) p0 x18 x21
def zhk (p0 : (List UInt8)) : Option (List UInt8) :=
 ze2 p0 big ([]) 0
def zgm (rec9 : Int → (List UInt8) → Int → Option (List UInt8)) (p3 : Int) (x41 : Int) (x47 : Int) (x73 : Int) (x77 : List UInt8) : Option (List UInt8) :=
 (if (decide (x47 < (IntKind.i64.wrap (p3 - 1)))) = true then (u8o (IntKind.u8.wrap (IntKind.u64.wrap ((Int.tmod x41 128) + 128)))).bind fun z80 => (room (x77.length + 1)).bind fun _ => rec9 x73 (x77 ++ [z80]) (IntKind.i64.wrap (x47 + 1)) else (u8o (IntKind.u8.wrap (Int.tmod x41 128))).bind fun z86 => (room (x77.length + 1)).bind fun _ => rec9 x73 (x77 ++ [z86]) (IntKind.i64.wrap (x47 + 1)))
def zfz (rec9 : Int → (List UInt8) → Int → Option (List UInt8)) (p2 : Bool) (p3 : Int) (x41 : Int) (x45 : List UInt8) (x47 : Int) : Option (List UInt8) :=
 (if (decide (x47 < p3)) = true then (if p2 = true then zgm rec9 p3 x41 x47 (orI .u64 (IntKind.u64.wrap (Int.tdiv x41 128)) 18302628885633695744) x45 else zgm rec9 p3 x41 x47 (IntKind.u64.wrap (Int.tdiv x41 128)) x45) else some x45)
def zdj (p2 : Bool) (p3 : Int) : Nat → Int → (List UInt8) → Int → Option (List UInt8)
 | 0, _, _, _ => none
 | n + 1, x41, x45, x47 => zfz (zdj p2 p3 n) p2 p3 x41 x45 x47
def zeg (p0 : (List UInt8)) (p1 : Int) (p2 : Bool) (p3 : Int) : Option (List UInt8) :=
 (zhk p0).bind fun c5 => zdj p2 p3 big p1 c5 0
def zga (rec4 : Int → Option (List UInt8)) (p0 : (List UInt8)) (p1 : Int) (x19 : Int) : Option (List UInt8) :=
 (zgg p1 x19).bind fun c35 => (if (!c35) = true then rec4 (IntKind.i64.wrap (x19 + 1)) else (zeg p0 p1 false x19).bind fun c40 => some c40)
def zeL (p0 : (List UInt8)) (p1 : Int) : Nat → Int → Option (List UInt8)
 | 0, _ => none
 | n + 1, x19 => zga (zeL p0 p1 n) p0 p1 x19
def zhh (p0 : (List UInt8)) (p1 : Int) : Option (List UInt8) :=
 zeL p0 p1 big 1
def zgG (p0 : Int) (p1 : Int) : Option Bool :=
 (if (decide ((IntKind.i64.wrap ((IntKind.i64.wrap (7 * p1)) - 1)) ≥ 63)) = true then some true else (zbU .i64 1 (IntKind.u64.wrap (IntKind.i64.wrap ((IntKind.i64.wrap (7 * p1)) - 1)))).bind fun y4 => ((if (decide (p0 ≥ (IntKind.i64.wrap (0 - y4)))) = true then (zbU .i64 1 (IntKind.u64.wrap (IntKind.i64.wrap ((IntKind.i64.wrap (7 * p1)) - 1)))).bind fun y9 => some (decide (p0 < y9)) else some false)).bind fun c6 => some c6)
def zfo (rec4 : Int → Option (List UInt8)) (p0 : (List UInt8)) (p1 : Int) (x19 : Int) : Option (List UInt8) :=
 (zgG p1 x19).bind fun c35 => (if (!c35) = true then rec4 (IntKind.i64.wrap (x19 + 1)) else (zeg p0 (IntKind.u64.wrap p1) (decide (p1 < 0)) x19).bind fun c40 => some c40)
def zfx (p0 : (List UInt8)) (p1 : Int) : Nat → Int → Option (List UInt8)
 | 0, _ => none
 | n + 1, x19 => zfo (zfx p0 p1 n) p0 p1 x19
def zhE (p0 : (List UInt8)) (p1 : Int) : Option (List UInt8) :=
 zfx p0 p1 big 1
def zfr (rec4 : Int → Option Bool) (p1 : (List UInt8)) (y4 : (List UInt8)) (x27 : Int) : Option Bool :=
 (if (decide (x27 < (y4.length : Int))) = true then (zz y4 x27).bind fun y44 => (if (decide (x27 < (p1.length : Int))) = true then (zz p1 x27).bind fun y50 => (if ((y44.toNat : Int) != (y50.toNat : Int)) = true then some false else rec4 (IntKind.i64.wrap (x27 + 1))) else (if ((y44.toNat : Int) != (IntKind.u8.wrap (IntKind.i64.wrap ((IntKind.i64.wrap (8 + (p1.length : Int))) - x27)))) = true then some false else rec4 (IntKind.i64.wrap (x27 + 1)))) else some true)
def zgk (p1 : (List UInt8)) (y4 : (List UInt8)) : Nat → Int → Option Bool
 | 0, _ => none
 | n + 1, x27 => zfr (zgk p1 y4 n) p1 y4 x27
def zgr (p0 : (List UInt8)) (q0 : (List UInt8)) (p1 : (List UInt8)) : Option Bool :=
 (if (((p0.length : Int) != (p1.length : Int)) || (decide ((q0.length : Int) < (IntKind.i64.wrap ((p0.length : Int) + 8))))) = true then some false else (zb0 q0 0 (IntKind.i64.wrap ((p0.length : Int) + 8))).bind fun y4 => zgk p1 y4 big 0)
def zeK (rec4 : Int → Option Int) (p0 : (List UInt8)) (p1 : Int) (x12 : Int) : Option Int :=
 (if ((decide (x12 < 10)) && (decide ((IntKind.i64.wrap (p1 + x12)) < (p0.length : Int)))) = true then (zz p0 (IntKind.i64.wrap (p1 + x12))).bind fun y22 => (if (decide ((y22.toNat : Int) < 128)) = true then some (IntKind.i64.wrap (x12 + 1)) else rec4 (IntKind.i64.wrap (x12 + 1))) else some 0)
def zfE (p0 : (List UInt8)) (p1 : Int) : Nat → Int → Option Int
 | 0, _ => none
 | n + 1, x12 => zeK (zfE p0 p1 n) p0 p1 x12
def zfp (p0 : (List UInt8)) (p1 : Int) : Option Int :=
 zfE p0 p1 big 0
def zf6 (rec4 : Int → Int → Option Int) (p0 : (List UInt8)) (p1 : Int) (x12 : Int) (x13 : Int) : Option Int :=
 (if (decide (x13 ≥ 0)) = true then (zz p0 (IntKind.i64.wrap (p1 + x13))).bind fun y22 => rec4 (IntKind.u64.wrap ((IntKind.u64.wrap (128 * x12)) + (IntKind.u64.wrap (Int.tmod (y22.toNat : Int) 128)))) (IntKind.i64.wrap (x13 - 1)) else some x12)
def zfC (p0 : (List UInt8)) (p1 : Int) : Nat → Int → Int → Option Int
 | 0, _, _ => none
 | n + 1, x12, x13 => zf6 (zfC p0 p1 n) p0 p1 x12 x13
def zec (p0 : (List UInt8)) (p1 : Int) (p2 : Int) : Option Int :=
 zfC p0 p1 big 0 (IntKind.i64.wrap (p2 - 1))
def ze0 (rec4 : Int → Option Bool) (p0 : (List UInt8)) (p1 : Int) (p2 : (List UInt8)) (x21 : Int) : Option Bool :=
 (if (decide (x21 < (p2.length : Int))) = true then (zz p0 (IntKind.i64.wrap (p1 + x21))).bind fun y36 => (zz p2 x21).bind fun y41 => (if ((y36.toNat : Int) != (y41.toNat : Int)) = true then some false else rec4 (IntKind.i64.wrap (x21 + 1))) else some true)
def zeX (p0 : (List UInt8)) (p1 : Int) (p2 : (List UInt8)) : Nat → Int → Option Bool
 | 0, _ => none
 | n + 1, x21 => ze0 (zeX p0 p1 p2 n) p0 p1 p2 x21
def zeo (p0 : (List UInt8)) (p1 : Int) (p2 : (List UInt8)) : Option Bool :=
 (if (decide ((p2.length : Int) > (IntKind.i64.wrap ((p0.length : Int) - p1)))) = true then some false else zeX p0 p1 p2 big 0)
def zc8 (p0 : (List UInt8)) (p1 : Int) : Option (Int × Int × Int) :=
 (if ((decide (p1 < 0)) || (decide (p1 > (p0.length : Int)))) = true then some (0, 0, 1) else (zfp p0 p1).bind fun c4 => (zec p0 p1 c4).bind fun c8 => ((if (c4 == 0) = true then some true else (zhh [] c8).bind fun c15 => (zeo p0 p1 c15).bind fun c26 => some (!c26))).bind fun c12 => (if c12 = true then some (0, 0, 5) else some (c8, (IntKind.i64.wrap (p1 + c4)), 0)))
def zbV (q0 : zI) (p1 : Int) : Option (Int × zI) :=
 (if q0.Failed = true then some (0, (⟨q0.B, q0.At, q0.Failed⟩ : zI)) else (zc8 q0.B q0.At).bind fun c4 => (if ((c4.2.2 != 0) || (decide (c4.1 > (IntKind.u64.wrap p1)))) = true then some (0, (⟨q0.B, q0.At, true⟩ : zI)) else some ((IntKind.i64.wrap c4.1), (⟨q0.B, c4.2.1, q0.Failed⟩ : zI))))
def zcD (p0 : (List UInt8)) (p1 : Int) (p2 : Int) : Option Int :=
 (if ((decide (p1 < 0)) || (decide (p1 > (p0.length : Int)))) = true then some 1 else (if (decide ((IntKind.i64.wrap ((p0.length : Int) - p1)) < p2)) = true then some 5 else some 0))
def zcW (p0 : (List UInt8)) (p1 : Int) : Option (Int × Int × Int) :=
 (zcD p0 p1 1).bind fun c3 => (if (c3 != 0) = true then some (0, 0, c3) else (zz p0 p1).bind fun y8 => some ((y8.toNat : Int), (IntKind.i64.wrap (p1 + 1)), 0))
def zfX (rec6 : ByteArray → Int → Option (ByteArray × Int × Int)) (p0 : (List UInt8)) (c3 : Int × Int × Int) (x25 : ByteArray) (x26 : Int) : Option (ByteArray × Int × Int) :=
 (if (decide (x26 < (IntKind.i64.wrap c3.1))) = true then (zb0 p0 (IntKind.i64.wrap (c3.2.1 + x26)) (IntKind.i64.wrap ((IntKind.i64.wrap (c3.2.1 + x26)) + 1))).bind fun y37 => (zgj x25 (⟨y37.toArray⟩ : ByteArray)).bind fun y42 => rec6 y42 (IntKind.i64.wrap (x26 + 1)) else some (x25, (IntKind.i64.wrap (c3.2.1 + (IntKind.i64.wrap c3.1))), 0))
def zgs (p0 : (List UInt8)) (c3 : Int × Int × Int) : Nat → ByteArray → Int → Option (ByteArray × Int × Int)
 | 0, _, _ => none
 | n + 1, x25, x26 => zfX (zgs p0 c3 n) p0 c3 x25 x26
def zhG (p0 : (List UInt8)) (c3 : Int × Int × Int) (x13 : Int) : Option (ByteArray × Int × Int) :=
 (if (x13 != 0) = true then some ((⟨#[]⟩ : ByteArray), 0, x13) else zgs p0 c3 big (⟨#[]⟩ : ByteArray) 0)
def zcp (p0 : (List UInt8)) (p1 : Int) : Option (ByteArray × Int × Int) :=
 (zcW p0 p1).bind fun c3 => (if (c3.2.2 == 0) = true then (zcD p0 c3.2.1 (IntKind.i64.wrap c3.1)).bind fun c45 => zhG p0 c3 c45 else zhG p0 c3 c3.2.2)
def zdc (q0 : zI) : Option (ByteArray × zI) :=
 (zcp q0.B q0.At).bind fun c2 => (if (q0.Failed || (c2.2.2 != 0)) = true then some ((⟨#[]⟩ : ByteArray), (⟨q0.B, q0.At, true⟩ : zI)) else some (c2.1, (⟨q0.B, c2.2.1, q0.Failed⟩ : zI)))
def zeG (q0 : zI) : Option (Int × zI) :=
 (if (q0.Failed || (decide (q0.At ≥ (q0.B.length : Int)))) = true then some (0, (⟨q0.B, q0.At, true⟩ : zI)) else (zz q0.B (IntKind.i64.wrap ((IntKind.i64.wrap (q0.At + 1)) - 1))).bind fun y3 => some ((y3.toNat : Int), (⟨q0.B, (IntKind.i64.wrap (q0.At + 1)), q0.Failed⟩ : zI)))
def zi3 (rec4 : (List UInt8) → Int → Bool → (List ByteArray) → Int → Option (zG × zI)) (c3 : ByteArray × zI) (c11 : Int × zI) (c31 : ByteArray × zI) (c39 : Int × zI) (x70 : List UInt8) (x72 : Int) (x73 : Bool) (x77 : List ByteArray) (x79 : Int) : Option (zG × zI) :=
 (if ((decide (x79 < c39.1)) && (!x73)) = true then (zdc (⟨x70, x72, x73⟩ : zI)).bind fun c103 => (room (x77.length + ([c103.1] : List ByteArray).length)).bind fun _ => rec4 c103.2.B c103.2.At c103.2.Failed (x77 ++ ([c103.1] : List ByteArray)) (IntKind.i64.wrap (x79 + 1)) else (u8o c11.1).bind fun z122 => some ((⟨c3.1, (⟨z122, 0, c31.1⟩ : zbp), c39.1, x77⟩ : zG), (⟨x70, x72, x73⟩ : zI)))
def zfY (c3 : ByteArray × zI) (c11 : Int × zI) (c31 : ByteArray × zI) (c39 : Int × zI) : Nat → (List UInt8) → Int → Bool → (List ByteArray) → Int → Option (zG × zI)
 | 0, _, _, _, _, _ => none
 | n + 1, x70, x72, x73, x77, x79 => zi3 (zfY c3 c11 c31 c39 n) c3 c11 c31 c39 x70 x72 x73 x77 x79
def zeY (q0 : zI) : Option (zG × zI) :=
 (zdc (⟨q0.B, q0.At, q0.Failed⟩ : zI)).bind fun c3 => (zeG (⟨c3.2.B, c3.2.At, c3.2.Failed⟩ : zI)).bind fun c11 => (if (c11.1 == 3) = true then (zbV (⟨c11.2.B, c11.2.At, c11.2.Failed⟩ : zI) 16).bind fun c21 => (u8o c11.1).bind fun z29 => some ((⟨c3.1, (⟨z29, c21.1, (⟨#[]⟩ : ByteArray)⟩ : zbp), c21.1, []⟩ : zG), (⟨c21.2.B, c21.2.At, c21.2.Failed⟩ : zI)) else (if (c11.1 == 4) = true then (zdc (⟨c11.2.B, c11.2.At, c11.2.Failed⟩ : zI)).bind fun c31 => (zbV (⟨c31.2.B, c31.2.At, c31.2.Failed⟩ : zI) 8).bind fun c39 => zfY c3 c11 c31 c39 big c39.2.B c39.2.At c39.2.Failed ([]) 0 else (u8o c11.1).bind fun z123 => some ((⟨c3.1, (⟨z123, 0, (⟨#[]⟩ : ByteArray)⟩ : zbp), 1, []⟩ : zG), (⟨c11.2.B, c11.2.At, c11.2.Failed⟩ : zI))))
def zc4 (p0 : (List UInt8)) (p1 : Int) : Option (Int × Int × Bool) :=
 (zc8 p0 p1).bind fun c3 => (if ((c3.2.2 != 0) || (decide (c3.1 > 16777216))) = true then some (0, 0, false) else some ((IntKind.i64.wrap c3.1), c3.2.1, true))
def zeh (p0 : (List UInt8)) (p1 : Int) (c4 : Int) (x22 : Int) : Option (Int × Int × Int) :=
 (zhE [] (IntKind.i64.wrap x22)).bind fun c23 => (zeo p0 p1 c23).bind fun c34 => (if (!c34) = true then some (0, 0, 5) else some ((IntKind.i64.wrap x22), (IntKind.i64.wrap (p1 + c4)), 0))
def zei (p0 : (List UInt8)) (p1 : Int) : Option (Int × Int × Int) :=
 (if ((decide (p1 < 0)) || (decide (p1 > (p0.length : Int)))) = true then some (0, 0, 1) else (zfp p0 p1).bind fun c4 => (if (c4 == 0) = true then some (0, 0, 5) else (zec p0 p1 c4).bind fun c9 => (zz p0 (IntKind.i64.wrap ((IntKind.i64.wrap (p1 + c4)) - 1))).bind fun y13 => (if ((decide ((y13.toNat : Int) ≥ 64)) && (decide (c4 < 10))) = true then (zbU .u64 1 (IntKind.u64.wrap (IntKind.i64.wrap (7 * c4)))).bind fun y40 => zeh p0 p1 c4 (IntKind.u64.wrap (c9 - y40)) else zeh p0 p1 c4 c9)))
def zd1 (rec4 : Int → (List zE) → Int → Option ((List zE) × Int × Int)) (p0 : (List UInt8)) (c4 : Int × Int × Int) (x42 : Int) (x46 : List zE) (x48 : Int) : Option ((List zE) × Int × Int) :=
 (if (decide (x48 < (IntKind.i64.wrap c4.1))) = true then (if (decide (x42 ≥ (p0.length : Int))) = true then some ([], 0, 5) else (zz p0 x42).bind fun y83 => (if ((((y83.toNat : Int) == 1) || ((y83.toNat : Int) == 2)) || ((y83.toNat : Int) == 3)) = true then (zei p0 (IntKind.i64.wrap (x42 + 1))).bind fun c90 => (if (c90.2.2 != 0) = true then some ([], 0, 5) else (room (x46.length + 1)).bind fun _ => rec4 c90.2.1 (x46 ++ [(⟨y83, c90.1⟩ : zE)]) (IntKind.i64.wrap (x48 + 1))) else (room (x46.length + 1)).bind fun _ => rec4 (IntKind.i64.wrap (x42 + 1)) (x46 ++ [(⟨y83, 0⟩ : zE)]) (IntKind.i64.wrap (x48 + 1)))) else (zfl x46).bind fun c107 => (if (!c107) = true then some ([], 0, 5) else some (x46, x42, 0)))
def zgU (p0 : (List UInt8)) (c4 : Int × Int × Int) : Nat → Int → (List zE) → Int → Option ((List zE) × Int × Int)
 | 0, _, _, _ => none
 | n + 1, x42, x46, x48 => zd1 (zgU p0 c4 n) p0 c4 x42 x46 x48
def zgM (p0 : (List UInt8)) (p1 : Int) : Option ((List zE) × Int × Int) :=
 (if ((decide (p1 < 0)) || (decide (p1 > (p0.length : Int)))) = true then some ([], 0, 1) else (zc8 p0 p1).bind fun c4 => (if ((c4.2.2 != 0) || (decide (c4.1 > 16))) = true then some ([], 0, 5) else zgU p0 c4 big c4.2.1 ([]) 0))
def zdB (rec4 : Int → (List zq) → Int → Int → Option ((List zq) × Int × Int)) (p0 : (List UInt8)) (c4 : Int × Int × Bool) (x43 : Int) (x47 : List zq) (x49 : Int) (x50 : Int) : Option ((List zq) × Int × Int) :=
 (if (decide (x50 < c4.1)) = true then (zc4 p0 x43).bind fun c86 => (if (!c86.2.2) = true then some ([], 0, 5) else (zc4 p0 c86.2.1).bind fun c91 => (if (!c91.2.2) = true then some ([], 0, 5) else (zgM p0 c91.2.1).bind fun c96 => (if (c96.2.2 != 0) = true then some ([], 0, 5) else (room (x47.length + 1)).bind fun _ => (if (decide ((IntKind.i64.wrap ((IntKind.i64.wrap (x49 + c86.1)) + c91.1)) > 16777216)) = true then some ([], 0, 5) else rec4 c96.2.1 (x47 ++ [(⟨(IntKind.i64.wrap (x49 + c86.1)), (IntKind.i64.wrap ((IntKind.i64.wrap (x49 + c86.1)) + c91.1)), c96.1⟩ : zq)]) (IntKind.i64.wrap ((IntKind.i64.wrap (x49 + c86.1)) + c91.1)) (IntKind.i64.wrap (x50 + 1)))))) else (zf1 x47).bind fun c113 => (if (!c113) = true then some ([], 0, 5) else some (x47, x43, 0)))
def ze9 (p0 : (List UInt8)) (c4 : Int × Int × Bool) : Nat → Int → (List zq) → Int → Int → Option ((List zq) × Int × Int)
 | 0, _, _, _, _ => none
 | n + 1, x43, x47, x49, x50 => zdB (ze9 p0 c4 n) p0 c4 x43 x47 x49 x50
def zgK (p0 : (List UInt8)) (p1 : Int) : Option ((List zq) × Int × Int) :=
 (if ((decide (p1 < 0)) || (decide (p1 > (p0.length : Int)))) = true then some ([], 0, 1) else (zc4 p0 p1).bind fun c4 => (if ((!c4.2.2) || (decide (c4.1 > 4000))) = true then some ([], 0, 5) else ze9 p0 c4 big c4.2.1 ([]) 0 0))
def zgw (q0 : zI) : Option ((List zq) × zI) :=
 (if q0.Failed = true then some ([], (⟨q0.B, q0.At, q0.Failed⟩ : zI)) else (zgK q0.B q0.At).bind fun c3 => (if (c3.2.2 != 0) = true then some ([], (⟨q0.B, q0.At, true⟩ : zI)) else some (c3.1, (⟨q0.B, c3.2.1, q0.Failed⟩ : zI))))
def zeN (rec85 : (List UInt8) → Int → Bool → (List zo) → (List zG) → (List (List zq)) → Int → Option ((List zo) × (List zB) × Int × Int)) (rec82 : (List UInt8) → Int → Bool → (List zo) → Int → Int → Option ((List zo) × (List zB) × Int × Int)) (x666 : Int) (x667 : Int) (c1369 : ByteArray × zI) (c1378 : Int × zI) (c1386 : Int × zI) (c1402 : Int × zI) (x1472 : List UInt8) (x1474 : Int) (x1475 : Bool) (x1479 : List zo) (x1484 : List zG) (x1489 : List (List zq)) (x1491 : Int) : Option ((List zo) × (List zB) × Int × Int) :=
 (if ((decide (x1491 < c1402.1)) && (!x1475)) = true then (zeY (⟨x1472, x1474, x1475⟩ : zI)).bind fun c1550 => (room (x1484.length + ([(⟨c1550.1.Name, (⟨c1550.1.Type_.Kind, c1550.1.Type_.N, c1550.1.Type_.Name⟩ : zbp), c1550.1.Words, c1550.1.Fields⟩ : zG)] : List zG).length)).bind fun _ => (zgw (⟨c1550.2.B, c1550.2.At, c1550.2.Failed⟩ : zI)).bind fun c1573 => (room (x1489.length + ([c1573.1] : List (List zq)).length)).bind fun _ => rec85 c1573.2.B c1573.2.At c1573.2.Failed x1479 (x1484 ++ ([(⟨c1550.1.Name, (⟨c1550.1.Type_.Kind, c1550.1.Type_.N, c1550.1.Type_.Name⟩ : zbp), c1550.1.Words, c1550.1.Fields⟩ : zG)] : List zG)) (x1489 ++ ([c1573.1] : List (List zq))) (IntKind.i64.wrap (x1491 + 1)) else (room (x1479.length + 1)).bind fun _ => rec82 x1472 x1474 x1475 (x1479 ++ [(⟨c1369.1, (IntKind.i64.wrap (x666 + c1378.1)), (IntKind.i64.wrap ((IntKind.i64.wrap (x666 + c1378.1)) + c1386.1)), x1484, x1489⟩ : zo)]) (IntKind.i64.wrap ((IntKind.i64.wrap (x666 + c1378.1)) + c1386.1)) (IntKind.i64.wrap (x667 + 1)))
def zdD (rec82 : (List UInt8) → Int → Bool → (List zo) → Int → Int → Option ((List zo) × (List zB) × Int × Int)) (x666 : Int) (x667 : Int) (c1369 : ByteArray × zI) (c1378 : Int × zI) (c1386 : Int × zI) (c1402 : Int × zI) : Nat → (List UInt8) → Int → Bool → (List zo) → (List zG) → (List (List zq)) → Int → Option ((List zo) × (List zB) × Int × Int)
 | 0, _, _, _, _, _, _, _ => none
 | n + 1, x1472, x1474, x1475, x1479, x1484, x1489, x1491 => zeN (zdD rec82 x666 x667 c1369 c1378 c1386 c1402 n) rec82 x666 x667 c1369 c1378 c1386 c1402 x1472 x1474 x1475 x1479 x1484 x1489 x1491
def zdn (rec82 : (List UInt8) → Int → Bool → (List zo) → Int → Int → Option ((List zo) × (List zB) × Int × Int)) (x666 : Int) (x667 : Int) (c1369 : ByteArray × zI) (c1378 : Int × zI) (c1386 : Int × zI) (x1396 : Bool) (x1400 : List zo) : Option ((List zo) × (List zB) × Int × Int) :=
 (zbV (⟨c1386.2.B, c1386.2.At, x1396⟩ : zI) 64).bind fun c1402 => zdD rec82 x666 x667 c1369 c1378 c1386 c1402 big c1402.2.B c1402.2.At c1402.2.Failed x1400 ([]) ([]) 0
def zi6 (rec93 : (List UInt8) → Int → Bool → (List zo) → (List zB) → (List Int) → Int → Option ((List zo) × (List zB) × Int × Int)) (rec91 : (List UInt8) → Int → Bool → (List zo) → (List zB) → Int → Option ((List zo) × (List zB) × Int × Int)) (x1773 : Int) (c1922 : Int × zI) (c1930 : Int × zI) (c1939 : Int × zI) (x1984 : List UInt8) (x1986 : Int) (x1987 : Bool) (x1991 : List zo) (x1996 : List zB) (x2001 : List Int) (x2003 : Int) : Option ((List zo) × (List zB) × Int × Int) :=
 (if ((decide (x2003 < c1939.1)) && (!x1987)) = true then (zbV (⟨x1984, x1986, x1987⟩ : zI) 64).bind fun c2031 => (room (x2001.length + ([c2031.1] : List Int).length)).bind fun _ => rec93 c2031.2.B c2031.2.At c2031.2.Failed x1991 x1996 (x2001 ++ ([c2031.1] : List Int)) (IntKind.i64.wrap (x2003 + 1)) else (room (x1996.length + 1)).bind fun _ => rec91 x1984 x1986 x1987 x1991 (x1996 ++ [(⟨c1922.1, c1930.1, x2001⟩ : zB)]) (IntKind.i64.wrap (x1773 + 1)))
def zfi (rec91 : (List UInt8) → Int → Bool → (List zo) → (List zB) → Int → Option ((List zo) × (List zB) × Int × Int)) (x1773 : Int) (c1922 : Int × zI) (c1930 : Int × zI) (c1939 : Int × zI) : Nat → (List UInt8) → Int → Bool → (List zo) → (List zB) → (List Int) → Int → Option ((List zo) × (List zB) × Int × Int)
 | 0, _, _, _, _, _, _, _ => none
 | n + 1, x1984, x1986, x1987, x1991, x1996, x2001, x2003 => zi6 (zfi rec91 x1773 c1922 c1930 c1939 n) rec91 x1773 c1922 c1930 c1939 x1984 x1986 x1987 x1991 x1996 x2001 x2003
def zeP (rec91 : (List UInt8) → Int → Bool → (List zo) → (List zB) → Int → Option ((List zo) × (List zB) × Int × Int)) (c1606 : Int × zI) (x1759 : List UInt8) (x1761 : Int) (x1762 : Bool) (x1766 : List zo) (x1771 : List zB) (x1773 : Int) : Option ((List zo) × (List zB) × Int × Int) :=
 (if ((decide (x1773 < c1606.1)) && (!x1762)) = true then (zbV (⟨x1759, x1761, x1762⟩ : zI) 64).bind fun c1922 => (zbV (⟨c1922.2.B, c1922.2.At, c1922.2.Failed⟩ : zI) 1048576).bind fun c1930 => (zbV (⟨c1930.2.B, c1930.2.At, c1930.2.Failed⟩ : zI) 64).bind fun c1939 => zfi rec91 x1773 c1922 c1930 c1939 big c1939.2.B c1939.2.At c1939.2.Failed x1766 x1771 ([]) 0 else ((if x1762 = true then some true else (zeq x1766 x1771).bind fun c2062 => some (!c2062))).bind fun c2059 => (if c2059 = true then some ([], [], 0, 5) else some (x1766, x1771, x1761, 0)))
def zcj (c1606 : Int × zI) : Nat → (List UInt8) → Int → Bool → (List zo) → (List zB) → Int → Option ((List zo) × (List zB) × Int × Int)
 | 0, _, _, _, _, _, _ => none
 | n + 1, x1759, x1761, x1762, x1766, x1771, x1773 => zeP (zcj c1606 n) c1606 x1759 x1761 x1762 x1766 x1771 x1773
def zgz (rec82 : (List UInt8) → Int → Bool → (List zo) → Int → Int → Option ((List zo) × (List zB) × Int × Int)) (c5 : Int × zI) (x657 : List UInt8) (x659 : Int) (x660 : Bool) (x664 : List zo) (x666 : Int) (x667 : Int) : Option ((List zo) × (List zB) × Int × Int) :=
 (if ((decide (x667 < c5.1)) && (!x660)) = true then (zdc (⟨x657, x659, x660⟩ : zI)).bind fun c1369 => (zbV (⟨c1369.2.B, c1369.2.At, c1369.2.Failed⟩ : zI) 16777216).bind fun c1378 => (zbV (⟨c1378.2.B, c1378.2.At, c1378.2.Failed⟩ : zI) 16777216).bind fun c1386 => (if (decide ((IntKind.i64.wrap ((IntKind.i64.wrap (x666 + c1378.1)) + c1386.1)) > 16777216)) = true then zdn rec82 x666 x667 c1369 c1378 c1386 true x664 else zdn rec82 x666 x667 c1369 c1378 c1386 c1386.2.Failed x664) else (zbV (⟨x657, x659, x660⟩ : zI) 1000).bind fun c1606 => zcj c1606 big c1606.2.B c1606.2.At c1606.2.Failed x664 ([]) 0)
def zb5 (c5 : Int × zI) : Nat → (List UInt8) → Int → Bool → (List zo) → Int → Int → Option ((List zo) × (List zB) × Int × Int)
 | 0, _, _, _, _, _, _ => none
 | n + 1, x657, x659, x660, x664, x666, x667 => zgz (zb5 c5 n) c5 x657 x659 x660 x664 x666 x667
def zfd (p0 : (List UInt8)) (p1 : Int) : Option ((List zo) × (List zB) × Int × Int) :=
 (if ((decide (p1 < 0)) || (decide (p1 > (p0.length : Int)))) = true then some ([], [], 0, 1) else (zbV (⟨p0, p1, false⟩ : zI) 64).bind fun c5 => zb5 c5 big c5.2.B c5.2.At c5.2.Failed ([]) 0 0)
def zhg (p0 : (List UInt8)) (p1 : Int) : Option Bool :=
 (if (decide ((p0.length : Int) > 8192)) = true then (zfq ).bind fun c4 => some c4 else (zhL p0).bind fun c8 => (zds c8.1 p1).bind fun c19 => (zfd p0 p1).bind fun c31 => (zeC c19.1 c31.1).bind fun c43 => ((if c43 = true then (zez c19.2.1 c31.2.1).bind fun c50 => some c50 else some false)).bind fun c47 => ((if ((c47 && (c19.2.2.1 == c31.2.2.1)) && (c19.2.2.2 == c31.2.2.2)) = true then (zgr c8.1 c8.2 p0).bind fun c57 => some c57 else some false)).bind fun c54 => ((if c54 = true then (zfq ).bind fun c64 => some c64 else some false)).bind fun c61 => some c61)
end Go.Proofs.YtckcngkkofemjaaGreat
