import Derived.Test.YtgkllgoelpfdkaaGreatP_02
import Derived.Test.YtgkllgoelpfdkaaGreatP_01
import Derived.KernelRfl
namespace Go.Proofs.YtgkllgoelpfdkaaGreat
open Go.Ab Go.RowKit
set_option linter.unusedVariables false
set_option linter.unusedSimpArgs false
abbrev Ins := zf
abbrev Dp := zA
def prts (k : Int) : Option (List Dp) :=
 if k = 1 ∨ k = 13 then some [] else if k = 2 then some [.c_one_1, .c_parts_1] else if k = 3 then some [.c_both_1] else if k = 4 then some [.c_op_1 1 13, .c_both_1, .c_third_1]
 else if k = 5 then some [.c_op_1 14 15, .c_both_1] else if k = 6 ∨ k = 7 then some [.c_both_1, .c_within] else if k = 8 ∨ k = 9 then some [.c_both_1, .c_third_1, .c_within, .c_bound_1]
 else if k = 10 ∨ k = 12 then some [.c_to_1] else if k = 11 then some [.c_one_1, .c_to_1] else if k = 14 then some [.c_within] else if k = 15 ∨ k = 16 ∨ k = 17 then some [.c_one_1] else if k = 18 then some [.c_how_1] else none
def prO (o : Option (List Dp)) : List Dp × Bool := match o with
 | some l => (l, true)
 | none => ([], false)
theorem zft (k : Int) : k = 1 ∨ k = 2 ∨ k = 3 ∨ k = 4 ∨ k = 5 ∨ k = 6 ∨ k = 7 ∨ k = 8 ∨ k = 9 ∨ k = 10 ∨ k = 11 ∨ k = 12 ∨ k = 13 ∨ k = 14 ∨ k = 15 ∨ k = 16 ∨ k = 17 ∨ k = 18 ∨ (k < 1 ∨ k > 18) := by omega
theorem zgT {k : Int} (h : k < 1 ∨ k > 18) : prts k = none := by
 unfold prts
 rw [if_neg (by omega), if_neg (by omega), if_neg (by omega), if_neg (by omega), if_neg (by omega), if_neg (by omega), if_neg (by omega), if_neg (by omega), if_neg (by omega), if_neg (by omega), if_neg (by omega), if_neg (by omega)]
theorem zk4 (k : Int) : zfI k = some (prO (prts k)) := by
 rcases zft k with h | h | h | h | h | h | h | h | h | h | h | h | h | h | h | h | h | h | h
 all_goals first | (subst h; rfl) | skip
 rw [zgT h]
 unfold zfI zhF zgU zgQ zhx zf5
 have e : ∀ c : Int, 1 ≤ c → c ≤ 18 → (k == c) = false := fun c h1 h2 => zeM (by omega)
 simp only [e 1 (by omega) (by omega), e 2 (by omega) (by omega), e 3 (by omega) (by omega), e 4 (by omega) (by omega), e 5 (by omega) (by omega), e 6 (by omega) (by omega), e 7 (by omega) (by omega), e 8 (by omega) (by omega), e 9 (by omega) (by omega), e 10 (by omega) (by omega), e 11 (by omega) (by omega), e 12 (by omega) (by omega), e 13 (by omega) (by omega), e 14 (by omega) (by omega), e 15 (by omega) (by omega), e 16 (by omega) (by omega), e 17 (by omega) (by omega), e 18 (by omega) (by omega), Bool.false_eq_true, if_false]
 rfl
theorem zdO {k : Int} {l : List Dp} (h : prts k = some l) : l.length ≤ 4 := by
 rcases zft k with hk | hk | hk | hk | hk | hk | hk | hk | hk | hk | hk | hk | hk | hk | hk | hk | hk | hk | hk
 all_goals first | (subst hk; injection h with h; subst h; decide) | skip
 rw [zgT hk] at h
 cases h
def rgI (i : Ins) : Prop := -9223372036854775808 ≤ i.N ∧ i.N ≤ 9223372036854775807
def rtP (p : Dp) (i : Ins) : Bool := match p with
 | .c_one_1 => decide (0 ≤ i.R ∧ i.R < 16)
 | .c_both_1 => decide (0 ≤ i.R ∧ i.R < 16 ∧ 0 ≤ i.S ∧ i.S < 16)
 | .c_op_1 a b => decide (a ≤ (i.Op.toNat : Int) ∧ (i.Op.toNat : Int) ≤ b)
 | .c_third_1 => decide (0 ≤ i.T ∧ i.T < 16)
 | .c_bound_1 => decide (1 ≤ i.M ∧ i.M ≤ 65536)
 | .c_to_1 => decide (0 ≤ i.N ∧ i.N < 16777216)
 | .c_how_1 => decide (2 ≤ i.N ∧ i.N ≤ 4)
 | .c_parts_1 => true
 | .c_within => decide (-65536 ≤ i.N ∧ i.N ≤ 65536)
def enP (p : Dp) (i : Ins) : List UInt8 := match p with
 | .c_one_1 => [UInt8.ofNat i.R.toNat]
 | .c_both_1 => [UInt8.ofNat (16 * i.R + i.S).toNat]
 | .c_op_1 _ _ => [i.Op]
 | .c_third_1 => [UInt8.ofNat i.T.toNat]
 | .c_bound_1 => z2 i.M.toNat
 | .c_to_1 => pb i.N
 | .c_how_1 => [UInt8.ofNat i.N.toNat]
 | .c_parts_1 => zR i.N
 | .c_within => zR i.N
def seP (p : Dp) (i j : Ins) : Ins := match p with
 | .c_one_1 => { j with R := i.R }
 | .c_both_1 => { j with R := i.R, S := i.S }
 | .c_op_1 _ _ => { j with Op := i.Op }
 | .c_third_1 => { j with T := i.T }
 | .c_bound_1 => { j with M := i.M }
 | .c_to_1 => { j with N := i.N }
 | .c_how_1 => { j with N := i.N }
 | .c_parts_1 => { j with N := i.N }
 | .c_within => { j with N := i.N }
theorem zou (p : Dp) (i : Ins) : ziq p i = some (rtP p i, i) := by
 cases p <;> unfold ziq rtP
 ·simp [ziX, zdZ, Bool.decide_and]
 ·simp only [zjp, zdZ, Option.bind_some]
  by_cases h : 0 ≤ i.R ∧ i.R < 16
  ·simp [h, Bool.decide_and]
  ·have : (decide (i.R ≥ 0) && decide (i.R < 16)) = false := by rw [Bool.and_eq_false_iff, decide_eq_false_iff_not, decide_eq_false_iff_not]; omega
   rw [this, if_neg (by simp), zO (by omega)]
   rfl
 ·rename_i a b
  simp only [ziA]
  by_cases h : a ≤ (i.Op.toNat : Int)
  ·simp [h]
  ·rw [zO h, if_neg (by simp), zO (fun h2 => h h2.1)]; rfl
 ·simp [zid, zdZ, Bool.decide_and]
 ·simp [zjn, Bool.decide_and]
 ·simp [zjo, Bool.decide_and]
 ·simp [zi9, Bool.decide_and]
 ·simp [ziW]
 ·simp [ziL, Bool.decide_and]
theorem u8w {n : Int} (h : 0 ≤ n ∧ n < 256) : u8o (IntKind.u8.wrap n) = some (UInt8.ofNat n.toNat) := by rw [zd7, show n % 256 = n from by omega]
theorem u8i {n : Int} (h : 0 ≤ n ∧ n < 256) : u8o n = some (UInt8.ofNat n.toNat) := by unfold u8o; rw [if_pos ⟨h.1, by omega⟩]
theorem u8x (x : UInt8) : u8o (x.toNat : Int) = some x := by rw [zlg x.toNat_lt]; simp
theorem zps {p : Dp} {i : Ins} {b : List UInt8} (hp : rtP p i = true) (hi : rgI i) (hb : b.length ≤ 1000000000) : zjA p b i = some (b ++ enP p i, i) := by
 cases p <;> unfold zjA enP <;> unfold rtP at hp <;> simp only [decide_eq_true_eq] at hp
 ·simp only [zjh, ziT, Option.bind_some]
  rw [u8w (by omega), Option.bind_some, zbi (by omega)]; rfl
 ·simp only [zjj, ziv]
  rw [zqT, if_pos hp, Option.bind_some, Option.bind_some]
  simp only
  rw [u8i (by omega), Option.bind_some, zbi (by omega)]; rfl
 ·simp only [ziz, zjd, Option.bind_some]
  rw [u8x, Option.bind_some, zbi (by omega)]; rfl
 ·simp only [zix, zjF, Option.bind_some]
  rw [u8w (by omega), Option.bind_some, zbi (by omega)]; rfl
 ·simp only [ziw]
  have hw : IntKind.u64.wrap i.M = ((i.M.toNat : Nat) : Int) := by rw [zeK]; omega
  rw [hw, zlM (by omega) (by omega)]; rfl
 ·simp only [zir]
  rw [zon (by omega), if_neg (by omega)]; rfl
 ·simp only [ziZ, ziV, Option.bind_some]
  rw [u8w (by omega), Option.bind_some, zbi (by omega)]; rfl
 ·simp only [zfF]
  rw [zlh (by omega) hi]; rfl
 ·simp only [zfF]
  rw [zlh (by omega) hi]; rfl
theorem zg7 {q r : List UInt8} {x : UInt8} (hb : (q ++ [x] ++ r).length ≤ 1000000000) : zcR (q ++ [x] ++ r) (q.length : Int) = some ((x.toNat : Int), (((q ++ [x]).length : Nat) : Int), 0) := by
 have hlt : q.length < (q ++ [x] ++ r).length := by simp
 have h := znV (l := q ++ [x] ++ r) (k := q.length) (by omega) hlt
 have hg : (q ++ [x] ++ r)[q.length]'hlt = x := by simp
 rw [hg] at h
 rw [h]
 simp
theorem zqg {q r : List UInt8} {n : Int} (hn : 0 ≤ n ∧ n < 16777216) (hb : (q ++ pb n ++ r).length ≤ 1000000000) : zeI (q ++ pb n ++ r) (q.length : Int) = some (n, (((q ++ pb n).length : Nat) : Int), 0) := by
 have hl3 : (pb n).length = 3 := rfl
 have hlt : q.length + 3 ≤ (q ++ pb n ++ r).length := by simp only [List.length_append, hl3]; omega
 have h := zmZ (l := q ++ pb n ++ r) (k := q.length) (by omega) hlt
 have hp : pb n = [UInt8.ofNat (n / 65536 % 256).toNat, UInt8.ofNat (n / 256 % 256).toNat, UInt8.ofNat (n % 256).toNat] := rfl
 have g0 : (q ++ pb n ++ r)[q.length]'(by omega) = UInt8.ofNat (n / 65536 % 256).toNat := by simp [hp]
 have g1 : (q ++ pb n ++ r)[q.length + 1]'(by omega) = UInt8.ofNat (n / 256 % 256).toNat := by simp [hp]
 have g2 : (q ++ pb n ++ r)[q.length + 2]'(by omega) = UInt8.ofNat (n % 256).toNat := by simp [hp]
 rw [g0, g1, g2] at h
 rw [h]
 unfold pl3
 rw [UInt8.toNat_ofNat_of_lt' (show (n / 65536 % 256).toNat < 256 by omega), UInt8.toNat_ofNat_of_lt' (show (n / 256 % 256).toNat < 256 by omega), UInt8.toNat_ofNat_of_lt' (show (n % 256).toNat < 256 by omega), List.length_append, hl3]
 congr 1
 simp only [Prod.mk.injEq, and_true]
 omega
theorem zpF {p : Dp} {i j : Ins} {q r : List UInt8} (hp : rtP p i = true) (hi : rgI i) (hb : (q ++ enP p i ++ r).length ≤ 1000000000) :
  zec p (q ++ enP p i ++ r) (q.length : Int) j = some ((((q ++ enP p i).length : Nat) : Int), true, seP p i j) := by
 cases p <;> unfold zec seP <;> unfold rtP at hp <;> simp only [decide_eq_true_eq] at hp <;> simp only [enP] at hb ⊢
 ·simp only [zgA, zgI]
  rw [zg7 hb, Option.bind_some, Option.bind_some]
  simp only
  rw [UInt8.toNat_ofNat_of_lt' (show i.R.toNat < 256 by omega), zN (by omega), show ((i.R.toNat : Nat) : Int) = i.R by omega]
  rfl
 ·simp only [zg8, zhc]
  rw [zg7 hb, Option.bind_some, UInt8.toNat_ofNat_of_lt' (show (16 * i.R + i.S).toNat < 256 by omega), zlG (by omega), Option.bind_some, Option.bind_some]
  simp only
  rw [show (((16 * i.R + i.S).toNat / 16 : Nat) : Int) = i.R by omega, show (((16 * i.R + i.S).toNat % 16 : Nat) : Int) = i.S by omega]
  rfl
 ·simp only [zg6, zhT]
  rw [zg7 hb, Option.bind_some, u8x, Option.bind_some, Option.bind_some]
  rfl
 ·simp only [zhb, zhQ]
  rw [zg7 hb, Option.bind_some, Option.bind_some]
  simp only
  rw [UInt8.toNat_ofNat_of_lt' (show i.T.toNat < 256 by omega), zN (by omega), show ((i.T.toNat : Nat) : Int) = i.T by omega]
  rfl
 ·simp only [zhK]
  have hq : q.length ≤ (q ++ z2 i.M.toNat ++ r).length := by simp
  rw [F_U (by omega) (by omega), zmA (by omega), Option.bind_some]
  have hm : zdG ((i.M.toNat : Nat) : Int) 16777216 = i.M := by unfold zdG; rw [if_neg (by omega)]; omega
  simp only
  rw [hm, zN (by omega)]
  rfl
 ·simp only [zg1]
  rw [zqg hp hb, Option.bind_some]
  rfl
 ·simp only [zgq, zhv]
  rw [zg7 hb, Option.bind_some, Option.bind_some]
  simp only
  rw [UInt8.toNat_ofNat_of_lt' (show i.N.toNat < 256 by omega), zN (by omega), show ((i.N.toNat : Nat) : Int) = i.N by omega]
  rfl
 ·simp only [zek]
  have hq : q.length ≤ (q ++ zR i.N ++ r).length := by simp
  rw [F_S (by omega) (by omega), zjb hi, Option.bind_some]
  rfl
 ·simp only [zek]
  have hq : q.length ≤ (q ++ zR i.N ++ r).length := by simp
  rw [F_S (by omega) (by omega), zjb hi, Option.bind_some]
  rfl
theorem zqw {b : List UInt8} {a : Nat} (hb : b.length ≤ 1000000000) (ha : a ≤ b.length) : ∃ (x : UInt8) (n : Int) (e : Int), zcR b (a : Int) = some ((x.toNat : Int), n, e) ∧ (0 ≤ n ∧ n ≤ b.length) ∧ (e = 0 → (a : Int) ≤ n) := by
 by_cases h : a < b.length
 ·exact ⟨_, _, _, znV (by omega) h, ⟨by omega, by omega⟩, fun _ => by omega⟩
 ·refine ⟨0, 0, 5, zoQ (by omega), ⟨by omega, by omega⟩, fun h => by omega⟩
theorem zpA (p : Dp) {b : List UInt8} {a : Nat} {j : Ins} (hb : b.length ≤ 1000000000) (ha : a ≤ b.length) (hj : rgI j) :
  ∃ (n : Nat) (ok : Bool) (j' : Ins), zec p b (a : Int) j = some ((n : Int), ok, j') ∧ n ≤ b.length ∧ (ok = true → a ≤ n) ∧ rgI j' ∧ j'.Kind = j.Kind := by
 have num : ∃ (n : Nat) (ok : Bool) (j' : Ins), zek b (a : Int) j = some ((n : Int), ok, j') ∧ n ≤ b.length ∧ (ok = true → a ≤ n) ∧ rgI j' ∧ j'.Kind = j.Kind := by
  simp only [zek]
  rw [F_S (by omega) (by omega), Option.bind_some]
  rcases zjX b (a : Int) with ⟨e, h3, h4⟩ | ⟨k, n, y, h3, h4, h5, h6, h7, h8, h9⟩
  ·rw [h3]
   exact ⟨0, _, _, rfl, by omega, fun h => by simp at h; omega, by unfold rgI; simp, rfl⟩
  ·rw [h9]
   exact ⟨k + n, _, _, rfl, by omega, fun _ => by omega, h7, rfl⟩
 obtain ⟨x, n, e, hO, hn, he⟩ := zqw hb ha
 have hx := x.toNat_lt
 obtain ⟨m, rfl⟩ : ∃ m : Nat, n = m := ⟨n.toNat, by omega⟩
 cases p <;> unfold zec <;> simp only
 ·simp only [zgA, zgI]
  rw [hO, Option.bind_some, Option.bind_some]
  exact ⟨m, _, _, rfl, by omega, fun h => by have := he (by simpa using h); omega, hj, rfl⟩
 ·simp only [zg8, zhc]
  rw [hO, Option.bind_some, zlG hx, Option.bind_some, Option.bind_some]
  exact ⟨m, _, _, rfl, by omega, fun h => by have := he (by simpa using h); omega, hj, rfl⟩
 ·simp only [zg6, zhT]
  rw [hO, Option.bind_some, u8x, Option.bind_some, Option.bind_some]
  exact ⟨m, _, _, rfl, by omega, fun h => by have := he (by simpa using h); omega, hj, rfl⟩
 ·simp only [zhb, zhQ]
  rw [hO, Option.bind_some, Option.bind_some]
  exact ⟨m, _, _, rfl, by omega, fun h => by have := he (by simpa using h); omega, hj, rfl⟩
 ·simp only [zhK]
  rw [F_U (by omega) (by omega), Option.bind_some]
  rcases zne b (a : Int) with ⟨e, h3, h4⟩ | ⟨k, n, y, h3, h4, h5, h6, h7, h8, h9⟩
  ·rw [h3]
   exact ⟨0, _, _, rfl, by omega, fun h => by simp at h; omega, hj, rfl⟩
  ·rw [h9]
   exact ⟨k + n, _, _, rfl, by omega, fun _ => by omega, hj, rfl⟩
 ·simp only [zg1]
  by_cases h : a + 3 ≤ b.length
  ·rw [zmZ (by omega) h, Option.bind_some]
   have h0 := b[a].toNat_lt
   have h1 := b[a + 1].toNat_lt
   have h2 := b[a + 2].toNat_lt
   exact ⟨a + 3, _, _, rfl, h, fun _ => by omega, by unfold rgI pl3; simp only; omega, rfl⟩
  ·rw [zpM ha (by omega), Option.bind_some]
   exact ⟨0, _, _, rfl, by omega, fun h => by simp at h, by unfold rgI; simp, rfl⟩
 ·simp only [zgq, zhv]
  rw [hO, Option.bind_some, Option.bind_some]
  exact ⟨m, _, _, rfl, by omega, fun h => by have := he (by simpa using h); omega, by unfold rgI; simp only; rw [zN (by omega)]; omega, rfl⟩
 ·exact num
 ·exact num
def z4 (l : List Dp) (i : Ins) : List UInt8 := l.flatMap fun p => enP p i
def zbB (l : List Dp) (i j : Ins) : Ins := l.foldl (fun j p => seP p i j) j
def zbj (l : List Dp) (i : Ins) : Bool := l.all fun p => rtP p i
theorem zio (p : Dp) (l : List Dp) (i : Ins) : zbj (p :: l) i = (rtP p i && zbj l i) := rfl
theorem zeQ (p : Dp) (l : List Dp) (i : Ins) : z4 (p :: l) i = enP p i ++ z4 l i := rfl
theorem zpO (p : Dp) (l : List Dp) (i j : Ins) : zbB (p :: l) i j = zbB l i (seP p i j) := rfl
theorem zkq {p : Dp} {i : Ins} (hp : rtP p i = true) (hi : rgI i) : (enP p i).length ≤ 10 := by
 cases p <;> unfold rtP at hp <;> simp only [decide_eq_true_eq] at hp <;> unfold enP
 all_goals first | (simp; done) | (exact zdK hi.1 hi.2) | skip
 ·exact zdX (by omega)
 ·show 3 ≤ 10; omega
theorem zng (i : Ins) (hi : rgI i) (l : List Dp) (hl : l.length ≤ 100) : ∀ (n k : Nat) (b : List UInt8), k ≤ l.length → l.length - k < n → b.length ≤ 1000 + 10 * k →
  zgy (l, true) n i.Kind i.Op i.R i.S i.T i.N i.M b l (k : Int) = some (if zbj (l.drop k) i = true then (b ++ z4 (l.drop k) i, true) else ([], false))
 | 0, k, _, _, h, _ => by omega
 | n + 1, k, b, hk, h, hb => by
  show zh4 _ (l, true) i.Kind i.Op i.R i.S i.T i.N i.M b l (k : Int) = _
  unfold zh4
  simp only
  by_cases hlt : k < l.length
  ·rw [zX (by omega), if_pos rfl, zbQ hlt, Option.bind_some, zou, Option.bind_some, List.drop_eq_getElem_cons hlt]
   simp only
   cases hr : rtP l[k] i
   ·rw [Bool.not_false, if_pos rfl, zio, hr, Bool.false_and, if_neg (by simp)]
   ·have h10 := zkq hr hi
    rw [Bool.not_true, if_neg (by simp), zps hr hi (by omega), Option.bind_some, zbt (by omega)]
    simp only
    rw [zng i hi l hl n (k + 1) _ (by omega) (by omega) (by simp; omega), zio, hr, Bool.true_and, zeQ]
    simp only [List.append_assoc]
  ·rw [zO (by omega), if_neg (by simp), List.drop_of_length_le (by omega)]
   simp [zbj, z4]
def bse (k : UInt8) : Ins := ⟨k, 0, 0, 0, 0, 0, 0⟩
def Rti (i : Ins) : Bool := match prts (i.Kind.toNat : Int) with
 | none => false
 | some l => zbj l i && decide (zbB l i (bse i.Kind) = i)
def bdy (i : Ins) : List UInt8 := match prts (i.Kind.toNat : Int) with
 | none => []
 | some l => z4 l i
def z9 (i : Ins) : List UInt8 := i.Kind :: bdy i
theorem zl1 (i : Ins) (hi : rgI i) : zd8 i = some (match prts (i.Kind.toNat : Int) with | none => ([], false) | some l => if zbj l i = true then (i.Kind :: z4 l i, true) else ([], false)) := by
 unfold zd8
 rw [zk4, Option.bind_some]
 cases hp : prts (i.Kind.toNat : Int) with
 | none => rfl
 | some l =>
  have := zng i hi l (by have := zdO hp; omega) big 0 [i.Kind] (by omega) (zbR (by have := zdO hp; omega)) (by simp)
  rw [List.drop_zero] at this
  refine Eq.trans (if_neg (by simp [prO])) ?_
  exact this
theorem zlY (i : Ins) (hi : rgI i) (l : List Dp) (hl : l.length ≤ 100) (r : List UInt8) : ∀ (n k : Nat) (q : List UInt8) (j : Ins), k ≤ l.length → l.length - k < n → zbj (l.drop k) i = true → (q ++ z4 (l.drop k) i ++ r).length ≤ 1000000000 →
  zfG (q ++ z4 (l.drop k) i ++ r) (l, true) n j.Kind j.Op j.R j.S j.T j.N j.M (q.length : Int) true l (k : Int) = some (zbB (l.drop k) i j, (((q ++ z4 (l.drop k) i).length : Nat) : Int), true)
 | 0, k, _, _, _, h, _, _ => by omega
 | n + 1, k, q, j, hk, h, hr, hb => by
  show ze1 _ _ (l, true) j.Kind j.Op j.R j.S j.T j.N j.M (q.length : Int) true l (k : Int) = _
  unfold ze1
  simp only
  by_cases hlt : k < l.length
  ·rw [List.drop_eq_getElem_cons hlt] at hr hb ⊢
   simp only [zbj, List.all_cons, Bool.and_eq_true] at hr
   have e1 : q ++ z4 (l[k] :: l.drop (k + 1)) i ++ r = q ++ enP l[k] i ++ (z4 (l.drop (k + 1)) i ++ r) := by rw [zeQ]; simp only [List.append_assoc]
   have e2 : q ++ z4 (l[k] :: l.drop (k + 1)) i ++ r = (q ++ enP l[k] i) ++ z4 (l.drop (k + 1)) i ++ r := by rw [zeQ]; simp only [List.append_assoc]
   have h2 := zpF (j := j) (q := q) (r := z4 (l.drop (k + 1)) i ++ r) hr.1 hi (by rw [← e1]; exact hb)
   rw [← e1] at h2
   have h2 : zec l[k] (q ++ z4 (l[k] :: l.drop (k + 1)) i ++ r) (q.length : Int) ⟨j.Kind, j.Op, j.R, j.S, j.T, j.N, j.M⟩ = _ := h2
   have ih := zlY i hi l hl r n (k + 1) (q ++ enP l[k] i) (seP l[k] i j) (by omega) (by omega) hr.2 (by rw [← e2]; exact hb)
   rw [← e2] at ih
   rw [zX (by omega), if_pos rfl, zbQ hlt, Option.bind_some, if_pos trivial, h2, Option.bind_some, zbt (by omega)]
   simp only
   rw [ih, zpO, zeQ]
   simp only [List.append_assoc]
  ·rw [zO (by omega), if_neg (by simp), List.drop_of_length_le (by omega)]
   simp [zbB, z4]
theorem zlJ {i : Ins} {l : List Dp} (hp : prts (i.Kind.toNat : Int) = some l) (hi : rgI i) (hr : zbj l i = true) {q r : List UInt8} (hb : (q ++ (i.Kind :: z4 l i) ++ r).length ≤ 1000000000) :
  zdH (q ++ (i.Kind :: z4 l i) ++ r) (q.length : Int) = some (zbB l i (bse i.Kind), (((q ++ (i.Kind :: z4 l i)).length : Nat) : Int), true) := by
 unfold zdH
 have hlt : q.length < (q ++ (i.Kind :: z4 l i) ++ r).length := by simp
 have hg : zz (q ++ (i.Kind :: z4 l i) ++ r) (q.length : Int) = some i.Kind := by rw [zh1]; simp
 have e1 : q ++ (i.Kind :: z4 l i) ++ r = (q ++ [i.Kind]) ++ z4 (l.drop 0) i ++ r := by simp
 have h := zlY i hi l (by have := zdO hp; omega) r big 0 (q ++ [i.Kind]) (bse i.Kind) (by omega) (zbR (by have := zdO hp; omega)) (by simpa using hr) (by rw [← e1]; exact hb)
 rw [← e1, List.drop_zero] at h
 rw [zO (by omega), if_neg (by simp), hg, Option.bind_some, zk4, Option.bind_some, hp, zbt (by omega), show (((q.length + 1 : Nat)) : Int) = (((q ++ [i.Kind]).length : Nat) : Int) by simp]
 refine Eq.trans h ?_
 simp
theorem zn8 (x y : Ins) : (((x.Kind.toNat : Int) == (y.Kind.toNat : Int)) && (((x.Op.toNat : Int) == (y.Op.toNat : Int)) && ((x.R == y.R) && ((x.S == y.S) && ((x.T == y.T) && ((x.N == y.N) && ((x.M == y.M) && true))))))) = decide (x = y) := by
 cases x; cases y
 rw [Bool.eq_iff_iff]
 simp [zdS]
theorem zjM {i : Ins} {l : List Dp} (hp : prts (i.Kind.toNat : Int) = some l) (hi : rgI i) (hr : zbj l i = true) : (z4 l i).length ≤ 40 := by
 have h4 := zdO hp
 have : ∀ l : List Dp, zbj l i = true → (z4 l i).length ≤ 10 * l.length := by
  intro l
  induction l with
  | nil => intro _; simp [z4]
  | cons p l ih =>
   intro h
   simp only [zbj, List.all_cons, Bool.and_eq_true] at h
   have h1 := zkq h.1 hi
   have h2 := ih h.2
   unfold z4 at h2 ⊢
   simp only [List.flatMap_cons, List.length_append, List.length_cons]
   omega
 have := this l hr
 omega
theorem zkS {i : Ins} (hi : rgI i) : zd1 i = some (Rti i) := by
 unfold zd1 Rti
 have hl : zd8 ⟨i.Kind, i.Op, i.R, i.S, i.T, i.N, i.M⟩ = _ := zl1 i hi
 rw [hl, Option.bind_some]
 cases hp : prts (i.Kind.toNat : Int) with
 | none => rfl
 | some l =>
  simp only
  by_cases hr : zbj l i = true
  ·have hb := zjM hp hi hr
   have h := zlJ (q := []) (r := []) hp hi hr (by simp; omega)
   rw [List.nil_append, List.append_nil] at h
   have h : zdH (i.Kind :: z4 l i) 0 = _ := h
   rw [if_pos hr, Bool.not_true, if_neg (by simp), h, Option.bind_some, zn8, hr]
  ·have hr2 : zbj l i = false := by simpa using hr
   rw [if_neg hr, hr2]
   rfl
theorem zhS {i : Ins} (h : Rti i = true) : ∃ l, prts (i.Kind.toNat : Int) = some l ∧ zbj l i = true ∧ zbB l i (bse i.Kind) = i ∧ bdy i = z4 l i := by
 unfold Rti at h
 cases hp : prts (i.Kind.toNat : Int) with
 | none => rw [hp] at h; cases h
 | some l =>
  rw [hp] at h
  simp only [Bool.and_eq_true, decide_eq_true_eq] at h
  exact ⟨l, rfl, h.1, h.2, by unfold bdy; rw [hp]⟩
theorem zme {i : Ins} (hi : rgI i) (h : Rti i = true) : 1 ≤ (z9 i).length ∧ (z9 i).length ≤ 41 := by
 obtain ⟨l, hp, hr, _, hb⟩ := zhS h
 have := zjM hp hi hr
 unfold z9
 rw [hb, List.length_cons]
 omega
theorem zl5 {i : Ins} {b : List UInt8} (hi : rgI i) (hb : b.length ≤ 1000000000) : zeU b i = some (if Rti i = true then b ++ z9 i else b) := by
 unfold zeU zdo
 have hR : zd1 ⟨i.Kind, i.Op, i.R, i.S, i.T, i.N, i.M⟩ = _ := zkS hi
 have hl : zd8 ⟨i.Kind, i.Op, i.R, i.S, i.T, i.N, i.M⟩ = _ := zl1 i hi
 rw [zbi (by omega), Option.bind_some, Option.bind_some, hR, Option.bind_some]
 by_cases h : Rti i = true
 ·obtain ⟨l, hp, hr, _, hbd⟩ := zhS h
  have := zjM hp hi hr
  rw [h, Bool.not_true, if_neg (by simp), hl, hp, Option.bind_some]
  simp only
  rw [if_pos hr, zbi (by simp; omega), Option.bind_some, if_pos trivial]
  unfold z9
  rw [hbd]
 ·have h2 : Rti i = false := by simpa using h
  rw [h2]
  rfl
theorem zrg {i : Ins} (hi : rgI i) (h : Rti i = true) {q r : List UInt8} (hb : (q ++ z9 i ++ r).length ≤ 1000000000) : zdH (q ++ z9 i ++ r) (q.length : Int) = some (i, (((q ++ z9 i).length : Nat) : Int), true) := by
 obtain ⟨l, hp, hr, hs, hbd⟩ := zhS h
 have he : z9 i = i.Kind :: z4 l i := by unfold z9; rw [hbd]
 rw [he] at hb ⊢
 rw [zlJ hp hi hr hb, hs]
theorem zki {b : List UInt8} (hb : b.length ≤ 1000000000) (o : Bool) (l : List Dp) (hl : l.length ≤ 100) (a0 : Nat) : ∀ (n k : Nat) (a : Nat) (ok : Bool) (j : Ins), k ≤ l.length → l.length - k < n → a ≤ b.length → (ok = true → a0 ≤ a) → rgI j →
  ∃ (m : Nat) (ok' : Bool) (j' : Ins), zfG b (l, o) n j.Kind j.Op j.R j.S j.T j.N j.M (a : Int) ok l (k : Int) = some (j', (m : Int), ok') ∧ m ≤ b.length ∧ (ok' = true → a0 ≤ m) ∧ rgI j'
 | 0, k, _, _, _, _, h, _, _, _ => by omega
 | n + 1, k, a, ok, j, hk, h, ha, ho, hj => by
  show ∃ (m : Nat) (ok' : Bool) (j' : Ins), ze1 _ b (l, o) j.Kind j.Op j.R j.S j.T j.N j.M (a : Int) ok l (k : Int) = some (j', (m : Int), ok') ∧ _
  unfold ze1
  simp only
  by_cases hlt : k < l.length
  ·rw [zX (by omega), if_pos rfl, zbQ hlt, Option.bind_some]
   cases ok
   ·rw [if_neg (by simp), zbt (by omega)]
    exact zki hb o l hl a0 n (k + 1) a false j (by omega) (by omega) ha ho hj
   ·obtain ⟨m, ok', j', h1, h2, h3, h4, h5⟩ := zpA l[k] hb ha hj
    have h1 : zec l[k] b (a : Int) ⟨j.Kind, j.Op, j.R, j.S, j.T, j.N, j.M⟩ = _ := h1
    rw [if_pos rfl, h1, Option.bind_some, zbt (by omega)]
    exact zki hb o l hl a0 n (k + 1) m ok' j' (by omega) (by omega) h2 (fun h => by have := h3 h; have := ho rfl; omega) h4
  ·rw [zO (by omega), if_neg (by simp)]
   exact ⟨a, ok, j, rfl, ha, ho, hj⟩
theorem zri {b : List UInt8} {a : Nat} (hb : b.length ≤ 1000000000) (ha : a ≤ b.length) : ∃ (m : Nat) (ok : Bool) (j : Ins), zdH b (a : Int) = some (j, (m : Int), ok) ∧ m ≤ b.length ∧ (ok = true → a ≤ m) ∧ rgI j := by
 unfold zdH
 by_cases h : a < b.length
 ·rw [zO (by omega), if_neg (by simp), zbQ h, Option.bind_some, zk4, Option.bind_some, zbt (by omega)]
  have hl : (prO (prts (b[a].toNat : Int))).1.length ≤ 100 := by
   cases hp : prts (b[a].toNat : Int) with
   | none => simp [prO]
   | some l => have := zdO hp; simp [prO]; omega
  exact zki hb (prO (prts (b[a].toNat : Int))).2 (prO (prts (b[a].toNat : Int))).1 hl a big 0 (a + 1) (prO (prts (b[a].toNat : Int))).2 (bse b[a]) (by omega) (zbR (by omega)) (by omega) (fun _ => by omega) (by unfold rgI bse; simp)
 ·rw [zX (by omega), if_pos rfl]
  exact ⟨0, false, _, rfl, by omega, (fun h => by cases h), by unfold rgI; simp⟩
def zhW (b : List UInt8) (i : Nat) (x : List UInt8) : Prop := i + x.length ≤ b.length ∧ (b.drop i).take x.length = x
theorem zhW.split {b x : List UInt8} {i : Nat} (h : zhW b i x) : b = b.take i ++ x ++ b.drop (i + x.length) := by
 have e : b.drop i = x ++ b.drop (i + x.length) := by
  rw [← List.take_append_drop x.length (b.drop i), h.2, List.drop_drop]
 rw [List.append_assoc, ← e, List.take_append_drop]
theorem bEq (x y : List UInt8) : zhC x y = some (decide (x = y)) := by
 unfold zhC
 rw [zoI]
 congr 1
 rw [decide_eq_decide]
 constructor
 ·intro h
  injection h with h
  exact Array.toList_inj.2 h |> fun h => by simpa using h
 ·rintro rfl; rfl
def zkK (b : List UInt8) (a : Int) (r : Ins × Int × Int) : Prop :=
 ((a < 0 ∨ a > b.length) ∧ r = (bse 0, 0, 1)) ∨ (0 ≤ a ∧ a ≤ b.length) ∧ (r = (bse 0, 0, 5) ∨ ∃ (i : Ins) (k : Nat), a = k ∧ r = (i, ((k + (z9 i).length : Nat) : Int), 0) ∧ zhW b k (z9 i) ∧ Rti i = true ∧ rgI i)
theorem znF {b : List UInt8} {a : Int} (hb : b.length ≤ 1000000000) : ∃ r, zc2 b a = some r ∧ zkK b a r := by
 unfold zc2
 by_cases hc : a < 0 ∨ a > b.length
 ·rw [if_pos (by simpa using hc)]
  exact ⟨_, rfl, Or.inl ⟨hc, rfl⟩⟩
 ·obtain ⟨k, rfl⟩ : ∃ k : Nat, a = k := ⟨a.toNat, by omega⟩
  have hk : k ≤ b.length := by omega
  obtain ⟨m, ok, j, h1, h2, h3, h4⟩ := zri hb hk
  rw [if_neg (by simpa using hc), h1, Option.bind_some]
  simp only
  have hR : zd1 ⟨j.Kind, j.Op, j.R, j.S, j.T, j.N, j.M⟩ = _ := zkS h4
  have hP : zeU [] ⟨j.Kind, j.Op, j.R, j.S, j.T, j.N, j.M⟩ = _ := zl5 (b := []) h4 (by simp)
  cases ok
  ·refine ⟨_, rfl, Or.inr ⟨⟨by omega, by omega⟩, Or.inl rfl⟩⟩
  ·have hkm := h3 rfl
   rw [Bool.not_true, if_neg (by simp), hR, Option.bind_some, Option.bind_some]
   cases hr : Rti j
   ·refine ⟨_, rfl, Or.inr ⟨⟨by omega, by omega⟩, Or.inl rfl⟩⟩
   ·rw [Bool.not_true, if_neg (by simp), zcV hkm h2, Option.bind_some, hP, hr, if_pos rfl, Option.bind_some, bEq, Option.bind_some, List.nil_append, Option.bind_some]
    by_cases he : z9 j = (b.take m).drop k
    ·rw [zX he, Bool.not_true, if_neg (by simp)]
     have hlen : (z9 j).length = m - k := by rw [he]; simp; omega
     refine ⟨_, rfl, Or.inr ⟨⟨by omega, by omega⟩, Or.inr ⟨j, k, rfl, ?_, ⟨by omega, ?_⟩, hr, h4⟩⟩⟩
     ·rw [hlen, show k + (m - k) = m by omega]
     ·rw [hlen, ← List.drop_take, ← he]
    ·rw [zO he, Bool.not_false, if_pos rfl]
     exact ⟨_, rfl, Or.inr ⟨⟨by omega, by omega⟩, Or.inl rfl⟩⟩
theorem zpq {i : Ins} (hi : rgI i) (h : Rti i = true) {q r : List UInt8} (hb : (q ++ z9 i ++ r).length ≤ 1000000000) : zc2 (q ++ z9 i ++ r) (q.length : Int) = some (i, (((q ++ z9 i).length : Nat) : Int), 0) := by
 unfold zc2
 have hq : q.length ≤ (q ++ z9 i ++ r).length := by simp
 have hR : zd1 ⟨i.Kind, i.Op, i.R, i.S, i.T, i.N, i.M⟩ = _ := zkS hi
 have hP : zeU [] ⟨i.Kind, i.Op, i.R, i.S, i.T, i.N, i.M⟩ = _ := zl5 (b := []) hi (by simp)
 rw [zO (show ¬ (q.length : Int) < 0 by omega), zO (show ¬ (q.length : Int) > (q ++ z9 i ++ r).length by omega), Bool.or_self, if_neg (by simp), zrg hi h hb, Option.bind_some]
 simp only
 rw [Bool.not_true, if_neg (by simp), hR, Option.bind_some, Option.bind_some, h, Bool.not_true, if_neg (by simp), zcV (by simp) (by simp), Option.bind_some, hP, h, if_pos rfl, Option.bind_some, bEq, Option.bind_some, zX, Bool.not_true, Option.bind_some, if_neg (by simp)]
 rw [List.nil_append, List.take_append_of_le_length (by simp), List.take_length, List.drop_append_of_le_length (by simp), List.drop_length, List.nil_append]
theorem zrd {i : Ins} (hi : rgI i) (h : Rti i = true) {b : List UInt8} {k : Nat} (hb : b.length ≤ 1000000000) (hL : zhW b k (z9 i)) : zc2 b (k : Int) = some (i, ((k + (z9 i).length : Nat) : Int), 0) := by
 have hs := hL.split
 have hk : (b.take k).length = k := by have := hL.1; rw [List.length_take]; omega
 have := zpq hi h (q := b.take k) (r := b.drop (k + (z9 i).length)) (by rw [← hs]; exact hb)
 rw [← hs, hk, List.length_append, hk] at this
 exact this
end Go.Proofs.YtgkllgoelpfdkaaGreat
