import Derived.Test.YtnhboaaikehpoaaP_12t
import Derived.KernelRfl
namespace Go.Proofs.Ytnhboaaikehpoaa
open Go.Ab Go.RowKit
set_option linter.unusedVariables false
set_option linter.unusedSimpArgs false
theorem zpL {rec14 : List (List BA) → Int → Option Int} {op : BA} {L : List (List BA)} {j : Nat} (hj : j < L.length) (hL : L.length ≤ 1000) (hl : L[j].length ≤ 1000) : ∀ n k : Nat, k ≤ L[j].length → L[j].length - k < n →
  (zeH rec14 op (j : Int) n L (k : Int) = some (j : Int) ∧ op ∈ L[j]) ∨ zeH rec14 op (j : Int) n L (k : Int) = rec14 L ((j + 1 : Nat) : Int) := by
 intro n
 induction n with
 | zero => intro k _ h; omega
 | succ n ih =>
  intro k hk hn
  show (zgC _ rec14 op (j : Int) L (k : Int) = _ ∧ _) ∨ zgC _ rec14 op (j : Int) L (k : Int) = _
  unfold zgC
  rw [zbv hj, Option.bind_some]
  by_cases h : k < L[j].length
  ·rw [if_pos (zJ (by omega)), Option.bind_some, zbv h, Option.bind_some, zcR]
   by_cases he : L[j][k] = op
   ·rw [if_pos (zJ he)]
    exact .inl ⟨rfl, he ▸ List.getElem_mem h⟩
   ·rw [if_neg (by simpa using he), zbq (by omega)]
    exact ih (k + 1) (by omega) (by omega)
  ·rw [if_neg (by simp; omega), zbq (by omega)]
   exact .inr rfl
theorem zqt {op : BA} {L : List (List BA)} (hL : L.length ≤ 1000) (hl : ∀ l ∈ L, l.length ≤ 1000) : ∀ n j : Nat, j ≤ L.length → L.length - j < n → ∃ i, zdI op n L (j : Int) = some i ∧ (0 ≤ i → ∃ lv ∈ L, inB op lv = true) := by
 intro n
 induction n with
 | zero => intro k _ h; omega
 | succ n ih =>
  intro j hj hn
  show ∃ i, zhd _ op L (j : Int) = some i ∧ _
  unfold zhd
  by_cases h : j < L.length
  ·rw [if_pos (zJ (by omega))]
   rcases zpL (rec14 := zdI op n) (op := op) h hL (hl _ (List.getElem_mem h)) big 0 (by omega) (z7 (by have := hl _ (List.getElem_mem h); omega)) with ⟨h1, h2⟩ | h1
   ·have h1 : zeH (zdI op n) op (j : Int) big L 0 = some (j : Int) := h1
    rw [h1]
    exact ⟨_, rfl, fun _ => ⟨_, List.getElem_mem h, zkd.2 h2⟩⟩
   ·have h1 : zeH (zdI op n) op (j : Int) big L 0 = _ := h1
    rw [h1]
    exact ih (j + 1) (by omega) (by omega)
  ·rw [if_neg (by simp; omega)]
   exact ⟨-1, rfl, fun h => by omega⟩
theorem zr2 (op : BA) : ∃ i, zfI op = some i ∧ (0 ≤ i → binop op) := by
 unfold zfI
 rw [show zjx = some lvls from rfl, Option.bind_some]
 exact zqt (by decide) (by decide) big 0 (by omega) (z7 (by decide))
def Fst (c : List Tok) : Prop := ∃ t c', c = t :: c' ∧ (t.Kind = 4 → t.Text = zs5 ∨ t.Text = ztf ∨ t.Text = ztH) ∧ (t.Kind = 3 → t.Text = ztl ∨ t.Text = zti) ∧ (t.Kind = 1 → ∀ r, zbg 4 [zs5] r = false → zbg 4 [zs5] (c' ++ r) = false)
def Kd (x : zb) (c : List Tok) : Prop := Ux x c ∧ Fst c
def Xp (x : zb) (c : List Tok) : Prop := if x.Kind = 7 then Xx x c else Kd x c
theorem Xp.x {x : zb} {c : List Tok} (h : Xp x c) : Xx x c := by
 unfold Xp at h
 split at h
 ·exact h
 ·exact h.1.x
def zcq (q : LY) (N : Nat) (φ : List Tok → Prop) (X : Option LY) : Prop :=
 ∃ c b, X = some ⟨q.L ++ c, q.Line, q.More, b⟩ ∧ c.length ≤ N ∧ (b = false → q.Failed = false ∧ φ c)
theorem zcq.none {q : LY} {N : Nat} {φ : List Tok → Prop} {X : Option LY} (h : X = some ⟨q.L, q.Line, q.More, true⟩) : zcq q N φ X := ⟨[], true, by rw [h, List.append_nil], Nat.zero_le _, fun h => nomatch h⟩
def LQ (q : LY) (k : Nat) : Prop := q.L.length + k ≤ 500000000 ∧ 0 ≤ q.More ∧ q.More ≤ 2
theorem zsb {N : Nat} (hN : N ≤ 3) : ∀ (n k : Nat) (q : LY), k ≤ N → N - k < n → q.L.length + (N - k) ≤ 800000000 → zfQ (N : Int) n q.L q.Line q.More q.Failed (k : Int) = some ⟨q.L ++ List.replicate (N - k) (tkn 4 zs4 q.Line), q.Line, q.More, q.Failed⟩ := by
 intro n
 induction n with
 | zero => intro k _ _ h; omega
 | succ n ih =>
  intro k q hk hn hq
  show zie _ (N : Int) _ _ _ _ (k : Int) = _
  unfold zie
  by_cases h : k < N
  ·rw [if_pos (zJ (by omega)), zbJ (by show q.L.length ≤ _; omega), Option.bind_some, zbq (by omega)]
   have := ih (k + 1) ⟨q.L ++ [tkn 4 zs4 q.Line], q.Line, q.More, q.Failed⟩ (by omega) (by omega) (by simp; omega)
   refine this.trans ?_
   rw [show N - k = (N - (k + 1)) + 1 by omega, List.replicate_succ]
   simp
  ·rw [if_neg (by simp; omega), show N - k = 0 by omega]
   simp
theorem zr3 {R : LY → zb → Option LY} {x : zb} {N : Nat} (hN : N ≤ 3) : ∀ (n k : Nat) (q : LY), k ≤ N → N - k < n → q.L.length + (N - k) ≤ 800000000 → zfV R x (N : Int) n q.L q.Line q.More q.Failed (k : Int) =
  (R ⟨q.L ++ List.replicate (N - k) (tkn 4 zs5 q.Line), q.Line, q.More, q.Failed⟩ x).bind fun c => zfQ (N : Int) big c.L c.Line c.More c.Failed 0 := by
 intro n
 induction n with
 | zero => intro k _ _ h; omega
 | succ n ih =>
  intro k q hk hn hq
  show zhN _ R x (N : Int) _ _ _ _ (k : Int) = _
  unfold zhN
  by_cases h : k < N
  ·rw [if_pos (zJ (by omega)), zbJ (by show q.L.length ≤ _; omega), Option.bind_some, zbq (by omega)]
   have := ih (k + 1) ⟨q.L ++ [tkn 4 zs5 q.Line], q.Line, q.More, q.Failed⟩ (by omega) (by omega) (by simp; omega)
   refine this.trans ?_
   rw [show N - k = (N - (k + 1)) + 1 by omega, List.replicate_succ]
   simp
  ·rw [if_neg (by simp; omega), show N - k = 0 by omega]
   simp
theorem zoI (k : Nat) (ln : Int) (c : List Tok) : Fst (List.replicate (k + 1) (tkn 4 zs5 ln) ++ c) := ⟨tkn 4 zs5 ln, List.replicate k (tkn 4 zs5 ln) ++ c, by rw [List.replicate_succ, List.cons_append], fun _ => .inl rfl, fun h => (by cases h), fun h => (by cases h)⟩
theorem zqS {n : Nat} {x : zb} {q : LY} (hE : ∀ q : LY, LQ q (10 * szE x) → zcq q (10 * szE x - 6) (Xp x) ((zbL n).2 q x)) (hq : LQ q (10 * szE x + 3)) : zcq q (10 * szE x) (Kd x) ((zbL (n + 1)).1 q x) := by
 have key : ∀ N : Nat, N ≤ 3 → (x.Kind = 7 → N ≠ 0) → zcq q (10 * szE x) (Kd x) (zge (zbL n).2 q x q.L (N : Int)) := fun N hN h7 => by
  unfold zge
  obtain ⟨h1, h2, h3⟩ := hq
  have := zr3 (R := (zbL n).2) (x := x) hN big 0 q (by omega) (z7 (by omega)) (by omega)
  have this : zfV (zbL n).2 x (N : Int) big q.L q.Line q.More q.Failed 0 = _ := this
  rw [this, Nat.sub_zero]
  obtain ⟨c, b, he, hc, hb⟩ := hE ⟨q.L ++ List.replicate N (tkn 4 zs5 q.Line), q.Line, q.More, q.Failed⟩ ⟨by simp; omega, h2, h3⟩
  rw [he, Option.bind_some]
  have hsz := zeO x
  have := zsb hN big 0 ⟨q.L ++ List.replicate N (tkn 4 zs5 q.Line) ++ c, q.Line, q.More, b⟩ (by omega) (z7 (by omega)) (by simp; omega)
  refine ⟨List.replicate N (tkn 4 zs5 q.Line) ++ c ++ List.replicate N (tkn 4 zs4 q.Line), b, ?_, by simp; omega, fun h => ?_⟩
  ·refine this.trans ?_
   rw [Nat.sub_zero]
   simp
  ·obtain ⟨h4, h5⟩ := hb h
   refine ⟨h4, ?_⟩
   cases N with
   | zero =>
    have h7 : x.Kind ≠ 7 := fun h => h7 h rfl
    unfold Xp at h5
    rw [if_neg h7] at h5
    simpa using h5
   | succ N => exact ⟨h5.x.pars q.Line N, by rw [List.append_assoc]; exact zoI _ _ _⟩
 show zcq q _ _ (zgS (zbL n).1 (zbL n).2 q x)
 unfold zgS
 obtain ⟨h1, h2, h3⟩ := hq
 rw [kb (k := x.Kind) 6 (i := 6) rfl, kb (k := x.Kind) 7 (i := 7) rfl]
 obtain ⟨m, hm⟩ := Int.eq_ofNat_of_zero_le h2
 split
 ·have := key (m + 1) (by omega) (by omega)
  rwa [hm, zbq (by omega)]
 ·rename_i h
  have := key m (by omega) (fun h7 => by rw [h7] at h; exact absurd rfl h)
  rwa [hm]
theorem or1 {α : Type} {a c d : Bool} {f : Bool → Option α} : ((if a = true then some true else (if c = true then some d else some false)).bind f) = f (a || (c && d)) := by cases a <;> cases c <;> rfl
theorem or2 {α : Type} {a c d e : Bool} {f : Bool → Option α} : ((if a = true then some true else (if c = true then (if d = true then some e else some false) else (if false = true then some e else some false))).bind f) = f (a || (c && (d && e))) := by cases a <;> cases c <;> cases d <;> rfl
theorem zkZ {s : BA} {ln : Int} {c : List Tok} (h : ∀ r, zbg 4 [zs5] r = false → zbg 4 [zs5] (c ++ r) = false) : Fst (tkn 1 s ln :: c) := ⟨_, _, rfl, fun h => absurd h (show (1 : UInt8) ≠ 4 by decide), fun h => absurd h (show (1 : UInt8) ≠ 3 by decide), fun _ => h⟩
theorem zql (s : BA) (nu ln : Int) : Ux ⟨1, nu, zs3, zs3, zs3, []⟩ [⟨2, s, nu, ln⟩] := ⟨1, fun n hn r hr => by
 obtain ⟨k, rfl⟩ : ∃ k, n = k + 1 := ⟨n - 1, by omega⟩
 rfl⟩
theorem zq7 (ln : Int) : Ux ⟨2, 1, zs3, zs3, zs3, []⟩ [tkn 3 ztl ln] := ⟨1, fun n hn r hr => by
 obtain ⟨k, rfl⟩ : ∃ k, n = k + 1 := ⟨n - 1, by omega⟩
 rfl⟩
theorem zqc (ln : Int) : Ux ⟨2, 0, zs3, zs3, zs3, []⟩ [tkn 3 zti ln] := ⟨1, fun n hn r hr => by
 obtain ⟨k, rfl⟩ : ∃ k, n = k + 1 := ⟨n - 1, by omega⟩
 rfl⟩
theorem zr6 (nm : BA) (ln : Int) : Ux ⟨3, 0, nm, zs3, zs3, []⟩ [tkn 1 nm ln] := ⟨1, fun n hn r hr => by
 obtain ⟨k, rfl⟩ : ∃ k, n = k + 1 := ⟨n - 1, by omega⟩
 show ifS 4 [ztb] _ (ifH 4 [ztv] _ (pu _)) r = _
 unfold ifS ifH
 rw [if_neg (by rw [hr.1]; simp), if_neg (by rw [hr.2]; simp)]
 rfl⟩
theorem zpQ (nm f : BA) (ln : Int) : Ux ⟨5, 0, nm, f, zs3, []⟩ [tkn 1 nm ln, tkn 4 ztv ln, tkn 1 f ln] := ⟨1, fun n hn r hr => by
 obtain ⟨k, rfl⟩ : ∃ k, n = k + 1 := ⟨n - 1, by omega⟩
 rfl⟩
theorem Xx.idx {x : zb} {c : List Tok} (h : Xx x c) (ln ln' : Int) : ∃ n0, ∀ n, n0 ≤ n → ∀ r, (sG n).2.2.2 (tkn 4 ztb ln :: (c ++ tkn 4 ztj ln' :: r)) = some (.ok (x, r)) := by
 obtain ⟨n0, h⟩ := h
 refine ⟨n0 + 1, fun n hn r => ?_⟩
 obtain ⟨k, rfl⟩ : ∃ k, n = k + 1 := ⟨n - 1, by omega⟩
 show bd (sG k).1 (fun x => bd (zbO [ztj]) fun _ => pu x) (c ++ tkn 4 ztj ln' :: r) = _
 rw [zbz (h k (by omega) (tkn 4 ztj ln' :: r) (zf5 ⟨rfl, rfl⟩ rfl rfl rfl rfl rfl))]
 rfl
theorem zsg {x : zb} {c : List Tok} (h : Xx x c) (nm : BA) (ln ln' ln2 : Int) : Ux ⟨4, 0, nm, zs3, zs3, [x]⟩ (tkn 1 nm ln :: tkn 4 ztb ln' :: (c ++ [tkn 4 ztj ln2])) := by
 obtain ⟨n0, h⟩ := h.idx ln' ln2
 refine ⟨n0 + 1, fun n hn r hr => ?_⟩
 obtain ⟨k, rfl⟩ : ∃ k, n = k + 1 := ⟨n - 1, by omega⟩
 show bd (sG k).2.2.2 (fun x => pu (⟨4, 0, nm, zs3, zs3, [x]⟩ : zb)) (tkn 4 ztb ln' :: ((c ++ [tkn 4 ztj ln2]) ++ r)) = _
 rw [List.append_assoc, List.singleton_append, zbz (h k (by omega) r)]
 rfl
theorem zoq {x : zb} {c : List Tok} (h : Ux x c) {op : BA} (ho : op = ztf ∨ op = ztH) (ln : Int) : Ux ⟨6, 0, zs3, zs3, op, [x]⟩ (tkn 4 op ln :: c) := by
 obtain ⟨n0, h⟩ := h
 refine ⟨n0 + 1, fun n hn r hr => ?_⟩
 obtain ⟨k, rfl⟩ : ∃ k, n = k + 1 := ⟨n - 1, by omega⟩
 have : (sG (k + 1)).2.2.1 (tkn 4 op ln :: c ++ r) = bd (sG k).2.2.1 (fun x => pu ⟨6, 0, zs3, zs3, op, [x]⟩) (c ++ r) := by rcases ho with rfl | rfl <;> rfl
 rw [this, zbz (h k (by omega) r hr)]
 rfl
theorem zop {n : Nat} {x : zb} {q : LY} (hK : ∀ y ∈ x.Kids, ∀ q : LY, LQ q (10 * szE y + 3) → zcq q (10 * szE y) (Kd y) ((zbL n).1 q y)) (hq : LQ q (10 * szE x)) : zcq q (10 * szE x - 6) (Xp x) ((zbL (n + 1)).2 q x) := by
 obtain ⟨k, nu, nm, f, op, kids⟩ := x
 have hsz : szE ⟨k, nu, nm, f, op, kids⟩ = 1 + zK kids := zef _
 rw [hsz] at hq ⊢
 obtain ⟨hq1, hq2, hq3⟩ := hq
 have B0 : q.L.length ≤ 800000000 := by omega
 have key : ∀ K : Int, (k = 4 ∨ k = 6 → K = 1) → (k = 7 → K = 2) → (k ≠ 4 → k ≠ 6 → k ≠ 7 → K = 0) → zcq q (10 * (1 + zK kids) - 6) (Xp ⟨k, nu, nm, f, op, kids⟩) (zfy (zbL n).1 q ⟨k, nu, nm, f, op, kids⟩ q.L K) := fun K k1 k2 k0 => by
  unfold zfy
  dsimp only at hK ⊢
  rw [or1, or1, or1, or2]
  simp only [bne, kb (k := k) 1 (i := 1) rfl, kb (k := k) 2 (i := 2) rfl, kb (k := k) 3 (i := 3) rfl, kb (k := k) 4 (i := 4) rfl, kb (k := k) 5 (i := 5) rfl, kb (k := k) 6 (i := 6) rfl, kb (k := k) 7 (i := 7) rfl, zcR]
  split
  ·exact zcq.none rfl
  rename_i hG
  rw [Bool.not_eq_true, Bool.or_eq_false_iff, Bool.or_eq_false_iff, Bool.or_eq_false_iff, Bool.or_eq_false_iff] at hG
  obtain ⟨⟨⟨⟨g1, g2⟩, g3⟩, g4⟩, g5⟩ := hG
  have e1 : (kids.length : Int) = K := by simpa using g1
  have e2 : k ≠ 3 → k ≠ 4 → k ≠ 5 → nm = zs3 := fun a b c => by
   rw [zc9 a, zc9 b, zc9 c] at g2
   simpa using g2
  have e3 : k ≠ 5 → f = zs3 := fun a => by
   rw [zc9 a] at g3
   simpa using g3
  have e4 : k ≠ 6 → k ≠ 7 → op = zs3 := fun a b => by
   rw [zc9 a, zc9 b] at g4
   simpa using g4
  have e5 : k ≠ 1 → k ≠ 2 → nu = 0 := fun a b => by
   rw [zc9 a, zc9 b] at g5
   simpa using g5
  clear g1 g2 g3 g4 g5
  unfold zdj
  have none0 : K = 0 → kids = [] := fun h => List.eq_nil_of_length_eq_zero (by omega)
  by_cases h1 : k = 1
  ·rw [if_pos (zJ h1)]
   obtain ⟨s, hs⟩ := zmJ ⟨q.L, q.Line, q.More, q.Failed⟩ nu (by show q.L.length ≤ _; omega)
   rw [hs, Option.bind_some]
   refine ⟨_, _, rfl, by simp; omega, fun hb => ?_⟩
   obtain ⟨hb, _⟩ := Bool.or_eq_false_iff.1 hb
   have hk := none0 (k0 (by rw [h1]; decide) (by rw [h1]; decide) (by rw [h1]; decide))
   have e2 := e2 (by rw [h1]; decide) (by rw [h1]; decide) (by rw [h1]; decide)
   have e3 := e3 (by rw [h1]; decide)
   have e4 := e4 (by rw [h1]; decide) (by rw [h1]; decide)
   subst hk; subst e2; subst e3; subst e4; subst h1
   exact ⟨hb, zql s nu q.Line, ⟨_, _, rfl, fun h => absurd h (show (2 : UInt8) ≠ 4 by decide), fun h => absurd h (show (2 : UInt8) ≠ 3 by decide), fun h => absurd h (show (2 : UInt8) ≠ 1 by decide)⟩⟩
  rw [if_neg (by simpa using h1)]
  by_cases h2 : k = 2
  ·rw [if_pos (zJ h2)]
   have hk := none0 (k0 (by rw [h2]; decide) (by rw [h2]; decide) (by rw [h2]; decide))
   have e2 := e2 (by rw [h2]; decide) (by rw [h2]; decide) (by rw [h2]; decide)
   have e3 := e3 (by rw [h2]; decide)
   have e4 := e4 (by rw [h2]; decide) (by rw [h2]; decide)
   subst hk; subst e2; subst e3; subst e4; subst h2
   by_cases hn : nu = 1
   ·rw [if_pos (by rw [hn]; rfl), zcL (by show q.L.length ≤ _; omega), Option.bind_some]
    refine ⟨_, _, rfl, by simp; omega, fun hb => ⟨hb, ?_⟩⟩
    subst hn
    exact ⟨zq7 _, ⟨_, _, rfl, fun h => absurd h (show (3 : UInt8) ≠ 4 by decide), fun _ => .inl rfl, fun h => absurd h (show (3 : UInt8) ≠ 1 by decide)⟩⟩
   ·rw [if_neg (by simpa using hn), zcL (by show q.L.length ≤ _; omega), Option.bind_some]
    refine ⟨_, _, rfl, by simp; omega, fun hb => ?_⟩
    rw [Bool.or_eq_false_iff] at hb
    obtain ⟨hb, h0⟩ := hb
    have h0 : nu = 0 := by simpa using h0
    subst h0
    exact ⟨hb, zqc _, ⟨_, _, rfl, fun h => absurd h (show (3 : UInt8) ≠ 4 by decide), fun _ => .inr rfl, fun h => absurd h (show (3 : UInt8) ≠ 1 by decide)⟩⟩
  rw [if_neg (by simpa using h2)]
  have e5 := e5 h1 h2
  subst e5
  by_cases h3 : k = 3
  ·rw [if_pos (zJ h3)]
   have hk := none0 (k0 (by rw [h3]; decide) (by rw [h3]; decide) (by rw [h3]; decide))
   have e3 := e3 (by rw [h3]; decide)
   have e4 := e4 (by rw [h3]; decide) (by rw [h3]; decide)
   subst hk; subst e3; subst e4; subst h3
   obtain ⟨b, hb, hf⟩ := zcz ⟨q.L, q.Line, q.More, q.Failed⟩ nm (by show q.L.length ≤ _; omega)
   rw [hb, Option.bind_some]
   exact ⟨_, _, rfl, by simp; omega, fun hb => ⟨hf hb, zr6 _ _, zkZ fun r hr => hr⟩⟩
  rw [if_neg (by simpa using h3)]
  by_cases h4 : k = 4
  ·rw [if_pos (zJ h4)]
   have e3 := e3 (by rw [h4]; decide)
   have e4 := e4 (by rw [h4]; decide) (by rw [h4]; decide)
   have hK1 := k1 (.inl h4)
   obtain ⟨y, rfl⟩ : ∃ y, kids = [y] := List.length_eq_one_iff.1 (by omega)
   subst e3; subst e4; subst h4
   have hy : zK [y] = szE y := rfl
   rw [hy] at hq1 ⊢
   obtain ⟨b, hb, hf⟩ := zcz ⟨q.L, q.Line, q.More, q.Failed⟩ nm (by show q.L.length ≤ _; omega)
   rw [hb, Option.bind_some, zbJ (by simp; omega), Option.bind_some, show zv [y] 0 = some y from rfl, Option.bind_some]
   obtain ⟨c, b2, he, hc, h5⟩ := hK y (List.mem_cons_self ..) ⟨q.L ++ [tkn 1 nm q.Line] ++ [tkn 4 ztb q.Line], q.Line, q.More, b⟩ ⟨by simp; omega, hq2, hq3⟩
   rw [he, Option.bind_some, zbJ (by simp; omega), Option.bind_some]
   refine ⟨tkn 1 nm q.Line :: tkn 4 ztb q.Line :: (c ++ [tkn 4 ztj q.Line]), b2, by simp, by simp; omega, fun h => ?_⟩
   obtain ⟨h6, h7⟩ := h5 h
   exact ⟨hf h6, zsg h7.1.x _ _ _ _, zkZ fun r _ => rfl⟩
  rw [if_neg (by simpa using h4)]
  by_cases h5 : k = 5
  ·rw [if_pos (zJ h5)]
   have hk := none0 (k0 (by rw [h5]; decide) (by rw [h5]; decide) (by rw [h5]; decide))
   have e4 := e4 (by rw [h5]; decide) (by rw [h5]; decide)
   subst hk; subst e4; subst h5
   obtain ⟨b, hb, hf⟩ := zcz ⟨q.L, q.Line, q.More, q.Failed⟩ nm (by show q.L.length ≤ _; omega)
   rw [hb, Option.bind_some, zbJ (by simp; omega), Option.bind_some]
   obtain ⟨b2, hb2, hf2⟩ := zcz ⟨q.L ++ [tkn 1 nm q.Line] ++ [tkn 4 ztv q.Line], q.Line, q.More, b⟩ f (by simp; omega)
   rw [hb2, Option.bind_some]
   exact ⟨[tkn 1 nm q.Line, tkn 4 ztv q.Line, tkn 1 f q.Line], b2, by simp, by simp; omega, fun h => ⟨hf (hf2 h), zpQ _ _ _, zkZ fun r _ => rfl⟩⟩
  rw [if_neg (by simpa using h5)]
  have e2 := e2 h3 h4 h5
  have e3 := e3 h5
  subst e2; subst e3
  by_cases h6 : k = 6
  ·rw [if_pos (zJ h6)]
   have hK1 := k1 (.inr h6)
   obtain ⟨y, rfl⟩ : ∃ y, kids = [y] := List.length_eq_one_iff.1 (by omega)
   subst h6
   have hy : zK [y] = szE y := rfl
   rw [hy] at hq1 ⊢
   rw [or1, zbJ (by show q.L.length ≤ _; omega), Option.bind_some, show zv [y] 0 = some y from rfl, Option.bind_some]
   obtain ⟨c, b2, he, hc, h5⟩ := hK y (List.mem_cons_self ..) ⟨q.L ++ [tkn 4 op q.Line], q.Line, q.More, (q.Failed || (!decide (op = ztf) && !decide (op = ztH)))⟩ ⟨by simp; omega, hq2, hq3⟩
   rw [he, Option.bind_some]
   refine ⟨tkn 4 op q.Line :: c, b2, by simp, by simp; omega, fun h => ?_⟩
   obtain ⟨h6, h7⟩ := h5 h
   obtain ⟨h6, h8⟩ := Bool.or_eq_false_iff.1 h6
   have h8 : op = ztf ∨ op = ztH := by
    by_cases ho : op = ztf
    ·exact .inl ho
    ·rw [zc9 ho] at h8
     exact .inr (by simpa using h8)
   exact ⟨h6, zoq h7.1 h8 _, ⟨_, _, rfl, fun _ => .inr h8, fun h => absurd h (show (4 : UInt8) ≠ 3 by decide), fun h => absurd h (show (4 : UInt8) ≠ 1 by decide)⟩⟩
  rw [if_neg (by simpa using h6)]
  by_cases h7 : k = 7
  ·rw [if_pos (zJ h7)]
   have hK2 := k2 h7
   obtain ⟨y, z, rfl⟩ : ∃ y z, kids = [y, z] := by
    have hl : kids.length = 2 := by omega
    match kids, hl with
    | [y, z], _ => exact ⟨y, z, rfl⟩
   subst h7
   have hy : zK [y, z] = szE y + szE z := rfl
   rw [hy] at hq1 ⊢
   obtain ⟨i, hi, hop⟩ := zr2 op
   have hL : ((if q.Failed = true then some true else (zfI op).bind fun c474 => some (decide (c474 < 0)))) = some (q.Failed || decide (i < 0)) := by
    rw [hi]
    cases q.Failed <;> rfl
   rw [hL, Option.bind_some, show zv [y, z] 0 = some y from rfl, Option.bind_some]
   obtain ⟨c, b2, he, hc, h5⟩ := hK y (List.mem_cons_self ..) ⟨q.L, q.Line, q.More, (q.Failed || decide (i < 0))⟩ ⟨by show q.L.length + _ ≤ _; omega, hq2, hq3⟩
   rw [he, Option.bind_some, zbJ (by simp; omega), Option.bind_some, show zv [y, z] 1 = some z from rfl, Option.bind_some]
   obtain ⟨c2, b3, he2, hc2, h9⟩ := hK z (List.mem_cons_of_mem _ (List.mem_cons_self ..)) ⟨q.L ++ c ++ [tkn 4 op q.Line], q.Line, q.More, b2⟩ ⟨by simp; omega, hq2, hq3⟩
   rw [he2, Option.bind_some]
   refine ⟨c ++ tkn 4 op q.Line :: c2, b3, by simp, by simp; omega, fun h => ?_⟩
   obtain ⟨h6, h10⟩ := h9 h
   obtain ⟨h6, h7⟩ := h5 h6
   obtain ⟨h6, h8⟩ := Bool.or_eq_false_iff.1 h6
   have h8 : 0 ≤ i := by simpa using h8
   exact ⟨h6, zsR h7.1 h10.1 _ (hop h8)⟩
  rw [if_neg (by simpa using h7)]
  exact zcq.none rfl
 show zcq q _ _ (zhi (zbL n).1 (zbL n).2 q _)
 unfold zhi zih
 simp only [kb (k := k) 4 (i := 4) rfl, kb (k := k) 6 (i := 6) rfl, kb (k := k) 7 (i := 7) rfl]
 by_cases h4 : k = 4
 ·rw [if_pos (zJ h4), if_pos (zJ h4)]
  exact key 1 (fun _ => rfl) (fun h => by rw [h] at h4; exact absurd h4 (by decide)) (fun h => absurd h4 h)
 rw [if_neg (by simpa using h4)]
 by_cases h6 : k = 6
 ·rw [if_pos (zJ h6)]
  exact key 1 (fun _ => rfl) (fun h => by rw [h] at h6; exact absurd h6 (by decide)) (fun _ h => absurd h6 h)
 rw [if_neg (by simpa using h6)]
 by_cases h7 : k = 7
 ·rw [if_pos (zJ h7)]
  exact key 2 (fun h => by rcases h with h | h; exact absurd h h4; exact absurd h h6) (fun _ => rfl) (fun _ _ h => absurd h7 h)
 rw [if_neg (by simpa using h7)]
 exact key 0 (fun h => by rcases h with h | h; exact absurd h h4; exact absurd h h6) (fun h => absurd h h7) (fun _ _ _ => rfl)
theorem znZ : ∀ n : Nat, (∀ x : zb, 2 * szE x + 1 ≤ n → ∀ q : LY, LQ q (10 * szE x + 3) → zcq q (10 * szE x) (Kd x) ((zbL n).1 q x)) ∧ (∀ x : zb, 2 * szE x ≤ n → ∀ q : LY, LQ q (10 * szE x) → zcq q (10 * szE x - 6) (Xp x) ((zbL n).2 q x))
 | 0 => ⟨fun x h => by omega, fun x h => by have := zeO x; omega⟩
 | n + 1 => by
  obtain ⟨h1, h2⟩ := znZ n
  refine ⟨fun x hn q hq => zqS (fun q hq => h2 x (by omega) q hq) hq, fun x hn q hq => zop (fun y hy q hq => h1 y ?_ q hq) hq⟩
  have := zds hy
  rw [zef] at hn
  omega
theorem zdx {x : zb} {q : LY} (hs : szE x ≤ 10000000) (hq : LQ q (10 * szE x + 3)) : zcq q (10 * szE x) (Kd x) (zd7 q x) := (znZ big).1 x (Nat.le_of_lt (z7 (by omega))) q hq
end Go.Proofs.Ytnhboaaikehpoaa
