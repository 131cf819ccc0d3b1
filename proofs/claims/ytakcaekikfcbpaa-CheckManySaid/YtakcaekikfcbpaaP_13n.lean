import Derived.Test.YtakcaekikfcbpaaP_13f
import Derived.KernelRfl
namespace Go.Proofs.Ytakcaekikfcbpaa
open Go.Ab Go.RowKit
set_option linter.unusedVariables false
set_option linter.unusedSimpArgs false
def zY : List Stm := zkU.Body
def zbe : Stm := stm 10 [] [] []
def zdl (l : List Stm) : zB := ⟨znT, 1, [], ⟨0, 0, znS⟩, l⟩
def zcG (l : List Stm) : zs := ⟨[], [zdl l]⟩
theorem zmQ : zdf 1 = some (zcG zY) := rfl
theorem zk2 : plB (zcG zY) = zY := rfl
theorem zj8 : ∀ (a b : List Stm) (c : Ck), kSs (a ++ b) c = eb (kSs a c) fun r => eb (kSs b r.2) fun q => .ok (r.1 ++ q.1, q.2)
 | [], b, c => by
  show kSs b c = eb (kSs b c) _
  cases kSs b c <;> rfl
 | s :: a, b, c => by
  show eb (kS s c) (fun r => eb (kSs (a ++ b) r.2) fun q => .ok (r.1 :: q.1, q.2)) = eb (eb (kS s c) fun r => eb (kSs a r.2) fun q => .ok (r.1 :: q.1, q.2)) _
  cases kS s c with
  | error e => rfl
  | ok r =>
   show eb (kSs (a ++ b) r.2) _ = eb (eb (kSs a r.2) _) _
   rw [zj8 a b r.2]
   cases kSs a r.2 with
   | error e => rfl
   | ok q =>
    show eb (eb (kSs b q.2) _) _ = eb (kSs b q.2) _
    cases kSs b q.2 <;> rfl
theorem zng {c : Ck} (h : rk c = 0) : kS zbe c = .ok (⟨10, c.tree.Points.length, -1, 0, -1, [], [], []⟩, zbq c 0) := by
 rw [zju]
 show eb (kvs (zbq c 0) [] (if (((rk c).toNat : Int) != 0) = true then [rk c] else [])) _ = _
 rw [h]
 rfl
theorem ziR : ∀ (n : Nat) {c : Ck}, rk c = 0 → ∃ acts c', kSs (List.replicate n zbe) c = .ok (acts, c') ∧ c'.tree.Points.length = c.tree.Points.length + n ∧ c'.vars = c.vars ∧ c'.tree.Bodies = c.tree.Bodies ∧ c'.prog = c.prog
 | 0, c, _ => ⟨[], c, rfl, rfl, rfl, rfl, rfl⟩
 | n + 1, c, h => by
  obtain ⟨acts, c', h1, h2, h3, h4, h5⟩ := ziR n (c := zbq c 0) h
  refine ⟨⟨10, c.tree.Points.length, -1, 0, -1, [], [], []⟩ :: acts, c', ?_, ?_, h3, h4, h5⟩
  ·show eb (kS zbe c) (fun r => eb (kSs (List.replicate n zbe) r.2) fun q => .ok (r.1 :: q.1, q.2)) = _
   rw [zng h]
   show eb (kSs (List.replicate n zbe) (zbq c 0)) _ = _
   rw [h1]
   rfl
  ·rw [h2]
   simp [zbq]
   omega
def mC0 (l : List Stm) : Ck := zcC (ck0 (zcG l)) ((0 : Nat) : Int) [] []
def mR (l : List Stm) : List zj × Ck := match kSs zY (mC0 l) with
 | .ok r => r
 | .error _ => ([], mC0 l)
theorem zlf (l : List Stm) : kSs zY (mC0 l) = .ok (mR l) ∧ (mR l).2.tree.Points.length = 4 ∧ (mR l).2.vars.length = 1 ∧ (mR l).2.tree.Bodies = [] ∧ (mR l).2.prog = zcG l ∧ (mR l).2.fn = 0 := ⟨by kernel_rfl, by kernel_rfl, by kernel_rfl, by kernel_rfl, by kernel_rfl, by kernel_rfl⟩
theorem zls (n : Nat) : zO (zY ++ List.replicate n zbe) = zO zY + n := by
 have h1 : ∀ a b : List Stm, zO (a ++ b) = zO a + zO b := by
  intro a b
  induction a with
  | nil => show zO b = 0 + zO b; omega
  | cons x a ih => show szS x + zO (a ++ b) = szS x + zO a + zO b; omega
 have h2 : ∀ n : Nat, zO (List.replicate n zbe) = n := by
  intro n
  induction n with
  | zero => rfl
  | succ n ih => show 1 + zO (List.replicate n zbe) = n + 1; omega
 rw [h1, h2]
theorem zlv {n : Nat} (h : n ≤ 100000) : Bp (zcG (zY ++ List.replicate n zbe)) := by
 have h0 : zO zY ≤ 100 := by decide
 have h1 := zls n
 refine ⟨Nat.zero_le _, fun s hs => (by cases hs), by show 1 ≤ _; omega, fun d hd => ?_, by show zO (zY ++ List.replicate n zbe) + 0 ≤ _; omega⟩
 have hd : d ∈ [zdl (zY ++ List.replicate n zbe)] := hd
 rw [List.mem_singleton] at hd
 subst hd
 exact Nat.zero_le _
theorem zml {n : Nat} : ∃ t : zx, t.Points.length = 4 + n ∧ kP (zcG (zY ++ List.replicate n zbe)) = if (decide (((4 + n : Nat) : Int) > 1000)) = true then (zhV, 0, 11) else (t, 0, 0) := by
 obtain ⟨m1, m2, m3, m4, m5, m6⟩ := zlf (zY ++ List.replicate n zbe)
 have hr : rk (mR (zY ++ List.replicate n zbe)).2 = 0 := by
  unfold rk
  rw [m5, m6]
  rfl
 obtain ⟨acts, c', h1, h2, h3, h4, h5⟩ := ziR n hr
 have hL : kL (zY ++ List.replicate n zbe) (mC0 (zY ++ List.replicate n zbe)) = .ok ((mR (zY ++ List.replicate n zbe)).1 ++ acts, zbW c' 0) := by
  unfold kL
  rw [zj8, m1]
  show eb (eb (kSs (List.replicate n zbe) (mR (zY ++ List.replicate n zbe)).2) _) _ = _
  rw [h1]
  rfl
 have hB : kBd (ck0 (zcG (zY ++ List.replicate n zbe))) 0 (zdl (zY ++ List.replicate n zbe)) = .ok (zdc (zbW c' 0) ⟨znT, 0, false, c'.vars, (mR (zY ++ List.replicate n zbe)).1 ++ acts⟩) := by
  unfold kBd
  rw [show fo (zcU (ck0 (zcG (zY ++ List.replicate n zbe))) (zdl (zY ++ List.replicate n zbe)).Name) = ((0 : Nat) : Int) from by kernel_rfl]
  show eb (kL (zY ++ List.replicate n zbe) (mC0 (zY ++ List.replicate n zbe))) _ = _
  rw [hL]
  rfl
 have hp : (zdc (zbW c' 0) ⟨znT, 0, false, c'.vars, (mR (zY ++ List.replicate n zbe)).1 ++ acts⟩).prog = zcG (zY ++ List.replicate n zbe) := h5.trans m5
 have hT : kWT (0 + 1) (zdc (zbW c' 0) ⟨znT, 0, false, c'.vars, (mR (zY ++ List.replicate n zbe)).1 ++ acts⟩) = .ok (wM (zdc (zbW c' 0) ⟨znT, 0, false, c'.vars, (mR (zY ++ List.replicate n zbe)).1 ++ acts⟩) ((0 : Nat) : Int)) := by
  unfold kWT zcU
  rw [hp, show List.findIdx? (fun v => z9 v.Name zgg) (zcG (zY ++ List.replicate n zbe)).Funcs = some 0 from by kernel_rfl]
  rfl
 have hW : kWh (ck0 (zcG (zY ++ List.replicate n zbe))) = .ok (wM (zdc (zbW c' 0) ⟨znT, 0, false, c'.vars, (mR (zY ++ List.replicate n zbe)).1 ++ acts⟩) ((0 : Nat) : Int)) := by
  show (match (match kBd (ck0 (zcG (zY ++ List.replicate n zbe))) 0 (zdl (zY ++ List.replicate n zbe)) with
   | .error e => Except.error (0 + 0, e)
   | .ok c' => kWB 0 0 (0 + 1) c') with
   | .error x => Except.error x
   | .ok c' => kWT (0 + 1) c') = _
  rw [hB]
  exact hT
 refine ⟨(wM (zdc (zbW c' 0) ⟨znT, 0, false, c'.vars, (mR (zY ++ List.replicate n zbe)).1 ++ acts⟩) ((0 : Nat) : Int)).tree, ?_, ?_⟩
 ·show c'.tree.Points.length = _
  rw [h2, m2]
 ·unfold kP
  rw [hW]
  show zgD _ _ = _
  unfold zgD
  have hb : ((wM (zdc (zbW c' 0) ⟨znT, 0, false, c'.vars, (mR (zY ++ List.replicate n zbe)).1 ++ acts⟩) ((0 : Nat) : Int)).tree.Bodies.any fun b => decide ((b.Vars.length : Int) > 64)) = false := by
   show ((c'.tree.Bodies ++ [_]).any _) = false
   rw [h4, m4, List.nil_append, List.any_cons, List.any_nil, Bool.or_false]
   show decide ((c'.vars.length : Int) > 64) = false
   rw [h3, m3]
   rfl
  have hq : (wM (zdc (zbW c' 0) ⟨znT, 0, false, c'.vars, (mR (zY ++ List.replicate n zbe)).1 ++ acts⟩) ((0 : Nat) : Int)).tree.Points.length = 4 + n := by
   show c'.tree.Points.length = _
   rw [h2, m2]
  rw [hb, hq, show decide (((zcG (zY ++ List.replicate n zbe)).Funcs.length : Int) > 64) = false from rfl, Bool.or_false, Bool.false_or]
theorem zj6 (p1 : Bool) {x20 : Int} {N : Nat} (hN : IntKind.i64.wrap (996 + x20) = (N : Int)) (hN2 : N ≤ 2000) : ∀ n i, i ≤ N → N - i < n → zdm p1 x20 n (zY ++ List.replicate i zbe) (i : Int) = zdH p1 [zdl (zY ++ List.replicate N zbe)] := by
 intro n
 induction n with
 | zero => intro i _ h; omega
 | succ n ih =>
  intro i hi hn
  show zfK (zdm p1 x20 n) p1 x20 (zY ++ List.replicate i zbe) (i : Int) = _
  unfold zfK
  rw [hN]
  have hl : (zY ++ List.replicate i zbe).length = 2 + i := by
   rw [List.length_append, List.length_replicate]
   rfl
  by_cases h : i < N
  ·rw [if_pos (zca (by omega))]
   unfold zeg
   rw [if_neg (by decide), zcr (by show 2 * ((zY ++ List.replicate i zbe).length + 1) ≤ _; omega), Option.bind_some, zcS (by omega)]
   have := ih (i + 1) (by omega) (by omega)
   rw [List.replicate_succ', ← List.append_assoc] at this
   exact this
  ·have : i = N := by omega
   subst this
   rw [if_neg (by simp)]
   rfl
theorem zjT (p1 : Bool) {N : Nat} (hN : N ≤ 2000) (h : if p1 = true then 4 + N > 1000 else 4 + N ≤ 1000) : zdH p1 [zdl (zY ++ List.replicate N zbe)] = some true := by
 unfold zdH
 show (zcD (zcG (zY ++ List.replicate N zbe))).bind _ = _
 rw [zmn (zlv (by omega)), Option.bind_some]
 obtain ⟨t, h1, h2⟩ := zml (n := N)
 rw [h2]
 cases p1 with
 | true =>
  have h : 4 + N > 1000 := h
  rw [zca (p := ((4 + N : Nat) : Int) > 1000) (by omega)]
  rfl
 | false =>
  have h : 4 + N ≤ 1000 := h
  rw [zhz (p := ((4 + N : Nat) : Int) > 1000) (by omega)]
  rfl
theorem zlR : zdB false 0 big zY 0 = some true := by kernel_rfl
theorem zk6 : zdB true 1 big zY 0 = some true := by kernel_rfl
theorem zll : zel false 0 big [zdl zY] 0 = some true := by kernel_rfl
theorem znO : zel true 1 big [zdl zY] 0 = some true := by kernel_rfl
theorem zkD : zdm true 1 big zY 0 = some true := (zj6 true (x20 := 1) (N := 997) (by kernel_rfl) (by decide) big 0 (by omega) (zcy (by omega))).trans (zjT true (by decide) (by decide))
theorem zlB : zdm false 0 big zY 0 = some true := (zj6 false (x20 := 0) (N := 996) (by kernel_rfl) (by decide) big 0 (by omega) (zcy (by omega))).trans (zjT false (by decide) (by decide))
theorem zlY {p0 : Int} (h : 0 ≤ p0 ∧ p0 < 256) (p1 : Bool) : zgV p0 p1 = some true := by
 unfold zgV
 rw [zmQ, Option.bind_some, zk2]
 have h3 : Int.tmod p0 3 = p0 % 3 := Int.tmod_eq_emod_of_nonneg h.1
 have key : ∀ x20 : Int, x20 = (if p1 = true then 1 else 0) → zeU p0 p1 zY x20 = some true := fun x20 hx => by
  unfold zeU
  rw [h3]
  by_cases h0 : p0 % 3 = 0
  ·rw [if_pos (zjV h0)]
   cases p1 with
   | true => rw [show x20 = 1 from hx]; exact zk6
   | false => rw [show x20 = 0 from hx]; exact zlR
  rw [if_neg (by rw [zgI h0]; decide)]
  by_cases h1 : p0 % 3 = 1
  ·rw [if_pos (zjV h1)]
   cases p1 with
   | true => rw [show x20 = 1 from hx]; exact znO
   | false => rw [show x20 = 0 from hx]; exact zll
  ·rw [if_neg (by rw [zgI h1]; decide)]
   cases p1 with
   | true => rw [show x20 = 1 from hx]; exact zkD
   | false => rw [show x20 = 0 from hx]; exact zlB
 cases p1 with
 | true =>
  rw [if_pos rfl]
  exact key 1 rfl
 | false =>
  rw [if_neg (by decide)]
  exact key 0 rfl
end Go.Proofs.Ytakcaekikfcbpaa
