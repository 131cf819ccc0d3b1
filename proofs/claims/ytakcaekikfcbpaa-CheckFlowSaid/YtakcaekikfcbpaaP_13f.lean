import Derived.Test.YtakcaekikfcbpaaP_13e
import Derived.KernelRfl
namespace Go.Proofs.Ytakcaekikfcbpaa
open Go.Ab Go.RowKit
set_option linter.unusedVariables false
set_option linter.unusedSimpArgs false
def nB : BA := znk
def zda : zc := ⟨1, 1, nB, nB, nB, []⟩
def stm (kd : UInt8) (ks : List zc) (b e : List Stm) : Stm := ⟨kd, 0, nB, nB, nB, ⟨0, 0, nB⟩, ks, b, e⟩
inductive Tw : Nat → List Stm → Bool → Prop where
 | ret : Tw 0 [stm 10 [zda] [] []] true
 | prt : Tw 0 [stm 8 [zda] [] []] false
 | ite {d : Nat} {a b : List Stm} {x y : Bool} : Tw d a x → Tw d b y → Tw (d + 1) [stm 6 [⟨2, 1, nB, nB, nB, []⟩] a b] (x && y)
theorem Tw.sz {d : Nat} {l : List Stm} {b : Bool} (h : Tw d l b) : zQ l + 2 ≤ 2 ^ (d + 2) := by
 induction h with
 | ret => decide
 | prt => decide
 | @ite d a b x y _ _ h1 h2 =>
  show (1 + (1 + 0 + 0) + zQ a + zQ b + 0) + 2 ≤ _
  have : 2 ^ (d + 1 + 2) = 2 ^ (d + 2) * 2 := Nat.pow_succ 2 (d + 2)
  omega
theorem Tw.rl {d : Nat} {l : List Stm} {b : Bool} (h : Tw d l b) : rL l = b := by
 induction h with
 | ret => rfl
 | prt => rfl
 | @ite d a b x y _ _ h1 h2 =>
  show (rL a && rL b) = _
  rw [h1, h2]
theorem Tw.kl {d : Nat} {l : List Stm} {b : Bool} (h : Tw d l b) : ∀ {c : Ck}, rk c = 1 → ∃ acts c', kL l c = .ok (acts, c') ∧ c'.prog = c.prog ∧ c'.fn = c.fn ∧ c'.vars = c.vars ∧ c'.tree.Bodies = c.tree.Bodies ∧ c'.tree.Points.length + 1 ≤ c.tree.Points.length + 2 ^ (d + 1) := by
 induction h with
 | ret =>
  intro c hr
  have h1 : kS (stm 10 [zda] [] []) c = .ok (⟨10, c.tree.Points.length, -1, 0, -1, [⟨1, 0, 0, 1, []⟩], [], []⟩, zbf c 0) := by
   rw [zhF]
   show eb (kvs (zbf c 0) [zda] (if (((rk c).toNat : Int) != 0) = true then [rk c] else [])) _ = _
   rw [hr]
   rfl
  refine ⟨[⟨10, c.tree.Points.length, -1, 0, -1, [⟨1, 0, 0, 1, []⟩], [], []⟩], zce (zbf c 0) c.scope.length, ?_, ?_⟩
  ·show eb (eb (kS (stm 10 [zda] [] []) c) _) _ = _
   rw [h1]
   rfl
  ·exact ⟨rfl, rfl, rfl, rfl, by simp [zce, zbf]⟩
 | prt =>
  intro c hr
  refine ⟨_, _, rfl, rfl, rfl, rfl, rfl, ?_⟩
  show (c.tree.Points ++ [_]).length + 1 ≤ _
  simp
 | @ite d a b x y _ _ h1 h2 =>
  intro c hr
  obtain ⟨a1, c1, e1, p1, f1, v1, b1, n1⟩ := h1 (c := zbf c 0) hr
  have hr1 : rk c1 = 1 := by
   unfold rk
   rw [p1, f1]
   exact hr
  obtain ⟨a2, c2, e2, p2, f2, v2, b2, n2⟩ := h2 hr1
  have h3 : kS (stm 6 [⟨2, 1, nB, nB, nB, []⟩] a b) c = .ok (⟨6, c.tree.Points.length, -1, 0, -1, [⟨1, 0, 0, 1, []⟩], a1, a2⟩, c2) := by
   rw [zhF]
   show eb (kL a (zbf c 0)) (fun b' => eb (kL b b'.2) fun e => .ok ((⟨6, c.tree.Points.length, -1, 0, -1, [⟨1, 0, 0, 1, []⟩], b'.1, e.1⟩ : zi), e.2)) = _
   rw [e1]
   show eb (kL b c1) _ = _
   rw [e2]
   rfl
  refine ⟨[⟨6, c.tree.Points.length, -1, 0, -1, [⟨1, 0, 0, 1, []⟩], a1, a2⟩], zce c2 c.scope.length, ?_, p2.trans p1, f2.trans f1, v2.trans v1, b2.trans b1, ?_⟩
  ·show eb (eb (kS _ c) _) _ = _
   rw [h3]
   rfl
  ·show c2.tree.Points.length + 1 ≤ _
   have e3 : (zbf c 0).tree.Points.length = c.tree.Points.length + 1 := by simp [zbf]
   have : 2 ^ (d + 1 + 1) = 2 ^ (d + 1) * 2 := Nat.pow_succ 2 (d + 1)
   omega
theorem zhV (ways : List Bool) : ∀ (n d at' : Nat) (all : Bool), d < n → d ≤ 4 → at' + 2 ^ d ≤ 1000000 → ∃ l k b, zdW n ways (d : Int) (at' : Int) all = some (l, ((at' + k : Nat) : Int), all && b) ∧ Tw d l b ∧ k ≤ 2 ^ d
 | 0, d, _, _, h, _, _ => by omega
 | n + 1, 0, a, all, _, _, ha => by
  have key : ∀ b, (if b = true then (zdf 1).bind fun c15 => some (([(⟨(10 : UInt8), 0, znk, znk, znk, (⟨(0 : UInt8), 0, znk⟩ : zx), ([(⟨c15.Kind, c15.Num, c15.Name, c15.Field, c15.Op, c15.Kids⟩ : zc)] : List zc), [], []⟩ : zg)] : List zg), (IntKind.i64.wrap ((a : Int) + 1)), all) else (zdf 1).bind fun c33 => some (([(⟨(8 : UInt8), 0, znk, znk, znk, (⟨(0 : UInt8), 0, znk⟩ : zx), ([(⟨c33.Kind, c33.Num, c33.Name, c33.Field, c33.Op, c33.Kids⟩ : zc)] : List zc), [], []⟩ : zg)] : List zg), (IntKind.i64.wrap ((a : Int) + 1)), false)) = some (if b = true then [stm 10 [zda] [] []] else [stm 8 [zda] [] []], ((a + 1 : Nat) : Int), all && b) := fun b => by
   rw [zcL (by omega)]
   cases b
   ·rw [Bool.and_false]; rfl
   ·rw [Bool.and_true]; rfl
  have ex : ∀ b : Bool, Tw 0 (if b = true then [stm 10 [zda] [] []] else [stm 8 [zda] [] []]) b := fun b => by
   cases b
   ·exact .prt
   ·exact .ret
  show ∃ l k b, zdU (zdW n) ways 0 (a : Int) all = _ ∧ _
  unfold zdU
  rw [if_pos (show ((0 : Int) == 0) = true from rfl)]
  by_cases h : a < ways.length
  ·rw [if_pos (zb4 (by omega)), zbH h]
   exact ⟨_, 1, ways[a], key ways[a], ex _, Nat.le_refl _⟩
  ·rw [if_neg (by simp; omega)]
   exact ⟨_, 1, false, key false, ex _, Nat.le_refl _⟩
 | n + 1, d + 1, a, all, h, hd, ha => by
  have h16 : 2 ^ (d + 1) = 2 ^ d * 2 := Nat.pow_succ 2 d
  obtain ⟨l1, k1, b1, e1, t1, n1⟩ := zhV ways n d a all (by omega) (by omega) (by omega)
  obtain ⟨l2, k2, b2, e2, t2, n2⟩ := zhV ways n d (a + k1) (all && b1) (by omega) (by omega) (by omega)
  refine ⟨[stm 6 [⟨2, 1, nB, nB, nB, []⟩] l1 l2], k1 + k2, b1 && b2, ?_, .ite t1 t2, by rw [Nat.pow_succ]; omega⟩
  show zdU (zdW n) ways ((d + 1 : Nat) : Int) (a : Int) all = _
  unfold zdU
  rw [if_neg (by simp; omega), show IntKind.i64.wrap (((d + 1 : Nat) : Int) - 1) = (d : Int) from by rw [zfG (by omega)]; omega, e1, Option.bind_some, e2, Option.bind_some]
  show some ([stm 6 [⟨2, 1, nB, nB, nB, []⟩] l1 l2], ((a + k1 + k2 : Nat) : Int), (all && b1) && b2) = _
  rw [Bool.and_assoc, Nat.add_assoc]
def pl1 : List zP := match zc5 1 with
 | some p => p.Funcs
 | none => []
def zdp : zP := match pl1 with
 | d :: _ => d
 | [] => ⟨nB, 0, [], noT, []⟩
theorem zkf : zc5 1 = some ⟨[], [zdp]⟩ := rfl
def flD (l : List Stm) : zP := ⟨zno, 9, [], ⟨1, 0, nB⟩, l⟩
def flP (l : List Stm) : zq := ⟨[], [zdp, flD l]⟩
def flC (l : List Stm) : Ck := match kBd (ck0 (flP l)) 0 zdp with
 | .ok c => c
 | .error _ => ck0 (flP l)
theorem zlD (l : List Stm) : kBd (ck0 (flP l)) 0 zdp = .ok (flC l) ∧ (flC l).prog = flP l ∧ (flC l).tree.Points.length = 4 ∧ ((flC l).tree.Bodies.any fun b => decide ((b.Vars.length : Int) > 64)) = false := ⟨by kernel_rfl, by kernel_rfl, by kernel_rfl, by kernel_rfl⟩
theorem zmu {l : List Stm} {acts : List zi} {c' : Ck} (h : kL l (zbY (flC l) ((1 : Nat) : Int) [] []) = .ok (acts, c')) : kBd (flC l) 1 (flD l) = eb (ck (!(((1 : UInt8).toNat : Int) != 0) || rL l) 10) fun _ => .ok (zcR c' ⟨zno, 0, true, c'.vars, acts⟩) := by
 unfold kBd
 rw [show fo (zcK (flC l) (flD l).Name) = ((1 : Nat) : Int) from by kernel_rfl]
 show eb (kL l (zbY (flC l) ((1 : Nat) : Int) [] [])) _ = _
 rw [h]
 rfl
theorem zks {l : List Stm} (h : zQ l ≤ 1000) : Bp (flP l) := by
 have h1 : zQ zdp.Body ≤ 100 := by decide
 refine ⟨Nat.zero_le _, fun s hs => (by cases hs), by show 2 ≤ _; omega, fun d hd => ?_, by show zQ zdp.Body + (zQ l + 0) ≤ _; omega⟩
 rw [show (flP l).Funcs = [zdp, flD l] from rfl] at hd
 rw [List.mem_cons, List.mem_singleton] at hd
 rcases hd with hd | hd <;> subst hd <;> exact Nat.zero_le _
theorem zla {d : Nat} {l : List Stm} {b : Bool} (hd : d ≤ 4) (h : Tw d l b) : (b = true → (kP (flP l)).2.2 = 0) ∧ (b = false → (kP (flP l)).2.1 = 1 ∧ (kP (flP l)).2.2 = 10) := by
 obtain ⟨m1, m2, m3, m4⟩ := zlD l
 have hr : rk (zbY (flC l) ((1 : Nat) : Int) [] []) = 1 := by
  unfold rk
  show (match zJ (flC l).prog.Funcs ((1 : Nat) : Int) with | some d => d.Result.Kind | none => 0) = 1
  rw [m2]
  rfl
 obtain ⟨acts, c', e1, e2, e3, e4, e5, e6⟩ := h.kl hr
 have hp : 2 ^ (d + 1) ≤ 2 ^ 5 := Nat.pow_le_pow_right (n := 2) (by decide) (by omega)
 have hk := zmu e1
 rw [h.rl] at hk
 have w1 : kWh (ck0 (flP l)) = (match kBd (flC l) 1 (flD l) with
  | .error e => .error (0 + 1, e)
  | .ok c2 => kWT (0 + 2) c2) := by
  show (match (match kBd (ck0 (flP l)) 0 zdp with
   | .error e => Except.error (0 + 0, e)
   | .ok c' => kWB 0 1 (0 + 1) c') with
   | .error x => Except.error x
   | .ok c' => kWT (0 + 2) c') = _
  rw [m1]
  show (match kWB 0 1 1 (flC l) with
   | .error x => Except.error x
   | .ok c' => kWT (0 + 2) c') = _
  rw [show kWB 0 1 1 (flC l) = (match (flC l).prog.Funcs[1]? with
   | none => Except.ok (flC l)
   | some d => match kBd (flC l) 1 d with
    | .error e => .error (0 + 1, e)
    | .ok c' => kWB 0 0 (1 + 1) c') from rfl, m2]
  show (match (match kBd (flC l) 1 (flD l) with
    | .error e => Except.error (0 + 1, e)
    | .ok c' => .ok c') with
   | .error x => Except.error x
   | .ok c' => kWT (0 + 2) c') = _
  cases kBd (flC l) 1 (flD l) <;> rfl
 unfold kP
 rw [w1, hk]
 cases b with
 | false => exact ⟨fun h => (by cases h), fun _ => ⟨rfl, rfl⟩⟩
 | true =>
  refine ⟨fun _ => ?_, fun h => (by cases h)⟩
  show (match kWT (0 + 2) (zcR c' ⟨zno, 0, true, c'.vars, acts⟩) with
   | .error x => (zgI, (x.1 : Int), x.2)
   | .ok c => zfy (flP l) c.tree).2.2 = 0
  have hpr : (zcR c' ⟨zno, 0, true, c'.vars, acts⟩).prog = flP l := e2.trans m2
  have hw : kWT (0 + 2) (zcR c' ⟨zno, 0, true, c'.vars, acts⟩) = .ok (wM (zcR c' ⟨zno, 0, true, c'.vars, acts⟩) ((0 : Nat) : Int)) := by
   unfold kWT zcK
   rw [hpr, show List.findIdx? (fun v => zV v.Name zfQ) (flP l).Funcs = some 0 from by kernel_rfl]
   rfl
  rw [hw]
  have hb : ((zcR c' ⟨zno, 0, true, c'.vars, acts⟩).tree.Bodies.any fun b => decide ((b.Vars.length : Int) > 64)) = false := by
   show ((c'.tree.Bodies ++ [_]).any _) = false
   rw [List.any_append, e5]
   rw [show (zbY (flC l) ((1 : Nat) : Int) [] []).tree.Bodies = (flC l).tree.Bodies from rfl, m4, e4]
   rfl
  have hq : (zbY (flC l) ((1 : Nat) : Int) [] []).tree.Points.length = 4 := m3
  show (zfy (flP l) (wM (zcR c' ⟨zno, 0, true, c'.vars, acts⟩) ((0 : Nat) : Int)).tree).2.2 = 0
  unfold zfy
  rw [show (wM (zcR c' ⟨zno, 0, true, c'.vars, acts⟩) ((0 : Nat) : Int)).tree.Bodies = (zcR c' ⟨zno, 0, true, c'.vars, acts⟩).tree.Bodies from rfl, hb, show decide (((flP l).Funcs.length : Int) > 64) = false from rfl, if_neg]
  show ¬ ((false || false) || decide ((c'.tree.Points.length : Int) > 1000)) = true
  simp
  omega
theorem zkV (ways : List Bool) {p : Int} (hp : 0 ≤ p ∧ p < 256) : zfE ways p = some true := by
 unfold zfE
 by_cases h : decide ((ways.length : Int) > 64) = true
 ·rw [if_pos h]
  rfl
 rw [if_neg h]
 have hd : ∃ d : Nat, Int.tmod (IntKind.i64.wrap p) 5 = (d : Int) ∧ d ≤ 4 := by
  refine ⟨(p % 5).toNat, ?_, by omega⟩
  rw [zfG (by omega), Int.tmod_eq_emod_of_nonneg hp.1]
  omega
 obtain ⟨d, h1, h2⟩ := hd
 rw [h1]
 have hp4 : 2 ^ d ≤ 2 ^ 4 := Nat.pow_le_pow_right (n := 2) (by decide) h2
 obtain ⟨l, k, b, e1, e2, e3⟩ := zhV ways big d 0 true (zct (by omega)) h2 (by omega)
 have e1 : zie ways (d : Int) 0 true = some (l, ((0 + k : Nat) : Int), true && b) := e1
 rw [e1, Option.bind_some, zkf, Option.bind_some, zb7 (by show 1 + 1 ≤ _; omega), Option.bind_some]
 have hs := e2.sz
 have hp6 : 2 ^ (d + 2) ≤ 2 ^ 6 := Nat.pow_le_pow_right (n := 2) (by decide) (by omega)
 show ((zcz (flP l)).bind _) = _
 rw [zkv (zks (by omega)), Option.bind_some]
 obtain ⟨g1, g2⟩ := zla h2 e2
 cases b with
 | true =>
  show (if ((kP (flP l)).2.2 == 0) = true then zeD else some false) = _
  rw [g1 rfl]
  rfl
 | false =>
  show (if (((kP (flP l)).2.1 == 1) && ((kP (flP l)).2.2 == 10)) = true then zeD else some false) = _
  rw [(g2 rfl).1, (g2 rfl).2]
  rfl
end Go.Proofs.Ytakcaekikfcbpaa
