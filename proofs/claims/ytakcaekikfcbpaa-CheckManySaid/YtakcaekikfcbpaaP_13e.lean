import Derived.Test.YtakcaekikfcbpaaP_13d
import Derived.KernelRfl
namespace Go.Proofs.Ytakcaekikfcbpaa
open Go.Ab Go.RowKit
set_option linter.unusedVariables false
set_option linter.unusedSimpArgs false
def szD : List zB → Nat
 | [] => 0
 | d :: l => zO d.Body + szD l
theorem zlS {l : List zB} {d : zB} (h : d ∈ l) : zO d.Body ≤ szD l := by
 induction l with
 | nil => cases h
 | cons e l ih =>
  show zO d.Body ≤ zO e.Body + szD l
  cases h with
  | head => omega
  | tail _ h => have := ih h; omega
def kWS (c : Ck) : Nat → Nat → Except (Nat × Int) Unit
 | 0, _ => .ok ()
 | m + 1, i => match c.prog.Structs[i]? with
  | none => .ok ()
  | some s => match kSt c i s with
   | .error e => .error (i, e)
   | .ok _ => kWS c m (i + 1)
def kWB (N : Nat) : Nat → Nat → Ck → Except (Nat × Int) Ck
 | 0, _, c => .ok c
 | m + 1, i, c => match c.prog.Funcs[i]? with
  | none => .ok c
  | some d => match kBd c i d with
   | .error e => .error (N + i, e)
   | .ok c' => kWB N m (i + 1) c'
def zgg : BA := znT
def kWT (N : Nat) (c : Ck) : Except (Nat × Int) Ck := match zcU c zgg with
 | none => .error (N, 8)
 | some m => match c.prog.Funcs[m]? with
  | none => .error (N, 8)
  | some d => if (((d.Params.length : Int) == 0) && ((d.Result.Kind.toNat : Int) == 0)) = true then .ok (wM c (m : Int)) else .error (N, 8)
def kWh (c : Ck) : Except (Nat × Int) Ck := match kWS c c.prog.Structs.length 0 with
 | .error x => .error x
 | .ok _ => match kWB c.prog.Structs.length c.prog.Funcs.length 0 c with
  | .error x => .error x
  | .ok c' => kWT (c.prog.Structs.length + c.prog.Funcs.length) c'
def ck0 (p : zs) : Ck := ⟨p, ⟨[], 0, []⟩, 0, [], []⟩
def zhV : zx := ⟨[], 0, []⟩
def zgD (p : zs) (t : zx) : zx × Int × Int :=
 if ((t.Bodies.any (fun b => decide ((b.Vars.length : Int) > 64)) || decide ((p.Funcs.length : Int) > 64)) || decide ((t.Points.length : Int) > 1000)) = true then (zhV, 0, 11) else (t, 0, 0)
def kP (p : zs) : zx × Int × Int := match kWh (ck0 p) with
 | .error x => (zhV, (x.1 : Int), x.2)
 | .ok c => zgD p c.tree
structure Bp (p : zs) : Prop where
 st : p.Structs.length ≤ 100000000
 sf : ∀ s ∈ p.Structs, s.Fields.length ≤ 100000000
 fu : p.Funcs.length ≤ 100000000
 fp : ∀ d ∈ p.Funcs, d.Params.length ≤ 100000000
 sz : szD p.Funcs ≤ 100000000
theorem zkm {c : Ck} (h : Bp c.prog) : ∀ (k m i : Nat), i + m = c.prog.Structs.length → m < k → match kWS c m i with
  | .error x => wS c k (i : Int) (i : Int) = some (.error ((x.1 : Int), pe x.2)) ∧ (x.2 = 8 ∨ x.2 = 9 ∨ x.2 = 10)
  | .ok _ => wS c k (i : Int) (i : Int) = some (.ok (c.prog.Structs.length : Int))
 | 0, m, i, h1, h2 => by omega
 | k + 1, 0, i, h1, h2 => by
  show wS c (k + 1) (i : Int) (i : Int) = _
  unfold wS
  rw [if_neg (by simp; omega)]
  congr 2; omega
 | k + 1, m + 1, i, h1, h2 => by
  have hi : i < c.prog.Structs.length := by omega
  have hs := h.st
  have ih := zkm h k m (i + 1) (by omega) (by omega)
  have e0 : zdv c (i : Int) = tU (kSt c i c.prog.Structs[i]) := znE hi (by omega) (fun s hm => by have := h.sf s hm; omega)
  unfold kWS
  rw [List.getElem?_eq_getElem hi]
  dsimp only
  have e1 : wS c (k + 1) (i : Int) (i : Int) = (match zdv c (i : Int) with
   | none => none
   | some (.error v) => some (.error ((i : Int), v))
   | some (.ok _) => wS c k (IntKind.i64.wrap ((i : Int) + 1)) (IntKind.i64.wrap ((i : Int) + 1))) := if_pos (zca (by omega))
  rw [e0, zcS (by omega)] at e1
  cases e : kSt c i c.prog.Structs[i] with
  | error e' =>
   rw [e] at e1
   exact ⟨e1, zmM _ _ _ _ e⟩
  | ok u =>
   rw [e] at e1
   rw [e1]
   exact ih
theorem znF {c c' : Ck} {i : Nat} {d : zB} (h : kBd c i d = .ok c') : c'.prog = c.prog ∧ c'.tree.Points.length ≤ c.tree.Points.length + 2 * zO d.Body ∧ ∃ b, c'.tree.Bodies = c.tree.Bodies ++ [b] := by
 unfold kBd at h
 obtain ⟨_, _, h⟩ := zbv h
 obtain ⟨_, _, h⟩ := zbv h
 obtain ⟨_, _, h⟩ := zbv h
 obtain ⟨_, _, h⟩ := zbv h
 obtain ⟨r, h1, h⟩ := zbv h
 obtain ⟨_, _, h⟩ := zbv h
 injection h with h
 subst h
 have g := zim h1
 exact ⟨g.prog, g.pts, _, congrArg (· ++ _) g.bod⟩
theorem zjl {p : zs} (h : Bp p) : ∀ (k m i : Nat) (c : Ck), c.prog = p → i + m = p.Funcs.length → m < k → c.tree.Bodies.length = i → c.tree.Points.length + 2 * szD (p.Funcs.drop i) ≤ 1000000000 → match kWB p.Structs.length m i c with
  | .error x => (∃ c', wB p.Funcs.length k c ((p.Structs.length + i : Nat) : Int) (i : Int) = some (.error ((x.1 : Int), pe x.2, c'))) ∧ (x.2 = 8 ∨ x.2 = 9 ∨ x.2 = 10)
  | .ok c' => wB p.Funcs.length k c ((p.Structs.length + i : Nat) : Int) (i : Int) = some (.ok (((p.Structs.length + p.Funcs.length : Nat) : Int), c')) ∧ c'.prog = p ∧ c'.tree.Bodies.length = p.Funcs.length
 | 0, m, i, c, _, h1, h2, _, _ => by omega
 | k + 1, 0, i, c, hc, h1, h2, hb, _ => by
  refine ⟨?_, hc, by omega⟩
  unfold wB
  rw [if_neg (by simp; omega)]
  congr 4; omega
 | k + 1, m + 1, i, c, hc, h1, h2, hb, hp => by
  subst hc
  have hi : i < c.prog.Funcs.length := by omega
  have hs := h.st
  have hfu := h.fu
  have hsz := h.sz
  rw [List.drop_eq_getElem_cons hi] at hp
  have hp : c.tree.Points.length + 2 * (zO c.prog.Funcs[i].Body + szD (c.prog.Funcs.drop (i + 1))) ≤ 1000000000 := hp
  have hm := zlS (List.getElem_mem hi)
  have e0 := zlX hi (by omega) (fun s hm => by have := h.sf s hm; omega) (by omega) h.fp (by omega) (by omega) (by omega)
  unfold kWB
  rw [List.getElem?_eq_getElem hi]
  dsimp only
  have e1 : wB c.prog.Funcs.length (k + 1) c ((c.prog.Structs.length + i : Nat) : Int) (i : Int) = (match zdw c (i : Int) with
   | none => none
   | some (.error v) => some (.error (((c.prog.Structs.length + i : Nat) : Int), v.1, v.2))
   | some (.ok q') => wB c.prog.Funcs.length k q' (IntKind.i64.wrap (((c.prog.Structs.length + i : Nat) : Int) + 1)) (IntKind.i64.wrap ((i : Int) + 1))) := if_pos (zca (by omega))
  rw [zcS (by omega), zcS (by omega)] at e1
  cases e : kBd c i c.prog.Funcs[i] with
  | error e' =>
   rw [e] at e0
   obtain ⟨c', e0⟩ := e0
   rw [e0] at e1
   exact ⟨⟨c', e1⟩, zlm _ _ _ _ e⟩
  | ok c' =>
   rw [e] at e0
   obtain ⟨g1, g2, b, g3⟩ := znF e
   rw [show zdw c (i : Int) = some (.ok c') from e0] at e1
   have ih := zjl h k m (i + 1) c' g1 (by omega) (by omega) (by rw [g3]; simp [hb]) (by omega)
   rw [e1]
   exact ih
theorem znG {p : zs} (h : Bp p) {N : Nat} {c : Ck} (hc : c.prog = p) : match kWT N c with
  | .error x => (∃ c', wT (N : Int) c = some ((x.1 : Int), x.2, c')) ∧ (x.2 = 8 ∨ x.2 = 9 ∨ x.2 = 10)
  | .ok c' => wT (N : Int) c = some ((N : Int), 0, c') ∧ c'.tree.Bodies = c.tree.Bodies := by
 subst hc
 have hfu := h.fu
 unfold kWT wT
 rw [show zex c znT = some (fo (zcU c zgg)) from zjp (by omega), Option.bind_some]
 cases e : zcU c zgg with
 | none => exact ⟨⟨_, rfl⟩, .inl rfl⟩
 | some m =>
  have hm := zf7 e
  rw [show fo (some m) = (m : Int) from rfl, zbS (zca (by omega))]
  dsimp only
  rw [zbQ hm, List.getElem?_eq_getElem hm, Option.bind_some]
  dsimp only
  by_cases hb : (((c.prog.Funcs[m].Params.length : Int) == 0) && ((c.prog.Funcs[m].Result.Kind.toNat : Int) == 0)) = true
  ·rw [zbS hb, if_pos hb]
   exact ⟨rfl, rfl⟩
  ·rw [zb2 hb, if_neg hb]
   exact ⟨⟨_, rfl⟩, .inl rfl⟩
theorem znK {c : Ck} (h : Bp c.prog) (hc : c.tree.Points = []) (hb : c.tree.Bodies = []) : match kWh c with
  | .error x => (∃ c', zdF c = some ((x.1 : Int), x.2, c')) ∧ (x.2 = 8 ∨ x.2 = 9 ∨ x.2 = 10)
  | .ok c' => (∃ n, zdF c = some (n, 0, c')) ∧ c'.tree.Bodies.length = c.prog.Funcs.length := by
 have hst := h.st
 have hfu := h.fu
 have hsz := h.sz
 unfold kWh zdF
 have e1 := zkm h big c.prog.Structs.length 0 (by omega) (zcy (by omega))
 cases e : kWS c c.prog.Structs.length 0 with
 | error x =>
  rw [e] at e1
  rw [show wS c big 0 0 = _ from e1.1]
  exact ⟨⟨_, rfl⟩, e1.2⟩
 | ok u =>
  rw [e] at e1
  rw [show wS c big 0 0 = _ from e1]
  dsimp only
  have e2 := zjl h big c.prog.Funcs.length 0 c rfl (by omega) (zcy (by omega)) (by rw [hb]; rfl) (by rw [hc, List.drop_zero]; simp; omega)
  cases e' : kWB c.prog.Structs.length c.prog.Funcs.length 0 c with
  | error x =>
   rw [e'] at e2
   obtain ⟨⟨c', e2⟩, e3⟩ := e2
   rw [show wB c.prog.Funcs.length big c (c.prog.Structs.length : Int) 0 = _ from e2]
   exact ⟨⟨_, rfl⟩, e3⟩
  | ok c' =>
   rw [e'] at e2
   obtain ⟨e2, e3, e4⟩ := e2
   rw [show wB c.prog.Funcs.length big c (c.prog.Structs.length : Int) 0 = _ from e2]
   dsimp only
   have e5 := znG h (N := c.prog.Structs.length + c.prog.Funcs.length) e3
   cases e6 : kWT (c.prog.Structs.length + c.prog.Funcs.length) c' with
   | error x =>
    rw [e6] at e5
    exact e5
   | ok c2 =>
    rw [e6] at e5
    exact ⟨⟨_, e5.1⟩, by rw [e5.2]; exact e4⟩
theorem zmn {p : zs} (h : Bp p) : zcD p = some (kP p) := by
 have hfu := h.fu
 unfold zcD kP
 have e := znK (c := ck0 p) h rfl rfl
 cases e1 : kWh (ck0 p) with
 | error x =>
  rw [e1] at e
  obtain ⟨⟨c', e2⟩, e3⟩ := e
  rw [show zdF (⟨(⟨p.Structs, p.Funcs⟩ : zs), (⟨([] : List zI), 0, ([] : List zE)⟩ : zx), 0, [], ([] : List Int)⟩ : zb) = _ from e2, Option.bind_some, if_pos (zhG (by show x.2 ≠ 0; omega))]
  rfl
 | ok c =>
  rw [e1] at e
  obtain ⟨⟨n, e2⟩, e3⟩ := e
  rw [show zdF (⟨(⟨p.Structs, p.Funcs⟩ : zs), (⟨([] : List zI), 0, ([] : List zE)⟩ : zx), 0, [], ([] : List Int)⟩ : zb) = _ from e2, Option.bind_some, if_neg (show ¬ ((0 : Int) != 0) = true from by decide)]
  unfold zgc
  have e4 : c.tree.Bodies.length = p.Funcs.length := e3
  rw [show zf1 c.tree.Bodies = some (fo (c.tree.Bodies.findIdx? (fun b : zI => decide ((b.Vars.length : Int) > 64)))) from ixB (l := c.tree.Bodies) (p := fun b : zI => decide ((b.Vars.length : Int) > 64)) (by omega) fun _ _ => rfl, Option.bind_some, Option.bind_some, zif]
  unfold zgD
  dsimp only
  split <;> rfl
end Go.Proofs.Ytakcaekikfcbpaa
