import Derived.Test.YtakcaekikfcbpaaP_13a
import Derived.KernelRfl
namespace Go.Proofs.Ytakcaekikfcbpaa
open Go.Ab Go.RowKit
set_option linter.unusedVariables false
set_option linter.unusedSimpArgs false
mutual
def szS : Stm → Nat
 | ⟨_, _, _, _, _, _, ks, b, e⟩ => 1 + zbT ks + zO b + zO e
def zO : List Stm → Nat
 | [] => 0
 | e :: l => szS e + zO l
end
theorem zgo (s : Stm) : szS s = 1 + zbT s.Kids + zO s.Body + zO s.Else := by cases s; rfl
theorem zjS (e : Stm) : 1 ≤ szS e := by rw [zgo]; omega
theorem zhh : ∀ l : List Stm, l.length ≤ zO l
 | [] => Nat.le_refl _
 | e :: l => by
  have := zhh l
  have := zjS e
  show l.length + 1 ≤ szS e + zO l
  omega
theorem zid {l : List Stm} {x : Stm} (h : x ∈ l) : szS x ≤ zO l := by
 induction l with
 | nil => cases h
 | cons e l ih =>
  show szS x ≤ szS e + zO l
  cases h with
  | head => omega
  | tail _ h => have := ih h; omega
abbrev At3 := zj × Ck
theorem ziU (a : zj) : (⟨a.Kind, a.Point, a.Var, a.Field, a.Call, a.Kids, a.Body, a.Else⟩ : zj) = a := by cases a; rfl
def zbq (c : Ck) (ln : Int) : Ck := ⟨c.prog, ⟨c.tree.Bodies, c.tree.Main, c.tree.Points ++ [⟨c.fn, ln, c.scope⟩]⟩, c.fn, c.vars, c.scope⟩
def zdj (c : Ck) (v : zG) : Ck := ⟨c.prog, c.tree, c.fn, c.vars ++ [v], c.scope ++ [(c.vars.length : Int)]⟩
def zbW (c : Ck) (n : Nat) : Ck := ⟨c.prog, c.tree, c.fn, c.vars, c.scope.take n⟩
def kva (c : Ck) (p : Int) (kd : UInt8) (nm : BA) (ty : zk) (ks : List zc) : Er At3 :=
 eb (ck ((zdL c nm).isNone && knw c ty) 8) fun _ =>
 if ((ty.Kind.toNat : Int) == 3) = true then eb (ck ((decide (ty.N ≥ 1)) && (decide (ty.N ≤ 16))) 9) fun _ => eb (kvs c ks []) fun _ => .ok (⟨kd, p, (c.vars.length : Int), 0, -1, [], [], []⟩, zdj c ⟨nm, ty, ty.N, []⟩)
 else if ((ty.Kind.toNat : Int) == 4) = true then eb (kvs c ks []) fun _ => .ok (⟨kd, p, (c.vars.length : Int), 0, -1, [], [], []⟩, zdj c ⟨nm, ty, ((zdX c ty.Name).length : Int), zdX c ty.Name⟩)
 else eb (kvs c ks [ty.Kind]) fun l => .ok (⟨kd, p, (c.vars.length : Int), 0, -1, l, [], []⟩, zdj c ⟨nm, ty, 1, []⟩)
def kas (c : Ck) (p : Int) (kd : UInt8) (nm fd : BA) (ks : List zc) : Er At3 := eb (fnd c nm) fun k =>
 if ((kd.toNat : Int) == 2) = true then eb (ck (sca (vt c k)) 9) fun _ => eb (kvs c ks [(vt c k).Kind]) fun l => .ok (⟨kd, p, k, 0, -1, l, [], []⟩, c)
 else if ((kd.toNat : Int) == 9) = true then eb (ck (((vt c k).Kind.toNat : Int) == 1) 9) fun _ => eb (kvs c ks []) fun l => .ok (⟨kd, p, k, 0, -1, l, [], []⟩, c)
 else if ((kd.toNat : Int) == 3) = true then eb (ck (((vt c k).Kind.toNat : Int) == 3) 9) fun _ => eb (kvs c ks [1, 1]) fun l => .ok (⟨kd, p, k, 0, -1, l, [], []⟩, c)
 else if ((kd.toNat : Int) == 4) = true then eb (ck (((vt c k).Kind.toNat : Int) == 4) 9) fun _ => eb (zez c k fd) fun f => eb (kvs c ks [1]) fun l => .ok (⟨kd, p, k, f, -1, l, [], []⟩, c)
 else .ok (⟨kd, p, k, 0, -1, [], [], []⟩, c)
def kcv (c : Ck) (nm : BA) : Er (Option Nat) := if (!(z9 nm znS)) = true then eb (fnd c nm) fun k => eb (ck (sca (vt c k)) 9) fun _ => .ok (some k) else .ok none
def kwn (d : zB) : List UInt8 := d.Params.map fun x => x.Type_.Kind
def kfi (c : Ck) (v : Option Nat) (d : zB) : Bool := match v with
 | none => true
 | some k => ((vt c k).Kind.toNat : Int) == (d.Result.Kind.toNat : Int)
def kca (c : Ck) (p : Int) (kd : UInt8) (nm ca : BA) (ks : List zc) : Er At3 := eb (kcv c nm) fun v => match zcU c ca with
 | none => .error 8
 | some f => match c.prog.Funcs[f]? with
  | none => .error 8
  | some d => eb (kvs c ks (kwn d)) fun l => eb (ck (kfi c v d) 9) fun _ => .ok (⟨kd, p, fo v, 0, f, l, [], []⟩, c)
def rk (c : Ck) : UInt8 := match zL c.prog.Funcs c.fn with
 | some d => d.Result.Kind
 | none => 0
abbrev Bl := Ck → Er (List zj × Ck)
def ksm (c : Ck) (p : Int) (kd : UInt8) (nm fd ca : BA) (ty : zk) (ks : List zc) (B E : Bl) : Er At3 :=
 if ((kd.toNat : Int) == 1) = true then kva c p kd nm ty ks
 else if (((kd.toNat : Int) == 2) || ((kd.toNat : Int) == 3) || ((kd.toNat : Int) == 4) || ((kd.toNat : Int) == 9)) = true then kas c p kd nm fd ks
 else if ((kd.toNat : Int) == 5) = true then kca c p kd nm ca ks
 else if ((kd.toNat : Int) == 6) = true then eb (kvs c ks [2]) fun l => eb (B c) fun b => eb (E b.2) fun e => .ok (⟨kd, p, -1, 0, -1, l, b.1, e.1⟩, e.2)
 else if ((kd.toNat : Int) == 7) = true then eb (kvs c ks [2]) fun l => eb (B c) fun b => .ok (⟨kd, p, -1, 0, -1, l, b.1, []⟩, b.2)
 else if ((kd.toNat : Int) == 8) = true then eb (kvs c ks [1]) fun l => .ok (⟨kd, p, -1, 0, -1, l, [], []⟩, c)
 else if ((kd.toNat : Int) == 10) = true then eb (kvs c ks (if (((rk c).toNat : Int) != 0) = true then [rk c] else [])) fun l => .ok (⟨kd, p, -1, 0, -1, l, [], []⟩, c)
 else eb (kvs c ks []) fun _ => .error 9
mutual
def kS : Stm → Ck → Er At3
 | ⟨kd, ln, nm, fd, ca, ty, ks, b, e⟩ => fun c => ksm (zbq c ln) (c.tree.Points.length : Int) kd nm fd ca ty ks
   (fun d => eb (kSs b d) fun r => .ok (r.1, zbW r.2 d.scope.length)) (fun d => eb (kSs e d) fun r => .ok (r.1, zbW r.2 d.scope.length))
def kSs : List Stm → Bl
 | [] => fun c => .ok ([], c)
 | s :: l => fun c => eb (kS s c) fun r => eb (kSs l r.2) fun q => .ok (r.1 :: q.1, q.2)
end
def kL (l : List Stm) : Bl := fun c => eb (kSs l c) fun r => .ok (r.1, zbW r.2 c.scope.length)
theorem zju (s : Stm) (c : Ck) : kS s c = ksm (zbq c s.Line) (c.tree.Points.length : Int) s.Kind s.Name s.Field s.Call s.Type_ s.Kids (kL s.Body) (kL s.Else) := by cases s; rfl
structure Gr (n : Nat) (c c' : Ck) : Prop where
 prog : c'.prog = c.prog
 fn : c'.fn = c.fn
 bod : c'.tree.Bodies = c.tree.Bodies
 pts : c'.tree.Points.length ≤ c.tree.Points.length + n
 vs : c'.vars.length ≤ c.vars.length + n
 s1 : c.scope.length ≤ c'.scope.length
 s2 : c'.scope.length ≤ c.scope.length + n
 fl : (∀ s ∈ c.prog.Structs, s.Fields.length ≤ 1000000000) → (∀ k, (vf c k).length ≤ 1000000000) → ∀ k, (vf c' k).length ≤ 1000000000
theorem Gr.refl (c : Ck) : Gr 0 c c := ⟨rfl, rfl, rfl, Nat.le_refl _, Nat.le_refl _, Nat.le_refl _, Nat.le_refl _, fun _ h => h⟩
theorem Gr.trans {n m : Nat} {a b c : Ck} (h : Gr n a b) (h' : Gr m b c) : Gr (n + m) a c := by
 obtain ⟨a1, a2, a3, a4, a5, a6, a7, a8⟩ := h
 obtain ⟨b1, b2, b3, b4, b5, b6, b7, b8⟩ := h'
 exact ⟨b1.trans a1, b2.trans a2, b3.trans a3, by omega, by omega, by omega, by omega, fun h1 h2 => b8 (by rw [a1]; exact h1) (a8 h1 h2)⟩
theorem Gr.le {n m : Nat} {a b : Ck} (h : Gr n a b) (hm : n ≤ m) : Gr m a b := by
 obtain ⟨a1, a2, a3, a4, a5, a6, a7, a8⟩ := h
 exact ⟨a1, a2, a3, by omega, by omega, by omega, by omega, a8⟩
theorem zj0 (c : Ck) (ln : Int) : Gr 1 c (zbq c ln) := ⟨rfl, rfl, rfl, by simp [zbq], by simp [zbq], Nat.le_refl _, Nat.le_succ _, fun _ h => h⟩
theorem ziH {c : Ck} {nm : BA} (h : ∀ s ∈ c.prog.Structs, s.Fields.length ≤ 1000000000) : (zdX c nm).length ≤ 1000000000 := by
 unfold zdX
 cases zcZ c nm with
 | none => simp
 | some k =>
  dsimp only
  cases e : c.prog.Structs[k]? with
  | none => simp
  | some s =>
   obtain ⟨hk, rfl⟩ := List.getElem?_eq_some_iff.1 e
   exact h _ (List.getElem_mem hk)
theorem zh5 {c : Ck} {v : zG} (hv : (∀ s ∈ c.prog.Structs, s.Fields.length ≤ 1000000000) → v.Fields.length ≤ 1000000000) : Gr 1 c (zdj c v) := by
 refine ⟨rfl, rfl, rfl, Nat.le_succ _, by simp [zdj], by simp [zdj], by simp [zdj], fun h1 h2 k => ?_⟩
 have := h2 k
 unfold vf zdj at *
 dsimp only at *
 by_cases hk : k < c.vars.length
 ·rw [List.getElem?_append_left hk]
  exact this
 ·rw [List.getElem?_append_right (by omega)]
  cases e : [v][k - c.vars.length]? with
  | none => exact Nat.zero_le _
  | some w =>
   obtain ⟨hk, e2⟩ := List.getElem?_eq_some_iff.1 e
   have hw : w ∈ [v] := e2 ▸ List.getElem_mem hk
   rw [List.mem_singleton] at hw
   rw [hw]
   exact hv h1
theorem zl1 {c : Ck} {p : Int} {kd : UInt8} {nm : BA} {ty : zk} {ks : List zc} {r : At3} (h : kva c p kd nm ty ks = .ok r) : Gr 1 c r.2 := by
 unfold kva at h
 obtain ⟨_, _, h⟩ := zbv h
 split at h
 ·obtain ⟨_, _, h⟩ := zbv h
  obtain ⟨_, _, h⟩ := zbv h
  injection h with h
  subst h
  exact zh5 fun _ => Nat.zero_le _
 ·split at h
  ·obtain ⟨_, _, h⟩ := zbv h
   injection h with h
   subst h
   exact zh5 fun h => ziH h
  ·obtain ⟨_, _, h⟩ := zbv h
   injection h with h
   subst h
   exact zh5 fun _ => Nat.zero_le _
theorem zmg {c : Ck} {p : Int} {kd : UInt8} {nm fd : BA} {ks : List zc} {r : At3} (h : kas c p kd nm fd ks = .ok r) : r.2 = c := by
 unfold kas at h
 obtain ⟨_, _, h⟩ := zbv h
 split at h
 ·obtain ⟨_, _, h⟩ := zbv h
  obtain ⟨_, _, h⟩ := zbv h
  injection h with h
  subst h
  rfl
 split at h
 ·obtain ⟨_, _, h⟩ := zbv h
  obtain ⟨_, _, h⟩ := zbv h
  injection h with h
  subst h
  rfl
 split at h
 ·obtain ⟨_, _, h⟩ := zbv h
  obtain ⟨_, _, h⟩ := zbv h
  injection h with h
  subst h
  rfl
 split at h
 ·obtain ⟨_, _, h⟩ := zbv h
  obtain ⟨_, _, h⟩ := zbv h
  obtain ⟨_, _, h⟩ := zbv h
  injection h with h
  subst h
  rfl
 injection h with h
 subst h
 rfl
theorem zmx {c : Ck} {p : Int} {kd : UInt8} {nm ca : BA} {ks : List zc} {r : At3} (h : kca c p kd nm ca ks = .ok r) : r.2 = c := by
 unfold kca at h
 obtain ⟨_, _, h⟩ := zbv h
 split at h
 ·cases h
 split at h
 ·cases h
 obtain ⟨_, _, h⟩ := zbv h
 obtain ⟨_, _, h⟩ := zbv h
 injection h with h
 subst h
 rfl
theorem ziv {n : Nat} {c c' : Ck} (h : Gr n c c') : Gr n c (zbW c' c.scope.length) := by
 obtain ⟨a1, a2, a3, a4, a5, a6, a7, a8⟩ := h
 exact ⟨a1, a2, a3, a4, a5, by simp [zbW]; omega, by simp [zbW]; omega, a8⟩
theorem znx {c : Ck} {p : Int} {kd : UInt8} {nm fd ca : BA} {ty : zk} {ks : List zc} {B E : Bl} {nb ne : Nat} {r : At3}
  (hB : ∀ {d : Ck} {q : List zj × Ck}, B d = .ok q → Gr nb d q.2) (hE : ∀ {d : Ck} {q : List zj × Ck}, E d = .ok q → Gr ne d q.2) (he : zbT ks + nb + ne < 1000000000 ∨ True)
  (h : ksm c p kd nm fd ca ty ks B E = .ok r) : Gr (1 + nb + ne) c r.2 := by
 unfold ksm at h
 split at h
 ·exact (zl1 h).le (by omega)
 split at h
 ·rw [zmg h]
  exact (Gr.refl c).le (by omega)
 split at h
 ·rw [zmx h]
  exact (Gr.refl c).le (by omega)
 split at h
 ·obtain ⟨_, _, h⟩ := zbv h
  obtain ⟨_, h1, h⟩ := zbv h
  obtain ⟨_, h2, h⟩ := zbv h
  injection h with h
  subst h
  exact ((hB h1).trans (hE h2)).le (by omega)
 split at h
 ·obtain ⟨_, _, h⟩ := zbv h
  obtain ⟨_, h1, h⟩ := zbv h
  injection h with h
  subst h
  exact (hB h1).le (by omega)
 split at h
 ·obtain ⟨_, _, h⟩ := zbv h
  injection h with h
  subst h
  exact (Gr.refl c).le (by omega)
 split at h
 ·obtain ⟨_, _, h⟩ := zbv h
  injection h with h
  subst h
  exact (Gr.refl c).le (by omega)
 obtain ⟨_, _, h⟩ := zbv h
 cases h
mutual
theorem zjf : ∀ (s : Stm) {c : Ck} {r : At3}, kS s c = .ok r → Gr (2 * szS s) c r.2
 | ⟨kd, ln, nm, fd, ca, ty, ks, b, e⟩, c, r, h => by
  have hB : ∀ {d : Ck} {q : List zj × Ck}, (eb (kSs b d) fun r => .ok (r.1, zbW r.2 d.scope.length)) = .ok q → Gr (2 * zO b) d q.2 := fun {d q} hq => by
   obtain ⟨x, h1, h2⟩ := zbv hq
   injection h2 with h2
   subst h2
   exact ziv (zff b h1)
  have hE : ∀ {d : Ck} {q : List zj × Ck}, (eb (kSs e d) fun r => .ok (r.1, zbW r.2 d.scope.length)) = .ok q → Gr (2 * zO e) d q.2 := fun {d q} hq => by
   obtain ⟨x, h1, h2⟩ := zbv hq
   injection h2 with h2
   subst h2
   exact ziv (zff e h1)
  refine ((zj0 c ln).trans (znx hB hE (.inr trivial) h)).le ?_
  show 1 + (1 + 2 * zO b + 2 * zO e) ≤ 2 * (1 + zbT ks + zO b + zO e)
  omega
theorem zff : ∀ (l : List Stm) {c : Ck} {r : List zj × Ck}, kSs l c = .ok r → Gr (2 * zO l) c r.2
 | [], c, r, h => by
  injection h with h
  subst h
  exact Gr.refl c
 | s :: l, c, r, h => by
  obtain ⟨x, h1, h⟩ := zbv h
  obtain ⟨y, h2, h⟩ := zbv h
  injection h with h
  subst h
  refine ((zjf s h1).trans (zff l h2)).le ?_
  show _ ≤ 2 * (szS s + zO l)
  omega
end
theorem zim {l : List Stm} {c : Ck} {r : List zj × Ck} (h : kL l c = .ok r) : Gr (2 * zO l) c r.2 := by
 obtain ⟨x, h1, h2⟩ := zbv h
 injection h2 with h2
 subst h2
 exact ziv (zff l h1)
structure Bs (n : Nat) (c : Ck) : Prop where
 p : c.tree.Points.length + n ≤ 1000000000
 v : c.vars.length + n ≤ 1000000000
 s : c.scope.length + n ≤ 1000000000
 f : ∀ k, (vf c k).length ≤ 1000000000
 st : c.prog.Structs.length ≤ 1000000000
 sf : ∀ s ∈ c.prog.Structs, s.Fields.length ≤ 1000000000
 fu : c.prog.Funcs.length ≤ 1000000000
 fp : ∀ d ∈ c.prog.Funcs, d.Params.length ≤ 1000000000
 fn : (zL c.prog.Funcs c.fn).isSome = true
theorem Bs.bd {n : Nat} {c : Ck} (h : Bs n c) : Bd c := ⟨by have := h.v; omega, by have := h.s; omega, fun k => by have := h.f k; omega⟩
theorem Bs.gr {n m : Nat} {c c' : Ck} (h : Bs (n + m) c) (g : Gr m c c') : Bs n c' := by
 obtain ⟨a1, a2, a3, a4, a5, a6, a7, a8, a9⟩ := h
 obtain ⟨b1, b2, b3, b4, b5, b6, b7, b8⟩ := g
 exact ⟨by omega, by omega, by omega, b8 a6 a4, by rw [b1]; exact a5, by rw [b1]; exact a6, by rw [b1]; exact a7, by rw [b1]; exact a8, by rw [b1, b2]; exact a9⟩
theorem Bs.le {n m : Nat} {c : Ck} (h : Bs n c) (hm : m ≤ n) : Bs m c := by
 obtain ⟨a1, a2, a3, a4, a5, a6, a7, a8, a9⟩ := h
 exact ⟨by omega, by omega, by omega, a4, a5, a6, a7, a8, a9⟩
end Go.Proofs.Ytakcaekikfcbpaa
