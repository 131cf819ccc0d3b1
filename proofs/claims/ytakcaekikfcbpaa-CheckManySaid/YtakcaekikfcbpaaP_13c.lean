import Derived.Test.YtakcaekikfcbpaaP_13b
import Derived.KernelRfl
namespace Go.Proofs.Ytakcaekikfcbpaa
open Go.Ab Go.RowKit
set_option linter.unusedVariables false
set_option linter.unusedSimpArgs false
abbrev FA := Option (Except (Value × Ck × zj) (Ck × zj))
def RA (c : Ck) (G : FA) (r : Er At3) : Prop := match r with
 | .error e => ∃ a, G = some (.error (pe e, c, a))
 | .ok x => G = some (.ok (x.2, x.1))
theorem zcN {α : Type} {c : Ck} {G : FA} {r : Er α} {f : α → Er At3} (he : ∀ e, r = .error e → ∃ a, G = some (.error (pe e, c, a))) (ho : ∀ a, r = .ok a → RA c G (f a)) : RA c G (eb r f) := by
 cases r with
 | error e => exact he e rfl
 | ok a => exact ho a rfl
theorem zf3 {c : Ck} {G : FA} {b : Bool} {e : Int} {f : Unit → Er At3} (he : ¬ b = true → ∃ a, G = some (.error (pe e, c, a))) (ho : b = true → RA c G (f ())) : RA c G (eb (ck b e) f) := by
 by_cases hb : b = true
 ·rw [ckT hb]
  exact ho hb
 ·rw [ckF hb]
  exact he hb
def zcE (kd : UInt8) (p : Int) : zj := ⟨kd, p, -1, 0, -1, [], [], []⟩
theorem zhu {c : Ck} (hB : Bs 1 c) {s : Stm} {kd : UInt8} {p w : Int} {l : List zl} {fs : List BA} :
  zd4 (zcE kd p) s c.prog.Structs c.prog.Funcs c.tree.Bodies c.tree.Main c.tree.Points c.fn c.vars c.scope l w fs = some (.ok (zdj c ⟨s.Name, s.Type_, w, fs⟩, ⟨kd, p, (c.vars.length : Int), 0, -1, l, [], []⟩)) := by
 have h1 := hB.v
 have h2 := hB.s
 unfold zd4
 rw [zcr (by show c.vars.length + 1 ≤ _; omega), Option.bind_some, zcr (by show c.scope.length + 1 ≤ _; omega)]
 rfl
theorem zm4 {c : Ck} (hB : Bs 1 c) {s : Stm} (hs : zbT s.Kids ≤ 1000000000) {kd : UInt8} {p : Int} : RA c (zfD c (zcE kd p) s) (kva c p kd s.Name s.Type_ s.Kids) := by
 have hst := hB.st
 unfold zfD kva
 rw [zi1 hB.bd.v, Option.bind_some]
 rw [show ((if (decide (fo (zdL c s.Name) < 0)) = true then (zc1 c s.Type_).bind fun c12 => some c12 else some false)) = some ((zdL c s.Name).isNone && knw c s.Type_) from by
  cases zdL c s.Name with
  | none =>
   rw [if_pos (by decide), zkf (by omega)]
   rfl
  | some k =>
   rw [if_neg (by show ¬ (decide ((k : Int) < 0) = true); simp)]
   rfl]
 rw [Option.bind_some]
 refine zf3 (fun hb => ⟨zcE kd p, by rw [zb2 hb]; rfl⟩) fun hb => ?_
 rw [zbS hb]
 show RA c (if ((s.Type_.Kind.toNat : Int) == 3) = true then _ else _) (if ((s.Type_.Kind.toNat : Int) == 3) = true then _ else _)
 by_cases h3 : ((s.Type_.Kind.toNat : Int) == 3) = true
 ·rw [if_pos h3, if_pos h3]
  refine zf3 (fun hb => ⟨zcE kd p, by rw [zb2 hb]; rfl⟩) fun hb => ?_
  rw [zbS hb, zdr hB.bd hs]
  refine zcN (fun e he => ⟨zcE kd p, by rw [he]; rfl⟩) fun l hl => ?_
  rw [hl]
  exact zhu hB
 rw [if_neg h3, if_neg h3]
 by_cases h4 : ((s.Type_.Kind.toNat : Int) == 4) = true
 ·rw [if_pos h4, if_pos h4, zjR (by omega), Option.bind_some]
  have hf : (zdX c s.Type_.Name).length ≤ 1000000000 := ziH hB.sf
  unfold zfZ
  rw [zcr (by show (zdX c s.Type_.Name).length ≤ _; omega), zdr hB.bd hs]
  refine zcN (fun e he => ⟨zcE kd p, by rw [he]; rfl⟩) fun l hl => ?_
  rw [hl]
  exact zhu hB
 rw [if_neg h4, if_neg h4, zdr hB.bd hs]
 refine zcN (fun e he => ⟨zcE kd p, by rw [he]; rfl⟩) fun l hl => ?_
 rw [hl]
 exact zhu hB
theorem zmb {c : Ck} (hB : Bs 0 c) {s : Stm} (hs : zbT s.Kids ≤ 1000000000) {p : Int} : RA c (zfP c (zcE s.Kind p) s) (kas c p s.Kind s.Name s.Field s.Kids) := by
 unfold zfP kas
 rw [zg7 hB.bd.v hB.bd.s]
 refine zcN (fun e he => ⟨zcE s.Kind p, by rw [he]; rfl⟩) fun k hk => ?_
 rw [hk]
 have hlt := zic hk
 show RA c (if ((s.Kind.toNat : Int) == 2) = true then _ else _) _
 by_cases h2 : ((s.Kind.toNat : Int) == 2) = true
 ·rw [if_pos h2, if_pos h2, zbQ hlt, Option.bind_some, zgY, Option.bind_some, ← zeA hlt]
  refine zf3 (fun hb => ⟨_, by rw [zb2 hb]; rfl⟩) fun hb => ?_
  rw [zbS hb, zdr hB.bd hs]
  refine zcN (fun e he => ⟨_, by rw [he]; rfl⟩) fun l hl => ?_
  rw [hl]
  rfl
 rw [if_neg h2, if_neg h2]
 by_cases h9 : ((s.Kind.toNat : Int) == 9) = true
 ·rw [if_pos h9, if_pos h9, zfb hlt]
  refine zcN (fun e he => ⟨_, by rw [he]; rfl⟩) fun _ hb => ?_
  rw [hb, zdr hB.bd hs]
  refine zcN (fun e he => ⟨_, by rw [he]; rfl⟩) fun l hl => ?_
  rw [hl]
  rfl
 rw [if_neg h9, if_neg h9]
 by_cases h3 : ((s.Kind.toNat : Int) == 3) = true
 ·rw [if_pos h3, if_pos h3, zfb hlt]
  refine zcN (fun e he => ⟨_, by rw [he]; rfl⟩) fun _ hb => ?_
  rw [hb, zdr hB.bd hs]
  refine zcN (fun e he => ⟨_, by rw [he]; rfl⟩) fun l hl => ?_
  rw [hl]
  rfl
 rw [if_neg h3, if_neg h3]
 by_cases h4 : ((s.Kind.toNat : Int) == 4) = true
 ·rw [if_pos h4, if_pos h4, zfb hlt]
  refine zcN (fun e he => ⟨_, by rw [he]; rfl⟩) fun _ hb => ?_
  rw [hb, zks hlt (hB.bd.f k)]
  refine zcN (fun e he => ⟨_, by rw [he]; rfl⟩) fun f hf => ?_
  rw [hf, zdr hB.bd hs]
  refine zcN (fun e he => ⟨_, by rw [he]; rfl⟩) fun l hl => ?_
  rw [hl]
  rfl
 rw [if_neg h4, if_neg h4]
 rfl
theorem zl4 {c : Ck} (hB : Bs 0 c) {s : Stm} (hs : zbT s.Kids ≤ 1000000000) {kd : UInt8} {p : Int} {v : Option Nat} {f : Nat} {d : zB} (hd : d.Params.length ≤ 1000000000) (hv : ∀ k, v = some k → k < c.vars.length) :
  ∀ (n k : Nat) (want : List UInt8), k ≤ d.Params.length → d.Params.length - k < n → want.length = k →
   RA c (zem c (zcE kd p) s (fo v) (f : Int) d n c.tree.Bodies c.tree.Points c.vars c.scope want (k : Int)) (eb (kvs c s.Kids (want ++ (d.Params.drop k).map fun x => x.Type_.Kind)) fun l => eb (ck (kfi c v d) 9) fun _ => .ok (⟨kd, p, fo v, 0, f, l, [], []⟩, c)) := by
 intro n
 induction n with
 | zero => intro k _ _ h; omega
 | succ n ih =>
  intro k want hk hn hw
  show RA c (zfO (zem c (zcE kd p) s (fo v) (f : Int) d n) c (zcE kd p) s (fo v) (f : Int) d c.tree.Bodies c.tree.Points c.vars c.scope want (k : Int)) _
  unfold zfO
  by_cases h : k < d.Params.length
  ·rw [if_pos (zca (by omega)), zbQ h, Option.bind_some, zcr (by omega), Option.bind_some, zcS (by omega), List.drop_eq_getElem_cons h, List.map_cons]
   have := ih (k + 1) (want ++ [d.Params[k].Type_.Kind]) (by omega) (by omega) (by rw [List.length_append, hw]; rfl)
   rw [List.append_assoc] at this
   exact this
  ·rw [if_neg (by simp; omega), List.drop_of_length_le (by omega), List.map_nil, List.append_nil]
   show RA c (zC (zcp c s.Kids want) _ _) _
   rw [zdr hB.bd hs]
   refine zcN (fun e he => ⟨_, by rw [he]; rfl⟩) fun l hl => ?_
   rw [hl]
   show RA c (((if (decide (fo v < 0)) = true then some true else (zL c.vars (fo v)).bind fun y440 => some ((y440.Type_.Kind.toNat : Int) == (d.Result.Kind.toNat : Int)))).bind _) _
   rw [show ((if (decide (fo v < 0)) = true then some true else (zL c.vars (fo v)).bind fun y440 => some ((y440.Type_.Kind.toNat : Int) == (d.Result.Kind.toNat : Int)))) = some (kfi c v d) from by
    cases v with
    | none => rfl
    | some k =>
     rw [if_neg (by show ¬ (decide ((k : Int) < 0) = true); simp)]
     show (zL c.vars (k : Int)).bind _ = _
     rw [zbQ (hv k rfl)]
     unfold kfi
     dsimp only
     rw [zeA (hv k rfl)]
     rfl]
   rw [Option.bind_some]
   exact zf3 (fun hb => ⟨_, by rw [zb2 hb]; rfl⟩) fun hb => by rw [zbS hb]; rfl
theorem zny {c : Ck} (hB : Bs 0 c) {s : Stm} (hs : zbT s.Kids ≤ 1000000000) {kd : UInt8} {p : Int} : RA c (zfw c (zcE kd p) s) (kca c p kd s.Name s.Call s.Kids) := by
 have k6 : ∀ v : Option Nat, (∀ k, v = some k → k < c.vars.length) → RA c (zeD c (zcE kd p) s c.tree.Bodies c.tree.Points c.vars c.scope (fo v)) (match zcU c s.Call with
   | none => .error 8
   | some f => match c.prog.Funcs[f]? with
    | none => .error 8
    | some d => eb (kvs c s.Kids (kwn d)) fun l => eb (ck (kfi c v d) 9) fun _ => .ok (⟨kd, p, fo v, 0, f, l, [], []⟩, c)) := fun v hv => by
  have hfu := hB.fu
  unfold zeD
  show RA c ((zet c s.Call).bind _) _
  rw [zjg (by omega), Option.bind_some]
  cases e : zcU c s.Call with
  | none => exact ⟨_, rfl⟩
  | some f =>
   have hf := zf7 e
   rw [zbS (zca (by show (f : Int) ≥ 0; omega))]
   show RA c ((zL c.prog.Funcs (f : Int)).bind _) (match c.prog.Funcs[f]? with
    | none => _
    | some d => _)
   rw [zbQ hf, Option.bind_some, List.getElem?_eq_getElem hf]
   exact zl4 hB hs (hB.fp _ (List.getElem_mem hf)) hv big 0 [] (by omega) (zcy (by have := hB.fp _ (List.getElem_mem hf); omega)) rfl
 unfold zfw kca kcv
 by_cases hn : (!(z9 s.Name znS)) = true
 ·rw [if_pos hn, if_pos hn, zg7 hB.bd.v hB.bd.s]
  cases hk : fnd c s.Name with
  | error e => exact ⟨_, rfl⟩
  | ok k =>
   have hlt := zic hk
   show RA c ((zL c.vars (k : Int)).bind _) (eb (eb (ck (sca (vt c k)) 9) _) _)
   rw [zbQ hlt, Option.bind_some, zgY, Option.bind_some, ← zeA hlt]
   by_cases hb : sca (vt c k) = true
   ·rw [zbS hb, ckT hb]
    exact k6 (some k) fun j hj => by injection hj with hj; subst hj; exact hlt
   ·rw [zb2 hb, ckF hb]
    exact ⟨_, rfl⟩
 ·rw [if_neg hn, if_neg hn]
  exact k6 none fun j hj => by cases hj
def RS {α : Type} (n : Nat) (G : Fx (α × Ck)) (r : Er (α × Ck)) : Prop := match r with
 | .error e => ∃ c', G = some (.error (pe e, c')) ∧ n ≤ c'.scope.length
 | .ok x => G = some (.ok (x.1, x.2))
theorem zhy {α β : Type} {n : Nat} {K : Fx (α × Ck)} {r : Er (α × Ck)} {f : α × Ck → Er (β × Ck)} {k : α × Ck → Fx (β × Ck)} (h : RS n K r) (ho : ∀ a, r = .ok a → RS n (k a) (f a)) :
  RS n (zC K (fun x => some (.error (x.1, x.2))) k) (eb r f) := by
 cases r with
 | error e =>
  obtain ⟨c', h1, h2⟩ := h
  exact ⟨c', by rw [h1]; rfl, h2⟩
 | ok a =>
  rw [show K = some (.ok (a.1, a.2)) from h]
  exact ho a rfl
theorem zg0 {c : Ck} {n : Nat} {G : FA} {r : Er At3} (h : RA c G r) (hn : n ≤ c.scope.length) :
  RS n (zC G (fun x => some (.error (x.1, x.2.1))) fun c1054 => zcB c1054.1.prog.Structs c1054.1.prog.Funcs c1054.1.tree.Bodies c1054.1.tree.Main c1054.1.tree.Points c1054.1.fn c1054.1.vars c1054.1.scope c1054.2.Kind c1054.2.Point c1054.2.Var c1054.2.Field c1054.2.Call c1054.2.Kids c1054.2.Body c1054.2.Else) r := by
 cases r with
 | error e =>
  obtain ⟨a, h⟩ := h
  exact ⟨c, by rw [h]; rfl, hn⟩
 | ok x =>
  rw [show G = some (.ok (x.2, x.1)) from h]
  show zcB _ _ _ _ _ _ _ _ _ _ _ _ _ _ _ _ = _
  unfold zcB
  rw [ziU]
theorem zlw {R1 : Ck → List Stm → Fx (List zj × Ck)} {R : Ck → Stm → Fx (zj × Ck)} {l : List Stm} (hl : l.length ≤ 1000000000) (hR : ∀ s ∈ l, ∀ c, Bs (2 * szS s) c → RS c.scope.length (R c s) (kS s c)) :
  ∀ (n k : Nat) (c : Ck) (out : List zj), k ≤ l.length → l.length - k < n → out.length = k → Bs (2 * zO (l.drop k)) c →
   RS c.scope.length (zd7 R l n c.prog.Structs c.prog.Funcs c.tree.Bodies c.tree.Main c.tree.Points c.fn c.vars c.scope out (k : Int)) (eb (kSs (l.drop k) c) fun q => .ok (out ++ q.1, q.2)) := by
 intro n
 induction n with
 | zero => intro k c _ _ h; omega
 | succ n ih =>
  intro k c out hk hn ho hb
  show RS c.scope.length (zfq (zd7 R l n) R l c.prog.Structs c.prog.Funcs c.tree.Bodies c.tree.Main c.tree.Points c.fn c.vars c.scope out (k : Int)) _
  unfold zfq
  by_cases h : k < l.length
  ·rw [List.drop_eq_getElem_cons h] at hb ⊢
   have hb : Bs (2 * (szS l[k] + zO (l.drop (k + 1)))) c := hb
   rw [if_pos (zca (by omega)), zbQ h, Option.bind_some]
   have h1 := hR _ (List.getElem_mem h) c (hb.le (by omega))
   show RS c.scope.length (zC (R c l[k]) _ _) (eb (eb (kS l[k] c) _) _)
   cases e : kS l[k] c with
   | error e' =>
    rw [e] at h1
    obtain ⟨c', h2, h3⟩ := h1
    exact ⟨c', by rw [h2]; rfl, h3⟩
   | ok r =>
    rw [e] at h1
    rw [show R c l[k] = some (.ok (r.1, r.2)) from h1]
    have g := zjf _ e
    show RS c.scope.length ((room (out.length + 1)).bind fun _ => zd7 R l n r.2.prog.Structs r.2.prog.Funcs r.2.tree.Bodies r.2.tree.Main r.2.tree.Points r.2.fn r.2.vars r.2.scope (out ++ [(⟨r.1.Kind, r.1.Point, r.1.Var, r.1.Field, r.1.Call, r.1.Kids, r.1.Body, r.1.Else⟩ : zj)]) (IntKind.i64.wrap ((k : Int) + 1))) (eb (eb (kSs (l.drop (k + 1)) r.2) _) _)
    rw [zcr (by omega), Option.bind_some, ziU, zcS (by omega)]
    have h4 := ih (k + 1) r.2 (out ++ [r.1]) (by omega) (by omega) (by simp [ho]) ((hb.le (m := 2 * zO (l.drop (k + 1)) + 2 * szS l[k]) (by omega)).gr g)
    cases e2 : kSs (l.drop (k + 1)) r.2 with
    | error e' =>
     rw [e2] at h4
     obtain ⟨c', h5, h6⟩ := h4
     exact ⟨c', h5, Nat.le_trans g.s1 h6⟩
    | ok q =>
     rw [e2] at h4
     refine h4.trans ?_
     show some (Except.ok ((out ++ [r.1]) ++ q.1, q.2)) = some (Except.ok (out ++ r.1 :: q.1, q.2))
     rw [List.append_assoc]
     rfl
  ·rw [if_neg (by simp; omega), List.drop_of_length_le (by omega)]
   show some (Except.ok (out, c)) = some (Except.ok (out ++ [], c))
   rw [List.append_nil]
theorem zkz {c : Ck} {n : Nat} (h : n ≤ c.scope.length) : zdO (n : Int) c = some (zbW c n) := by
 unfold zdO
 rw [show (0 : Int) = ((0 : Nat) : Int) from rfl, zkh (by omega) h, Option.bind_some, List.drop_zero]
 rfl
theorem zlq {R1 : Ck → List Stm → Fx (List zj × Ck)} {R : Ck → Stm → Fx (zj × Ck)} {l : List Stm} (hl : l.length ≤ 1000000000) (hR : ∀ s ∈ l, ∀ c, Bs (2 * szS s) c → RS c.scope.length (R c s) (kS s c)) {c : Ck} (hb : Bs (2 * zO l) c) :
  RS c.scope.length (zfJ R1 R c l) (kL l c) := by
 have h1 := zlw (R1 := R1) hl hR big 0 c [] (by omega) (zcy (by omega)) rfl (by rw [List.drop_zero]; exact hb)
 rw [List.drop_zero] at h1
 have h1 : RS c.scope.length (zfL R1 R c l) (eb (kSs l c) fun q => .ok ([] ++ q.1, q.2)) := h1
 unfold zfJ kL
 cases e : kSs l c with
 | error e' =>
  rw [e] at h1
  obtain ⟨c', h2, h3⟩ := h1
  rw [h2, Option.bind_some]
  dsimp only
  rw [zkz h3]
  exact ⟨_, rfl, by simp [zbW]; omega⟩
 | ok q =>
  rw [e] at h1
  have g := zff l e
  rw [show zfL R1 R c l = some (.ok ([] ++ q.1, q.2)) from h1, Option.bind_some]
  dsimp only
  rw [zkz g.s1]
  rfl
theorem ze0 {c : Ck} (hB : Bd c) {ks : List zc} (hs : zbT ks ≤ 1000000000) {want : List UInt8} {β : Type} {f : List zl → Er (β × Ck)} {k : List zl × Ck → Fx (β × Ck)} (ho : ∀ l, kvs c ks want = .ok l → RS c.scope.length (k (l, c)) (f l)) :
  RS c.scope.length (zC (zcp c ks want) (fun x => some (.error (x.1, x.2))) k) (eb (kvs c ks want) f) := by
 rw [zdr hB hs]
 cases e : kvs c ks want with
 | error e => exact ⟨c, rfl, Nat.le_refl _⟩
 | ok l => exact ho l e
theorem zkE {R : Ck → List Stm → Fx (List zj × Ck)} {s : Stm} {c0 : Ck} {nb ne : Nat} (hB : Bs (nb + ne) (zbq c0 s.Line)) (hs : zbT s.Kids ≤ 1000000000)
  (hb : ∀ c, Bs nb c → RS c.scope.length (R c s.Body) (kL s.Body c)) (he : ∀ c, Bs ne c → RS c.scope.length (R c s.Else) (kL s.Else c)) (hg : 2 * zO s.Body ≤ nb)
  (h1 : ¬ ((s.Kind.toNat : Int) == 1) = true) (h2 : ¬ (((s.Kind.toNat : Int) == 2) || ((s.Kind.toNat : Int) == 3) || ((s.Kind.toNat : Int) == 4) || ((s.Kind.toNat : Int) == 9)) = true) (h5 : ¬ ((s.Kind.toNat : Int) == 5) = true) :
  RS c0.scope.length (if ((s.Kind.toNat : Int) == 6) = true then zdY R c0 s (zbq c0 s.Line).tree.Bodies (zbq c0 s.Line).tree.Points (zbq c0 s.Line).vars (zbq c0 s.Line).scope ((s.Kind.toNat : Int) == 6) else zdY R c0 s (zbq c0 s.Line).tree.Bodies (zbq c0 s.Line).tree.Points (zbq c0 s.Line).vars (zbq c0 s.Line).scope ((s.Kind.toNat : Int) == 7))
   (ksm (zbq c0 s.Line) (c0.tree.Points.length : Int) s.Kind s.Name s.Field s.Call s.Type_ s.Kids (kL s.Body) (kL s.Else)) := by
 unfold ksm
 rw [if_neg h1, if_neg h2, if_neg h5]
 have hBd := hB.bd
 by_cases h6 : ((s.Kind.toNat : Int) == 6) = true
 ·rw [if_pos h6, if_pos h6]
  unfold zdY
  rw [if_pos h6]
  refine ze0 (c := zbq c0 s.Line) hBd hs fun l _ => ?_
  refine zhy (hb _ (hB.le (by omega))) fun b hb2 => ?_
  have g := (zim hb2).le hg
  rw [if_pos h6]
  have h3 := he b.2 ((hB.le (m := ne + nb) (by omega)).gr g)
  have h4 : RS (zbq c0 s.Line).scope.length (R b.2 s.Else) (kL s.Else b.2) := by
   cases e : kL s.Else b.2 with
   | error e' =>
    rw [e] at h3
    obtain ⟨c', i1, i2⟩ := h3
    exact ⟨c', i1, Nat.le_trans g.s1 i2⟩
   | ok x =>
    rw [e] at h3
    exact h3
  exact zhy h4 fun e _ => rfl
 rw [if_neg h6, if_neg h6]
 unfold zdY
 by_cases h7 : ((s.Kind.toNat : Int) == 7) = true
 ·rw [if_pos h7, if_pos h7]
  refine ze0 (c := zbq c0 s.Line) hBd hs fun l _ => ?_
  refine zhy (hb _ (hB.le (by omega))) fun b hb2 => ?_
  rw [if_neg h6]
  rfl
 rw [if_neg h7, if_neg h7]
 by_cases h8 : ((s.Kind.toNat : Int) == 8) = true
 ·rw [if_pos h8, if_pos h8]
  exact ze0 (c := zbq c0 s.Line) hBd hs fun l _ => rfl
 rw [if_neg h8, if_neg h8]
 by_cases h10 : ((s.Kind.toNat : Int) == 10) = true
 ·rw [if_pos h10, if_pos h10]
  have hf := hB.fn
  obtain ⟨d, hd⟩ := Option.isSome_iff_exists.1 hf
  have hd' : zL c0.prog.Funcs c0.fn = some d := hd
  rw [hd', Option.bind_some, show rk (zbq c0 s.Line) = d.Result.Kind from by unfold rk; rw [hd]]
  by_cases hr : ((d.Result.Kind.toNat : Int) != 0) = true
  ·rw [if_pos hr, if_pos hr]
   exact ze0 (c := zbq c0 s.Line) hBd hs fun l _ => rfl
  ·rw [if_neg hr, if_neg hr]
   exact ze0 (c := zbq c0 s.Line) hBd hs fun l _ => rfl
 rw [if_neg h10, if_neg h10]
 exact ze0 (c := zbq c0 s.Line) hBd hs fun l _ => ⟨_, rfl, Nat.le_refl _⟩
theorem zmZ {R : Ck → List Stm → Fx (List zj × Ck)} {R2 : Ck → Stm → Fx (zj × Ck)} {s : Stm} (hs : szS s ≤ 1000000000) (hb : ∀ c, Bs (2 * zO s.Body) c → RS c.scope.length (R c s.Body) (kL s.Body c)) (he : ∀ c, Bs (2 * zO s.Else) c → RS c.scope.length (R c s.Else) (kL s.Else c))
  {c0 : Ck} (hB0 : Bs (2 * szS s) c0) : RS c0.scope.length (zfa R R2 c0 s) (kS s c0) := by
 have hz := zgo s
 have hp := hB0.p
 have hsc := hB0.s
 have hB : Bs (1 + 2 * zO s.Body + 2 * zO s.Else) (zbq c0 s.Line) := (hB0.le (m := 1 + 2 * zO s.Body + 2 * zO s.Else + 1) (by omega)).gr (zj0 c0 s.Line)
 rw [zju]
 unfold zfa zgC
 rw [zcr (by omega)]
 simp only [Option.bind_some]
 rw [zcr (by show c0.tree.Points.length + 1 ≤ _; omega), Option.bind_some]
 by_cases h1 : ((s.Kind.toNat : Int) == 1) = true
 ·rw [if_pos h1]
  unfold ksm
  rw [if_pos h1]
  exact zg0 (zm4 (c := zbq c0 s.Line) (hB.le (by omega)) (by omega)) (Nat.le_refl _)
 rw [if_neg h1]
 have ka : (((s.Kind.toNat : Int) == 2) || ((s.Kind.toNat : Int) == 3) || ((s.Kind.toNat : Int) == 4) || ((s.Kind.toNat : Int) == 9)) = true → RS c0.scope.length (zdo R c0 s (zbq c0 s.Line).tree.Bodies (zbq c0 s.Line).tree.Points (zbq c0 s.Line).vars (zbq c0 s.Line).scope true) (ksm (zbq c0 s.Line) (c0.tree.Points.length : Int) s.Kind s.Name s.Field s.Call s.Type_ s.Kids (kL s.Body) (kL s.Else)) := fun h => by
  unfold ksm zdo
  rw [if_neg h1, if_pos h, if_pos rfl]
  exact zg0 (zmb (c := zbq c0 s.Line) (hB.le (by omega)) (by omega)) (Nat.le_refl _)
 by_cases h2 : ((s.Kind.toNat : Int) == 2) = true
 ·rw [if_pos h2]
  have := ka (by rw [h2]; rfl)
  rw [h2]
  exact this
 rw [if_neg h2]
 by_cases h3 : ((s.Kind.toNat : Int) == 3) = true
 ·rw [if_pos h3]
  have := ka (by rw [h3, Bool.or_true]; rfl)
  rw [h3]
  exact this
 rw [if_neg h3]
 by_cases h4 : ((s.Kind.toNat : Int) == 4) = true
 ·rw [if_pos h4]
  have := ka (by rw [h4, Bool.or_true]; rfl)
  rw [h4]
  exact this
 rw [if_neg h4]
 by_cases h9 : ((s.Kind.toNat : Int) == 9) = true
 ·have := ka (by rw [h9, Bool.or_true])
  rw [h9]
  exact this
 have hn : ¬ (((s.Kind.toNat : Int) == 2) || ((s.Kind.toNat : Int) == 3) || ((s.Kind.toNat : Int) == 4) || ((s.Kind.toNat : Int) == 9)) = true := by
  rw [Bool.not_eq_true] at h2 h3 h4 h9
  rw [h2, h3, h4, h9]
  decide
 rw [Bool.not_eq_true] at h9
 rw [h9]
 unfold zdo
 rw [if_neg (by decide)]
 by_cases h5 : ((s.Kind.toNat : Int) == 5) = true
 ·rw [if_pos h5]
  unfold ksm
  rw [if_neg h1, if_neg hn, if_pos h5]
  exact zg0 (zny (c := zbq c0 s.Line) (hB.le (by omega)) (by omega)) (Nat.le_refl _)
 rw [if_neg h5]
 exact zkE (hB.le (by omega)) (by omega) hb he (Nat.le_refl _) h1 hn h5
theorem zjD : ∀ n : Nat, (∀ (s : Stm), 2 * szS s ≤ n → szS s ≤ 100000000 → ∀ c, Bs (2 * szS s) c → RS c.scope.length ((zbP n).2 c s) (kS s c)) ∧
  (∀ (l : List Stm), 2 * zO l + 1 ≤ n → zO l ≤ 100000000 → ∀ c, Bs (2 * zO l) c → RS c.scope.length ((zbP n).1 c l) (kL l c))
 | 0 => ⟨fun s h => by have := zjS s; omega, fun l h => by omega⟩
 | n + 1 => by
  obtain ⟨i1, i2⟩ := zjD n
  refine ⟨fun s h hs c hB => ?_, fun l h hl c hB => ?_⟩
  ·have hz := zgo s
   exact zmZ (R2 := (zbP n).2) (by omega) (i2 s.Body (by omega) (by omega)) (i2 s.Else (by omega) (by omega)) hB
  ·have := zhh l
   exact zlq (R1 := (zbP n).1) (by omega) (fun s hm => i1 s (by have := zid hm; omega) (by have := zid hm; omega)) hB
theorem znm {l : List Stm} (hl : zO l ≤ 100000000) {c : Ck} (hB : Bs (2 * zO l) c) : RS c.scope.length (ze9 c l) (kL l c) := (zjD big).2 l (Nat.le_of_lt (zcy (by omega))) hl c hB
end Go.Proofs.Ytakcaekikfcbpaa
