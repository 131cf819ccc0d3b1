import Derived.Test.YtakcaekikfcbpaaP_13g
import Derived.KernelRfl
namespace Go.Proofs.Ytakcaekikfcbpaa
open Go.Ab Go.RowKit
set_option linter.unusedVariables false
set_option linter.unusedSimpArgs false
section
variable (ν : BA → BA)
mutual
def tnE : zc → zc
 | ⟨kd, nu, nm, fd, op, ks⟩ => ⟨kd, nu, ν nm, fd, op, zcG ks⟩
def zcG : List zc → List zc
 | [] => []
 | x :: l => tnE x :: zcG l
end
mutual
def tnS : Stm → Stm
 | ⟨kd, ln, nm, fd, ca, ty, ks, b, e⟩ => ⟨kd, ln, ν nm, fd, ca, ty, zcG ν ks, zb4 b, zb4 e⟩
def zb4 : List Stm → List Stm
 | [] => []
 | x :: l => tnS x :: zb4 l
end
def tnP (x : zcU) : zcU := ⟨ν x.Name, x.Type_⟩
def tnD (d : zH) : zH := ⟨d.Name, d.Line, d.Params.map (tnP ν), d.Result, zb4 ν d.Body⟩
def nuV (v : zC) : zC := ⟨ν v.Name, v.Type_, v.Words, v.Fields⟩
def nuB (b : zL) : zL := ⟨b.Name, b.Params, b.Result, b.Vars.map (nuV ν), b.Acts⟩
def phi (p' : zm) (c : Ck) : Ck := ⟨p', ⟨c.tree.Bodies.map (nuB ν), c.tree.Main, c.tree.Points⟩, c.fn, c.vars.map (nuV ν), c.scope⟩
structure Sim (p p' : zm) : Prop where
 eq : ∀ x y, zG (ν x) (ν y) = zG x y
 nb : ∀ x, zG (ν x) zqA = zG x zqA
 st : p'.Structs = p.Structs
 fu : ∀ (i : Nat) d, p.Funcs[i]? = some d → p'.Funcs[i]? = some (tnD ν d)
end
mutual
def zeA (A : BA → BA → Prop) : Stm → Prop
 | ⟨_, _, nm, _, ca, _, _, b, e⟩ => A nm ca ∧ zcw A b ∧ zcw A e
def zcw (A : BA → BA → Prop) : List Stm → Prop
 | [] => True
 | s :: l => zeA A s ∧ zcw A l
end
def okC (p p' : zm) (ca : BA) : Prop := p'.Funcs.findIdx? (fun v => zG v.Name ca) = p.Funcs.findIdx? (fun v => zG v.Name ca)
section
variable {ν : BA → BA} {p p' : zm} (H : Sim ν p p')
include H
theorem zlH (c : Ck) (nm : BA) : zde (phi ν p' c) (ν nm) = zde c nm := by
 unfold zde phi
 dsimp only
 rw [List.findIdx?_map]
 congr 1
 funext v
 exact H.eq _ _
theorem zjt (c : Ck) (nm : BA) : fnd (phi ν p' c) (ν nm) = fnd c nm := by
 unfold fnd
 rw [zlH H]
 rfl
omit H in
theorem zhd (c : Ck) (k : Nat) : vt (phi ν p' c) k = vt c k := by
 unfold vt phi
 dsimp only
 rw [List.getElem?_map]
 cases c.vars[k]? <;> rfl
omit H in
theorem zoF (c : Ck) (k : Nat) : vf (phi ν p' c) k = vf c k := by
 unfold vf phi
 dsimp only
 rw [List.getElem?_map]
 cases c.vars[k]? <;> rfl
omit H in
theorem zlW (c : Ck) (k : Nat) (nm : BA) : zdH (phi ν p' c) k nm = zdH c k nm := by
 unfold zdH
 rw [zoF]
theorem zh3 {c : Ck} (hc : c.prog = p) (nm : BA) : zcC (phi ν p' c) nm = zcC c nm := by
 unfold zcC phi
 dsimp only
 rw [H.st, hc]
theorem zij {c : Ck} (hc : c.prog = p) (t : zD) : knw (phi ν p' c) t = knw c t := by
 unfold knw
 rw [zh3 H hc]
theorem zoY {c : Ck} (hc : c.prog = p) (nm : BA) : zc8 (phi ν p' c) nm = zc8 c nm := by
 unfold zc8
 rw [zh3 H hc]
 have e : (phi ν p' c).prog.Structs = c.prog.Structs := H.st.trans (by rw [hc])
 rw [e]
theorem zox (c : Ck) (kd : UInt8) (nu : Int) (nm fd op : BA) (r : Er Vks) : kx (phi ν p' c) kd nu (ν nm) fd op r = kx c kd nu nm fd op r := by
 unfold kx kpl
 rw [zjt H]
 simp only [zhd, zlW]
omit H in
mutual
theorem kE_phi (H : Sim ν p p') (c : Ck) : ∀ x : zc, kE (phi ν p' c) (tnE ν x) = kE c x
 | ⟨kd, nu, nm, fd, op, ks⟩ => by
  show kx (phi ν p' c) kd nu (ν nm) fd op (kEs (phi ν p' c) (zcG ν ks)) = kx c kd nu nm fd op (kEs c ks)
  rw [kEs_phi H c ks, zox H]
theorem kEs_phi (H : Sim ν p p') (c : Ck) : ∀ l : List zc, kEs (phi ν p' c) (zcG ν l) = kEs c l
 | [] => rfl
 | x :: l => by
  show eb (kE (phi ν p' c) (tnE ν x)) (fun v => eb (kEs (phi ν p' c) (zcG ν l)) fun w => .ok (v.1 :: w.1, v.2 :: w.2)) = _
  rw [kE_phi H c x, kEs_phi H c l]
  rfl
end
theorem zfh (c : Ck) (l : List zc) (want : List UInt8) : kvs (phi ν p' c) (zcG ν l) want = kvs c l want := by
 unfold kvs
 rw [kEs_phi H]
omit H in
def mpS {α : Type} (ν : BA → BA) (p' : zm) (r : Er (α × Ck)) : Er (α × Ck) := match r with
 | .error e => .error e
 | .ok x => .ok (x.1, phi ν p' x.2)
omit H in
theorem zbV {α β : Type} {r : Er α} {f : α → Er (β × Ck)} {g : α → Er (β × Ck)} (h : ∀ a, r = .ok a → g a = mpS ν p' (f a)) : eb r g = mpS ν p' (eb r f) := by
 cases r with
 | error e => rfl
 | ok a => exact h a rfl
omit H in
theorem ziS (c : Ck) (nm : BA) (ty : zD) (w : Int) (fs : List BA) : zcX (phi ν p' c) ⟨ν nm, ty, w, fs⟩ = phi ν p' (zcX c ⟨nm, ty, w, fs⟩) := by
 unfold zcX phi
 simp [nuV]
theorem zmy {c : Ck} (hc : c.prog = p) (q : Int) (kd : UInt8) (nm : BA) (ty : zD) (ks : List zc) : kva (phi ν p' c) q kd (ν nm) ty (zcG ν ks) = mpS ν p' (kva c q kd nm ty ks) := by
 have hl : (phi ν p' c).vars.length = c.vars.length := by simp [phi]
 unfold kva
 rw [zlH H, zij H hc, zoY H hc]
 refine zbV fun _ _ => ?_
 split
 ·refine zbV fun _ _ => ?_
  rw [zfh H]
  refine zbV fun _ _ => ?_
  rw [ziS, hl]
  rfl
 split
 ·rw [zfh H]
  refine zbV fun _ _ => ?_
  rw [ziS, hl]
  rfl
 ·rw [zfh H]
  refine zbV fun _ _ => ?_
  rw [ziS, hl]
  rfl
theorem znv (c : Ck) (q : Int) (kd : UInt8) (nm fd : BA) (ks : List zc) : kas (phi ν p' c) q kd (ν nm) fd (zcG ν ks) = mpS ν p' (kas c q kd nm fd ks) := by
 unfold kas
 rw [zjt H]
 refine zbV fun k _ => ?_
 simp only [zhd, zlW, zfh H]
 split
 ·exact zbV fun _ _ => zbV fun _ _ => rfl
 split
 ·exact zbV fun _ _ => zbV fun _ _ => rfl
 split
 ·exact zbV fun _ _ => zbV fun _ _ => rfl
 split
 ·exact zbV fun _ _ => zbV fun _ _ => zbV fun _ _ => rfl
 rfl
omit H in
theorem zob (d : zH) : kwn (tnD ν d) = kwn d := by
 unfold kwn tnD
 rw [List.map_map]
 rfl
omit H in
theorem znz (c : Ck) (v : Option Nat) (d : zH) : kfi (phi ν p' c) v (tnD ν d) = kfi c v d := by
 cases v with
 | none => rfl
 | some k =>
  show (((vt (phi ν p' c) k).Kind.toNat : Int) == _) = _
  rw [zhd]
  rfl
theorem znJ {c : Ck} (hc : c.prog = p) (q : Int) (kd : UInt8) (nm : BA) {ca : BA} (hca : okC p p' ca) (ks : List zc) : kca (phi ν p' c) q kd (ν nm) ca (zcG ν ks) = mpS ν p' (kca c q kd nm ca ks) := by
 have e1 : kcv (phi ν p' c) (ν nm) = kcv c nm := by
  unfold kcv
  rw [H.nb, zjt H]
  simp only [zhd]
 have e2 : zcr (phi ν p' c) ca = zcr c ca := by
  unfold zcr
  rw [hc]
  exact hca
 unfold kca
 rw [e1, e2]
 refine zbV fun v _ => ?_
 cases e : zcr c ca with
 | none => rfl
 | some f =>
  have hf := zfu e
  have e3 : c.prog.Funcs[f]? = some c.prog.Funcs[f] := List.getElem?_eq_getElem hf
  have e4 : (phi ν p' c).prog.Funcs[f]? = some (tnD ν c.prog.Funcs[f]) := H.fu f _ (by rw [← hc]; exact e3)
  dsimp only
  rw [e3, e4]
  dsimp only
  rw [zob, zfh H, znz]
  exact zbV fun _ _ => zbV fun _ _ => rfl
omit H in
def OkF (p : zm) (c : Ck) : Prop := c.prog = p ∧ (zt p.Funcs c.fn).isSome = true
omit H in
theorem OkF.gr {c c' : Ck} {n : Nat} (h : OkF p c) (g : Gr n c c') : OkF p c' := ⟨g.prog.trans h.1, by rw [g.fn]; exact h.2⟩
theorem zmU {c : Ck} (hc : OkF p c) : rk (phi ν p' c) = rk c := by
 obtain ⟨h1, h2⟩ := hc
 unfold rk
 rw [h1]
 obtain ⟨d, hd⟩ := Option.isSome_iff_exists.1 h2
 have h0 : 0 ≤ c.fn := by
  unfold zt at hd
  split at hd
  ·assumption
  ·cases hd
 have hd2 : p.Funcs[c.fn.toNat]? = some d := by
  unfold zt at hd
  rw [if_pos h0] at hd
  exact hd
 have e2 : zt (phi ν p' c).prog.Funcs (phi ν p' c).fn = some (tnD ν d) := by
  show zt p'.Funcs c.fn = _
  unfold zt
  rw [if_pos h0]
  exact H.fu _ _ hd2
 rw [e2, hd]
 rfl
theorem zoa {c : Ck} (hc : OkF p c) (q : Int) (kd : UInt8) (nm fd : BA) {ca : BA} (hca : okC p p' ca) (ty : zD) (ks : List zc) {B E B' E' : Bl} {nb : Nat} (hg : ∀ {d : Ck} {q : List zh × Ck}, B d = .ok q → Gr nb d q.2)
  (hB : ∀ d, OkF p d → B' (phi ν p' d) = mpS ν p' (B d)) (hE : ∀ d, OkF p d → E' (phi ν p' d) = mpS ν p' (E d)) :
  ksm (phi ν p' c) q kd (ν nm) fd ca ty (zcG ν ks) B' E' = mpS ν p' (ksm c q kd nm fd ca ty ks B E) := by
 unfold ksm
 rw [zmy H hc.1, znv H, znJ H hc.1 _ _ _ hca, zmU H hc, hB c hc]
 simp only [zfh H]
 split
 ·rfl
 split
 ·rfl
 split
 ·rfl
 split
 ·refine zbV fun l _ => ?_
  cases e : B c with
  | error e' => rfl
  | ok b =>
   show eb (E' (phi ν p' b.2)) _ = mpS ν p' (eb (E b.2) _)
   rw [hE b.2 (hc.gr (hg e))]
   cases E b.2 <;> rfl
 split
 ·refine zbV fun l _ => ?_
  cases e : B c <;> rfl
 split
 ·exact zbV fun l _ => rfl
 split
 ·exact zbV fun l _ => rfl
 exact zbV fun l _ => rfl
omit H in
mutual
theorem kS_phi (H : Sim ν p p') : ∀ (s : Stm), zeA (fun _ ca => okC p p' ca) s → ∀ c : Ck, OkF p c → kS (tnS ν s) (phi ν p' c) = mpS ν p' (kS s c)
 | ⟨kd, ln, nm, fd, ca, ty, ks, b, e⟩, ha, c, hc => by
  obtain ⟨h1, h2, h3⟩ := ha
  have hl : ∀ (l : List Stm) (hk : ∀ d, OkF p d → kSs (zb4 ν l) (phi ν p' d) = mpS ν p' (kSs l d)) (d : Ck), OkF p d → (eb (kSs (zb4 ν l) (phi ν p' d)) fun r => (.ok (r.1, zbM r.2 (phi ν p' d).scope.length) : Er (List zh × Ck))) = mpS ν p' (eb (kSs l d) fun r => .ok (r.1, zbM r.2 d.scope.length)) := fun l hk d hd => by
   rw [hk d hd]
   cases kSs l d <;> rfl
  have hB : ∀ {d : Ck} {q : List zh × Ck}, (eb (kSs b d) fun r => .ok (r.1, zbM r.2 d.scope.length)) = .ok q → Gr (2 * zx b) d q.2 := fun {d q} hq => by
   obtain ⟨x, h1, h2⟩ := zs hq
   injection h2 with h2
   subst h2
   exact zfG (zeb b h1)
  exact zoa H (c := zbv c ln) (B := fun d => eb (kSs b d) fun r => .ok (r.1, zbM r.2 d.scope.length)) (E := fun d => eb (kSs e d) fun r => .ok (r.1, zbM r.2 d.scope.length)) (B' := fun d => eb (kSs (zb4 ν b) d) fun r => .ok (r.1, zbM r.2 d.scope.length)) (E' := fun d => eb (kSs (zb4 ν e) d) fun r => .ok (r.1, zbM r.2 d.scope.length)) hc (c.tree.Points.length : Int) kd nm fd h1 ty ks hB (hl b (kSs_phi H b h2)) (hl e (kSs_phi H e h3))
theorem kSs_phi (H : Sim ν p p') : ∀ (l : List Stm), zcw (fun _ ca => okC p p' ca) l → ∀ c : Ck, OkF p c → kSs (zb4 ν l) (phi ν p' c) = mpS ν p' (kSs l c)
 | [], _, c, _ => rfl
 | s :: l, ha, c, hc => by
  show eb (kS (tnS ν s) (phi ν p' c)) (fun r => eb (kSs (zb4 ν l) r.2) fun q => .ok (r.1 :: q.1, q.2)) = mpS ν p' (eb (kS s c) fun r => eb (kSs l r.2) fun q => .ok (r.1 :: q.1, q.2))
  rw [kS_phi H s ha.1 c hc]
  cases e : kS s c with
  | error e' => rfl
  | ok r =>
   show eb (kSs (zb4 ν l) (phi ν p' r.2)) _ = mpS ν p' (eb (kSs l r.2) _)
   rw [kSs_phi H l ha.2 r.2 (hc.gr (zhu s e))]
   cases kSs l r.2 <;> rfl
end
theorem znS {l : List Stm} (ha : zcw (fun _ ca => okC p p' ca) l) {c : Ck} (hc : OkF p c) : kL (zb4 ν l) (phi ν p' c) = mpS ν p' (kL l c) := by
 unfold kL
 rw [kSs_phi H l ha c hc]
 cases kSs l c <;> rfl
omit H in
mutual
theorem rS_tn (ν : BA → BA) : ∀ s : Stm, rS (tnS ν s) = rS s
 | ⟨kd, ln, nm, fd, ca, ty, ks, b, e⟩ => by
  show (((kd.toNat : Int) == 10) || (((kd.toNat : Int) == 6) && (rL (zb4 ν b) && rL (zb4 ν e)))) = _
  rw [rL_tn ν b, rL_tn ν e]
  rfl
theorem rL_tn (ν : BA → BA) : ∀ l : List Stm, rL (zb4 ν l) = rL l
 | [] => rfl
 | [s] => rS_tn ν s
 | s :: t :: l => rL_tn ν (t :: l)
end
theorem zkb : ∀ (l pre : List BA), twL (pre.map ν) (l.map ν) = twL pre l
 | [], _ => rfl
 | x :: l, pre => by
  show ((pre.map ν).any (fun y => zG (ν x) y) || twL (pre.map ν ++ [ν x]) (l.map ν)) = (pre.any (fun y => zG x y) || twL (pre ++ [x]) l)
  have h := zkb l (pre ++ [x])
  rw [List.map_append] at h
  rw [show pre.map ν ++ [ν x] = pre.map ν ++ [x].map ν from rfl, h, List.any_map]
  congr 2
  funext y
  exact H.eq _ _
theorem zpS (l : List BA) : twc (l.map ν) = twc l := zkb H l []
omit H in
abbrev Pv := List zC × List Int × Bool
omit H in
def mpV (ν : BA → BA) (r : Er Pv) : Er Pv := match r with
 | .error e => .error e
 | .ok v => .ok (v.1.map (nuV ν), v.2)
theorem zj1 {c : Ck} (hc : c.prog = p) : ∀ (l : List zcU) (vs : List zC) (sc : List Int) (ns : List BA) (f : Bool), kPs (phi ν p' c) (l.map (tnP ν)) (vs.map (nuV ν)) sc (ns.map ν) f = mpV ν (kPs c l vs sc ns f)
 | [], _, _, _, _ => rfl
 | x :: l, vs, sc, ns, f => by
  have ih := zj1 hc l (vs ++ [⟨x.Name, x.Type_, 1, []⟩]) (sc ++ [(sc.length : Int)]) (ns ++ [x.Name]) (f && sca x.Type_)
  show eb (ck (knw (phi ν p' c) x.Type_ && !(twc (ns.map ν ++ [ν x.Name]))) 8) (fun _ => kPs (phi ν p' c) (l.map (tnP ν)) (vs.map (nuV ν) ++ [⟨ν x.Name, x.Type_, 1, []⟩]) (sc ++ [(sc.length : Int)]) (ns.map ν ++ [ν x.Name]) (f && sca x.Type_)) = _
  rw [List.map_append, List.map_append] at ih
  rw [zij H hc, show ns.map ν ++ [ν x.Name] = (ns ++ [x.Name]).map ν from by simp, zpS H]
  show _ = mpV ν (eb (ck (knw c x.Type_ && !(twc (ns ++ [x.Name]))) 8) fun _ => kPs c l (vs ++ [⟨x.Name, x.Type_, 1, []⟩]) (sc ++ [(sc.length : Int)]) (ns ++ [x.Name]) (f && sca x.Type_))
  cases ck (knw c x.Type_ && !(twc (ns ++ [x.Name]))) 8 with
  | error e => rfl
  | ok u =>
   show kPs (phi ν p' c) (l.map (tnP ν)) (vs.map (nuV ν) ++ [⟨ν x.Name, x.Type_, 1, []⟩]) (sc ++ [(sc.length : Int)]) ((ns ++ [x.Name]).map ν) (f && sca x.Type_) = _
   rw [List.map_append]
   exact ih
omit H in
def mpB {ε : Type} (ν : BA → BA) (p' : zm) (r : Except ε Ck) : Except ε Ck := match r with
 | .error e => .error e
 | .ok c => .ok (phi ν p' c)
omit H in
theorem zgQ {α : Type} {r : Er α} {f g : α → Er Ck} (h : ∀ a, r = .ok a → g a = mpB ν p' (f a)) : eb r g = mpB ν p' (eb r f) := by
 cases r with
 | error e => rfl
 | ok a => exact h a rfl
theorem zoA {c : Ck} (hc : c.prog = p) {i : Nat} (hi : i < p.Funcs.length) {d : zH} (hn : okC p p' d.Name) (ha : zcw (fun _ ca => okC p p' ca) d.Body) : kBd (phi ν p' c) i (tnD ν d) = mpB ν p' (kBd c i d) := by
 unfold kBd
 rw [show zcr (phi ν p' c) (tnD ν d).Name = zcr c d.Name from by unfold zcr; rw [hc]; exact hn]
 refine zgQ fun _ _ => ?_
 have e1 := zj1 H hc d.Params [] [] [] (decide ((d.Params.length : Int) ≤ 6) && (((d.Result.Kind.toNat : Int) == 0) || sca d.Result))
 show eb (kPs (phi ν p' c) (d.Params.map (tnP ν)) [] [] [] (decide (((d.Params.map (tnP ν)).length : Int) ≤ 6) && (((d.Result.Kind.toNat : Int) == 0) || sca d.Result))) _ = _
 rw [List.length_map, show kPs (phi ν p' c) (d.Params.map (tnP ν)) [] [] [] _ = _ from e1]
 cases kPs c d.Params [] [] [] (decide ((d.Params.length : Int) ≤ 6) && (((d.Result.Kind.toNat : Int) == 0) || sca d.Result)) with
 | error e => rfl
 | ok v =>
  show eb (ck (knw (phi ν p' c) d.Result) 8) _ = mpB ν p' (eb (ck (knw c d.Result) 8) _)
  rw [zij H hc]
  refine zgQ fun _ _ => zgQ fun _ _ => ?_
  show eb (kL (zb4 ν d.Body) (phi ν p' (zb8 c i v.1 v.2.1))) _ = mpB ν p' (eb (kL d.Body (zb8 c i v.1 v.2.1)) _)
  rw [znS H ha (c := zb8 c i v.1 v.2.1) ⟨hc, by show (zt p.Funcs (i : Int)).isSome = true; rw [zbx hi]; rfl⟩]
  cases kL d.Body (zb8 c i v.1 v.2.1) with
  | error e => rfl
  | ok r =>
   show eb (ck (!((d.Result.Kind.toNat : Int) != 0) || rL (zb4 ν d.Body)) 10) _ = mpB ν p' (eb (ck (!((d.Result.Kind.toNat : Int) != 0) || rL d.Body) 10) _)
   rw [rL_tn]
   refine zgQ fun _ _ => ?_
   show Except.ok (zgi (phi ν p' r.2) ⟨d.Name, ((d.Params.map (tnP ν)).length : Int), _, _, _⟩) = Except.ok (phi ν p' (zgi r.2 _))
   rw [List.length_map]
   unfold zgi phi nuB
   simp
   rfl
theorem zli {c : Ck} (hc : c.prog = p) : ∀ m i, kWS (phi ν p' c) m i = kWS c m i
 | 0, _ => rfl
 | m + 1, i => by
  unfold kWS
  rw [show (phi ν p' c).prog.Structs = c.prog.Structs from H.st.trans (by rw [hc])]
  cases c.prog.Structs[i]? with
  | none => rfl
  | some s =>
   dsimp only
   rw [show kSt (phi ν p' c) i s = kSt c i s from by unfold kSt; rw [zh3 H hc], zli hc m (i + 1)]
theorem zkX (hA : ∀ d ∈ p.Funcs, okC p p' d.Name ∧ zcw (fun _ ca => okC p p' ca) d.Body) (N : Nat) : ∀ (m i : Nat) (c : Ck), c.prog = p → i + m ≤ p.Funcs.length → kWB N m i (phi ν p' c) = mpB ν p' (kWB N m i c)
 | 0, _, _, _, _ => rfl
 | m + 1, i, c, hc, hi => by
  have hlt : i < p.Funcs.length := by omega
  unfold kWB
  have e1 : c.prog.Funcs[i]? = some p.Funcs[i] := by rw [hc]; exact List.getElem?_eq_getElem hlt
  have e2 : (phi ν p' c).prog.Funcs[i]? = some (tnD ν p.Funcs[i]) := H.fu i _ (List.getElem?_eq_getElem hlt)
  rw [e1, e2]
  dsimp only
  obtain ⟨h1, h2⟩ := hA _ (List.getElem_mem hlt)
  rw [zoA H hc hlt h1 h2]
  cases e : kBd c i p.Funcs[i] with
  | error e' => rfl
  | ok c' =>
   exact zkX hA N m (i + 1) c' ((zgI e).1.trans hc) (by omega)
end
end Go.Proofs.Ytakcaekikfcbpaa
