import Derived.Test.YtakcaekikfcbpaaP_13g
import Derived.KernelRfl
namespace Go.Proofs.Ytakcaekikfcbpaa
open Go.Ab Go.RowKit
set_option linter.unusedVariables false
set_option linter.unusedSimpArgs false
section
variable (ν : BA → BA)
mutual
def tnE : zc → zc
 | ⟨kd, nu, nm, fd, op, ks⟩ => ⟨kd, nu, ν nm, fd, op, zb9 ks⟩
def zb9 : List zc → List zc
 | [] => []
 | x :: l => tnE x :: zb9 l
end
mutual
def tnS : Stm → Stm
 | ⟨kd, ln, nm, fd, ca, ty, ks, b, e⟩ => ⟨kd, ln, ν nm, fd, ca, ty, zb9 ν ks, zbI b, zbI e⟩
def zbI : List Stm → List Stm
 | [] => []
 | x :: l => tnS x :: zbI l
end
def tnP (x : zbM) : zbM := ⟨ν x.Name, x.Type_⟩
def tnD (d : zG) : zG := ⟨d.Name, d.Line, d.Params.map (tnP ν), d.Result, zbI ν d.Body⟩
def nuV (v : zI) : zI := ⟨ν v.Name, v.Type_, v.Words, v.Fields⟩
def nuB (b : zM) : zM := ⟨b.Name, b.Params, b.Result, b.Vars.map (nuV ν), b.Acts⟩
def phi (p' : zm) (c : Ck) : Ck := ⟨p', ⟨c.tree.Bodies.map (nuB ν), c.tree.Main, c.tree.Points⟩, c.fn, c.vars.map (nuV ν), c.scope⟩
structure Sim (p p' : zm) : Prop where
 eq : ∀ x y, zP (ν x) (ν y) = zP x y
 nb : ∀ x, zP (ν x) zqP = zP x zqP
 st : p'.Structs = p.Structs
 fu : ∀ (i : Nat) d, p.Funcs[i]? = some d → p'.Funcs[i]? = some (tnD ν d)
end
mutual
def zgg (A : BA → BA → Prop) : Stm → Prop
 | ⟨_, _, nm, _, ca, _, _, b, e⟩ => A nm ca ∧ zcZ A b ∧ zcZ A e
def zcZ (A : BA → BA → Prop) : List Stm → Prop
 | [] => True
 | s :: l => zgg A s ∧ zcZ A l
end
def okC (p p' : zm) (ca : BA) : Prop := p'.Funcs.findIdx? (fun v => zP v.Name ca) = p.Funcs.findIdx? (fun v => zP v.Name ca)
section
variable {ν : BA → BA} {p p' : zm} (H : Sim ν p p')
include H
theorem zml (c : Ck) (nm : BA) : zdf (phi ν p' c) (ν nm) = zdf c nm := by
 unfold zdf phi
 dsimp only
 rw [List.findIdx?_map]
 congr 1
 funext v
 exact H.eq _ _
theorem ziU (c : Ck) (nm : BA) : fnd (phi ν p' c) (ν nm) = fnd c nm := by
 unfold fnd
 rw [zml H]
 rfl
omit H in
theorem zhA (c : Ck) (k : Nat) : vt (phi ν p' c) k = vt c k := by
 unfold vt phi
 dsimp only
 rw [List.getElem?_map]
 cases c.vars[k]? <;> rfl
omit H in
theorem zmY (c : Ck) (k : Nat) : vf (phi ν p' c) k = vf c k := by
 unfold vf phi
 dsimp only
 rw [List.getElem?_map]
 cases c.vars[k]? <;> rfl
omit H in
theorem zlz (c : Ck) (k : Nat) (nm : BA) : zdG (phi ν p' c) k nm = zdG c k nm := by
 unfold zdG
 rw [zmY]
theorem zjV {c : Ck} (hc : c.prog = p) (nm : BA) : zcF (phi ν p' c) nm = zcF c nm := by
 unfold zcF phi
 dsimp only
 rw [H.st, hc]
theorem zil {c : Ck} (hc : c.prog = p) (t : zz) : knw (phi ν p' c) t = knw c t := by
 unfold knw
 rw [zjV H hc]
theorem zo9 {c : Ck} (hc : c.prog = p) (nm : BA) : zda (phi ν p' c) nm = zda c nm := by
 unfold zda
 rw [zjV H hc]
 have e : (phi ν p' c).prog.Structs = c.prog.Structs := H.st.trans (by rw [hc])
 rw [e]
theorem zoj (c : Ck) (kd : UInt8) (nu : Int) (nm fd op : BA) (r : Er Vks) : kx (phi ν p' c) kd nu (ν nm) fd op r = kx c kd nu nm fd op r := by
 unfold kx kpl
 rw [ziU H]
 simp only [zhA, zlz]
omit H in
mutual
theorem kE_phi (H : Sim ν p p') (c : Ck) : ∀ x : zc, kE (phi ν p' c) (tnE ν x) = kE c x
 | ⟨kd, nu, nm, fd, op, ks⟩ => by
  show kx (phi ν p' c) kd nu (ν nm) fd op (kEs (phi ν p' c) (zb9 ν ks)) = kx c kd nu nm fd op (kEs c ks)
  rw [kEs_phi H c ks, zoj H]
theorem kEs_phi (H : Sim ν p p') (c : Ck) : ∀ l : List zc, kEs (phi ν p' c) (zb9 ν l) = kEs c l
 | [] => rfl
 | x :: l => by
  show eb (kE (phi ν p' c) (tnE ν x)) (fun v => eb (kEs (phi ν p' c) (zb9 ν l)) fun w => .ok (v.1 :: w.1, v.2 :: w.2)) = _
  rw [kE_phi H c x, kEs_phi H c l]
  rfl
end
theorem zfA (c : Ck) (l : List zc) (want : List UInt8) : kvs (phi ν p' c) (zb9 ν l) want = kvs c l want := by
 unfold kvs
 rw [kEs_phi H]
omit H in
def mpS {α : Type} (ν : BA → BA) (p' : zm) (r : Er (α × Ck)) : Er (α × Ck) := match r with
 | .error e => .error e
 | .ok x => .ok (x.1, phi ν p' x.2)
omit H in
theorem zbY {α β : Type} {r : Er α} {f : α → Er (β × Ck)} {g : α → Er (β × Ck)} (h : ∀ a, r = .ok a → g a = mpS ν p' (f a)) : eb r g = mpS ν p' (eb r f) := by
 cases r with
 | error e => rfl
 | ok a => exact h a rfl
omit H in
theorem zif (c : Ck) (nm : BA) (ty : zz) (w : Int) (fs : List BA) : zcS (phi ν p' c) ⟨ν nm, ty, w, fs⟩ = phi ν p' (zcS c ⟨nm, ty, w, fs⟩) := by
 unfold zcS phi
 simp [nuV]
theorem zmz {c : Ck} (hc : c.prog = p) (q : Int) (kd : UInt8) (nm : BA) (ty : zz) (ks : List zc) : kva (phi ν p' c) q kd (ν nm) ty (zb9 ν ks) = mpS ν p' (kva c q kd nm ty ks) := by
 have hl : (phi ν p' c).vars.length = c.vars.length := by simp [phi]
 unfold kva
 rw [zml H, zil H hc, zo9 H hc]
 refine zbY fun _ _ => ?_
 split
 ·refine zbY fun _ _ => ?_
  rw [zfA H]
  refine zbY fun _ _ => ?_
  rw [zif, hl]
  rfl
 split
 ·rw [zfA H]
  refine zbY fun _ _ => ?_
  rw [zif, hl]
  rfl
 ·rw [zfA H]
  refine zbY fun _ _ => ?_
  rw [zif, hl]
  rfl
theorem zpC (c : Ck) (q : Int) (kd : UInt8) (nm fd : BA) (ks : List zc) : kas (phi ν p' c) q kd (ν nm) fd (zb9 ν ks) = mpS ν p' (kas c q kd nm fd ks) := by
 unfold kas
 rw [ziU H]
 refine zbY fun k _ => ?_
 simp only [zhA, zlz, zfA H]
 split
 ·exact zbY fun _ _ => zbY fun _ _ => rfl
 split
 ·exact zbY fun _ _ => zbY fun _ _ => rfl
 split
 ·exact zbY fun _ _ => zbY fun _ _ => rfl
 split
 ·exact zbY fun _ _ => zbY fun _ _ => zbY fun _ _ => rfl
 rfl
omit H in
theorem zqL (d : zG) : kwn (tnD ν d) = kwn d := by
 unfold kwn tnD
 rw [List.map_map]
 rfl
omit H in
theorem zoT (c : Ck) (v : Option Nat) (d : zG) : kfi (phi ν p' c) v (tnD ν d) = kfi c v d := by
 cases v with
 | none => rfl
 | some k =>
  show (((vt (phi ν p' c) k).Kind.toNat : Int) == _) = _
  rw [zhA]
  rfl
theorem znx {c : Ck} (hc : c.prog = p) (q : Int) (kd : UInt8) (nm : BA) {ca : BA} (hca : okC p p' ca) (ks : List zc) : kca (phi ν p' c) q kd (ν nm) ca (zb9 ν ks) = mpS ν p' (kca c q kd nm ca ks) := by
 have e1 : kcv (phi ν p' c) (ν nm) = kcv c nm := by
  unfold kcv
  rw [H.nb, ziU H]
  simp only [zhA]
 have e2 : zb5 (phi ν p' c) ca = zb5 c ca := by
  unfold zb5
  rw [hc]
  exact hca
 unfold kca
 rw [e1, e2]
 refine zbY fun v _ => ?_
 cases e : zb5 c ca with
 | none => rfl
 | some f =>
  have hf := zfc e
  have e3 : c.prog.Funcs[f]? = some c.prog.Funcs[f] := List.getElem?_eq_getElem hf
  have e4 : (phi ν p' c).prog.Funcs[f]? = some (tnD ν c.prog.Funcs[f]) := H.fu f _ (by rw [← hc]; exact e3)
  dsimp only
  rw [e3, e4]
  dsimp only
  rw [zqL, zfA H, zoT]
  exact zbY fun _ _ => zbY fun _ _ => rfl
omit H in
def OkF (p : zm) (c : Ck) : Prop := c.prog = p ∧ (zs p.Funcs c.fn).isSome = true
omit H in
theorem OkF.gr {c c' : Ck} {n : Nat} (h : OkF p c) (g : Gr n c c') : OkF p c' := ⟨g.prog.trans h.1, by rw [g.fn]; exact h.2⟩
theorem zpi {c : Ck} (hc : OkF p c) : rk (phi ν p' c) = rk c := by
 obtain ⟨h1, h2⟩ := hc
 unfold rk
 rw [h1]
 obtain ⟨d, hd⟩ := Option.isSome_iff_exists.1 h2
 have h0 : 0 ≤ c.fn := by
  unfold zs at hd
  split at hd
  ·assumption
  ·cases hd
 have hd2 : p.Funcs[c.fn.toNat]? = some d := by
  unfold zs at hd
  rw [if_pos h0] at hd
  exact hd
 have e2 : zs (phi ν p' c).prog.Funcs (phi ν p' c).fn = some (tnD ν d) := by
  show zs p'.Funcs c.fn = _
  unfold zs
  rw [if_pos h0]
  exact H.fu _ _ hd2
 rw [e2, hd]
 rfl
theorem zp6 {c : Ck} (hc : OkF p c) (q : Int) (kd : UInt8) (nm fd : BA) {ca : BA} (hca : okC p p' ca) (ty : zz) (ks : List zc) {B E B' E' : Bl} {nb : Nat} (hg : ∀ {d : Ck} {q : List zh × Ck}, B d = .ok q → Gr nb d q.2)
  (hB : ∀ d, OkF p d → B' (phi ν p' d) = mpS ν p' (B d)) (hE : ∀ d, OkF p d → E' (phi ν p' d) = mpS ν p' (E d)) :
  ksm (phi ν p' c) q kd (ν nm) fd ca ty (zb9 ν ks) B' E' = mpS ν p' (ksm c q kd nm fd ca ty ks B E) := by
 unfold ksm
 rw [zmz H hc.1, zpC H, znx H hc.1 _ _ _ hca, zpi H hc, hB c hc]
 simp only [zfA H]
 split
 ·rfl
 split
 ·rfl
 split
 ·rfl
 split
 ·refine zbY fun l _ => ?_
  cases e : B c with
  | error e' => rfl
  | ok b =>
   show eb (E' (phi ν p' b.2)) _ = mpS ν p' (eb (E b.2) _)
   rw [hE b.2 (hc.gr (hg e))]
   cases E b.2 <;> rfl
 split
 ·refine zbY fun l _ => ?_
  cases e : B c <;> rfl
 split
 ·exact zbY fun l _ => rfl
 split
 ·exact zbY fun l _ => rfl
 exact zbY fun l _ => rfl
omit H in
mutual
theorem kS_phi (H : Sim ν p p') : ∀ (s : Stm), zgg (fun _ ca => okC p p' ca) s → ∀ c : Ck, OkF p c → kS (tnS ν s) (phi ν p' c) = mpS ν p' (kS s c)
 | ⟨kd, ln, nm, fd, ca, ty, ks, b, e⟩, ha, c, hc => by
  obtain ⟨h1, h2, h3⟩ := ha
  have hl : ∀ (l : List Stm) (hk : ∀ d, OkF p d → kSs (zbI ν l) (phi ν p' d) = mpS ν p' (kSs l d)) (d : Ck), OkF p d → (eb (kSs (zbI ν l) (phi ν p' d)) fun r => (.ok (r.1, zbK r.2 (phi ν p' d).scope.length) : Er (List zh × Ck))) = mpS ν p' (eb (kSs l d) fun r => .ok (r.1, zbK r.2 d.scope.length)) := fun l hk d hd => by
   rw [hk d hd]
   cases kSs l d <;> rfl
  have hB : ∀ {d : Ck} {q : List zh × Ck}, (eb (kSs b d) fun r => .ok (r.1, zbK r.2 d.scope.length)) = .ok q → Gr (2 * zu b) d q.2 := fun {d q} hq => by
   obtain ⟨x, h1, h2⟩ := zt hq
   injection h2 with h2
   subst h2
   exact zgq (zeC b h1)
  exact zp6 H (c := zbv c ln) (B := fun d => eb (kSs b d) fun r => .ok (r.1, zbK r.2 d.scope.length)) (E := fun d => eb (kSs e d) fun r => .ok (r.1, zbK r.2 d.scope.length)) (B' := fun d => eb (kSs (zbI ν b) d) fun r => .ok (r.1, zbK r.2 d.scope.length)) (E' := fun d => eb (kSs (zbI ν e) d) fun r => .ok (r.1, zbK r.2 d.scope.length)) hc (c.tree.Points.length : Int) kd nm fd h1 ty ks hB (hl b (kSs_phi H b h2)) (hl e (kSs_phi H e h3))
theorem kSs_phi (H : Sim ν p p') : ∀ (l : List Stm), zcZ (fun _ ca => okC p p' ca) l → ∀ c : Ck, OkF p c → kSs (zbI ν l) (phi ν p' c) = mpS ν p' (kSs l c)
 | [], _, c, _ => rfl
 | s :: l, ha, c, hc => by
  show eb (kS (tnS ν s) (phi ν p' c)) (fun r => eb (kSs (zbI ν l) r.2) fun q => .ok (r.1 :: q.1, q.2)) = mpS ν p' (eb (kS s c) fun r => eb (kSs l r.2) fun q => .ok (r.1 :: q.1, q.2))
  rw [kS_phi H s ha.1 c hc]
  cases e : kS s c with
  | error e' => rfl
  | ok r =>
   show eb (kSs (zbI ν l) (phi ν p' r.2)) _ = mpS ν p' (eb (kSs l r.2) _)
   rw [kSs_phi H l ha.2 r.2 (hc.gr (zhF s e))]
   cases kSs l r.2 <;> rfl
end
theorem zp7 {l : List Stm} (ha : zcZ (fun _ ca => okC p p' ca) l) {c : Ck} (hc : OkF p c) : kL (zbI ν l) (phi ν p' c) = mpS ν p' (kL l c) := by
 unfold kL
 rw [kSs_phi H l ha c hc]
 cases kSs l c <;> rfl
omit H in
mutual
theorem rS_tn (ν : BA → BA) : ∀ s : Stm, rS (tnS ν s) = rS s
 | ⟨kd, ln, nm, fd, ca, ty, ks, b, e⟩ => by
  show (((kd.toNat : Int) == 10) || (((kd.toNat : Int) == 6) && (rL (zbI ν b) && rL (zbI ν e)))) = _
  rw [rL_tn ν b, rL_tn ν e]
  rfl
theorem rL_tn (ν : BA → BA) : ∀ l : List Stm, rL (zbI ν l) = rL l
 | [] => rfl
 | [s] => rS_tn ν s
 | s :: t :: l => rL_tn ν (t :: l)
end
theorem zjX : ∀ (l pre : List BA), twL (pre.map ν) (l.map ν) = twL pre l
 | [], _ => rfl
 | x :: l, pre => by
  show ((pre.map ν).any (fun y => zP (ν x) y) || twL (pre.map ν ++ [ν x]) (l.map ν)) = (pre.any (fun y => zP x y) || twL (pre ++ [x]) l)
  have h := zjX l (pre ++ [x])
  rw [List.map_append] at h
  rw [show pre.map ν ++ [ν x] = pre.map ν ++ [x].map ν from rfl, h, List.any_map]
  congr 2
  funext y
  exact H.eq _ _
theorem zo0 (l : List BA) : twc (l.map ν) = twc l := zjX H l []
omit H in
abbrev Pv := List zI × List Int × Bool
omit H in
def mpV (ν : BA → BA) (r : Er Pv) : Er Pv := match r with
 | .error e => .error e
 | .ok v => .ok (v.1.map (nuV ν), v.2)
theorem zme {c : Ck} (hc : c.prog = p) : ∀ (l : List zbM) (vs : List zI) (sc : List Int) (ns : List BA) (f : Bool), kPs (phi ν p' c) (l.map (tnP ν)) (vs.map (nuV ν)) sc (ns.map ν) f = mpV ν (kPs c l vs sc ns f)
 | [], _, _, _, _ => rfl
 | x :: l, vs, sc, ns, f => by
  have ih := zme hc l (vs ++ [⟨x.Name, x.Type_, 1, []⟩]) (sc ++ [(sc.length : Int)]) (ns ++ [x.Name]) (f && sca x.Type_)
  show eb (ck (knw (phi ν p' c) x.Type_ && !(twc (ns.map ν ++ [ν x.Name]))) 8) (fun _ => kPs (phi ν p' c) (l.map (tnP ν)) (vs.map (nuV ν) ++ [⟨ν x.Name, x.Type_, 1, []⟩]) (sc ++ [(sc.length : Int)]) (ns.map ν ++ [ν x.Name]) (f && sca x.Type_)) = _
  rw [List.map_append, List.map_append] at ih
  rw [zil H hc, show ns.map ν ++ [ν x.Name] = (ns ++ [x.Name]).map ν from by simp, zo0 H]
  show _ = mpV ν (eb (ck (knw c x.Type_ && !(twc (ns ++ [x.Name]))) 8) fun _ => kPs c l (vs ++ [⟨x.Name, x.Type_, 1, []⟩]) (sc ++ [(sc.length : Int)]) (ns ++ [x.Name]) (f && sca x.Type_))
  cases ck (knw c x.Type_ && !(twc (ns ++ [x.Name]))) 8 with
  | error e => rfl
  | ok u =>
   show kPs (phi ν p' c) (l.map (tnP ν)) (vs.map (nuV ν) ++ [⟨ν x.Name, x.Type_, 1, []⟩]) (sc ++ [(sc.length : Int)]) ((ns ++ [x.Name]).map ν) (f && sca x.Type_) = _
   rw [List.map_append]
   exact ih
omit H in
def mpB {ε : Type} (ν : BA → BA) (p' : zm) (r : Except ε Ck) : Except ε Ck := match r with
 | .error e => .error e
 | .ok c => .ok (phi ν p' c)
omit H in
theorem zhK {α : Type} {r : Er α} {f g : α → Er Ck} (h : ∀ a, r = .ok a → g a = mpB ν p' (f a)) : eb r g = mpB ν p' (eb r f) := by
 cases r with
 | error e => rfl
 | ok a => exact h a rfl
theorem znL {c : Ck} (hc : c.prog = p) {i : Nat} (hi : i < p.Funcs.length) {d : zG} (hn : okC p p' d.Name) (ha : zcZ (fun _ ca => okC p p' ca) d.Body) : kBd (phi ν p' c) i (tnD ν d) = mpB ν p' (kBd c i d) := by
 unfold kBd
 rw [show zb5 (phi ν p' c) (tnD ν d).Name = zb5 c d.Name from by unfold zb5; rw [hc]; exact hn]
 refine zhK fun _ _ => ?_
 have e1 := zme H hc d.Params [] [] [] (decide ((d.Params.length : Int) ≤ 6) && (((d.Result.Kind.toNat : Int) == 0) || sca d.Result))
 show eb (kPs (phi ν p' c) (d.Params.map (tnP ν)) [] [] [] (decide (((d.Params.map (tnP ν)).length : Int) ≤ 6) && (((d.Result.Kind.toNat : Int) == 0) || sca d.Result))) _ = _
 rw [List.length_map, show kPs (phi ν p' c) (d.Params.map (tnP ν)) [] [] [] _ = _ from e1]
 cases kPs c d.Params [] [] [] (decide ((d.Params.length : Int) ≤ 6) && (((d.Result.Kind.toNat : Int) == 0) || sca d.Result)) with
 | error e => rfl
 | ok v =>
  show eb (ck (knw (phi ν p' c) d.Result) 8) _ = mpB ν p' (eb (ck (knw c d.Result) 8) _)
  rw [zil H hc]
  refine zhK fun _ _ => zhK fun _ _ => ?_
  show eb (kL (zbI ν d.Body) (phi ν p' (zca c i v.1 v.2.1))) _ = mpB ν p' (eb (kL d.Body (zca c i v.1 v.2.1)) _)
  rw [zp7 H ha (c := zca c i v.1 v.2.1) ⟨hc, by show (zs p.Funcs (i : Int)).isSome = true; rw [zbr hi]; rfl⟩]
  cases kL d.Body (zca c i v.1 v.2.1) with
  | error e => rfl
  | ok r =>
   show eb (ck (!((d.Result.Kind.toNat : Int) != 0) || rL (zbI ν d.Body)) 10) _ = mpB ν p' (eb (ck (!((d.Result.Kind.toNat : Int) != 0) || rL d.Body) 10) _)
   rw [rL_tn]
   refine zhK fun _ _ => ?_
   show Except.ok (zf3 (phi ν p' r.2) ⟨d.Name, ((d.Params.map (tnP ν)).length : Int), _, _, _⟩) = Except.ok (phi ν p' (zf3 r.2 _))
   rw [List.length_map]
   unfold zf3 phi nuB
   simp
   rfl
theorem zlJ {c : Ck} (hc : c.prog = p) : ∀ m i, kWS (phi ν p' c) m i = kWS c m i
 | 0, _ => rfl
 | m + 1, i => by
  unfold kWS
  rw [show (phi ν p' c).prog.Structs = c.prog.Structs from H.st.trans (by rw [hc])]
  cases c.prog.Structs[i]? with
  | none => rfl
  | some s =>
   dsimp only
   rw [show kSt (phi ν p' c) i s = kSt c i s from by unfold kSt; rw [zjV H hc], zlJ hc m (i + 1)]
theorem zle (hA : ∀ d ∈ p.Funcs, okC p p' d.Name ∧ zcZ (fun _ ca => okC p p' ca) d.Body) (N : Nat) : ∀ (m i : Nat) (c : Ck), c.prog = p → i + m ≤ p.Funcs.length → kWB N m i (phi ν p' c) = mpB ν p' (kWB N m i c)
 | 0, _, _, _, _ => rfl
 | m + 1, i, c, hc, hi => by
  have hlt : i < p.Funcs.length := by omega
  unfold kWB
  have e1 : c.prog.Funcs[i]? = some p.Funcs[i] := by rw [hc]; exact List.getElem?_eq_getElem hlt
  have e2 : (phi ν p' c).prog.Funcs[i]? = some (tnD ν p.Funcs[i]) := H.fu i _ (List.getElem?_eq_getElem hlt)
  rw [e1, e2]
  dsimp only
  obtain ⟨h1, h2⟩ := hA _ (List.getElem_mem hlt)
  rw [znL H hc hlt h1 h2]
  cases e : kBd c i p.Funcs[i] with
  | error e' => rfl
  | ok c' =>
   exact zle hA N m (i + 1) c' ((zhb e).1.trans hc) (by omega)
end
end Go.Proofs.Ytakcaekikfcbpaa
