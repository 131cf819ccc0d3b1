import Derived.Test.YtakcaekikfcbpaaP_13h
import Derived.KernelRfl
namespace Go.Proofs.Ytakcaekikfcbpaa
open Go.Ab Go.RowKit
set_option linter.unusedVariables false
set_option linter.unusedSimpArgs false
theorem reL {L : Nat → Int → Option Bool} {len : Nat} (h0 : ∀ n, L (n + 1) (len : Int) = some true) (h1 : ∀ n k, k < len → L (n + 1) (k : Int) = L n ((k + 1 : Nat) : Int)) : ∀ n k, k ≤ len → len - k < n → L n (k : Int) = some true := by
 intro n
 induction n with
 | zero => intro k _ h; omega
 | succ n ih =>
  intro k hk hn
  by_cases h : k < len
  ·rw [h1 n k h]
   exact ih (k + 1) (by omega) (by omega)
  ·have : k = len := by omega
   subst this
   exact h0 n
theorem zkB : ∀ l : List zj, l.length ≤ zbO l
 | [] => Nat.le_refl _
 | ⟨a, b, c, d, ks⟩ :: l => by
  have := zkB l
  show l.length + 1 ≤ (1 + zbO ks) + zbO l
  omega
theorem zno {l : List zj} {x : zj} (h : x ∈ l) : zbO x.Kids < zbO l := by
 induction l with
 | nil => cases h
 | cons e l ih =>
  obtain ⟨a, b, c, d, ks⟩ := e
  show zbO x.Kids < (1 + zbO ks) + zbO l
  cases h with
  | head => show zbO ks < _; omega
  | tail _ h => have := ih h; omega
theorem zkw : ∀ l : List zh, l.length ≤ zbE l
 | [] => Nat.le_refl _
 | ⟨a, b, c, d, e, ks, x, y⟩ :: l => by
  have := zkw l
  show l.length + 1 ≤ (1 + zbO ks + zbE x + zbE y) + zbE l
  omega
theorem zmX {l : List zh} {x : zh} (h : x ∈ l) : zbO x.Kids + zbE x.Body + zbE x.Else < zbE l := by
 induction l with
 | nil => cases h
 | cons e l ih =>
  obtain ⟨a, b, c, d, e, ks, y, z⟩ := e
  show zbO x.Kids + zbE x.Body + zbE x.Else < (1 + zbO ks + zbE y + zbE z) + zbE l
  cases h with
  | head => show zbO ks + zbE y + zbE z < _; omega
  | tail _ h => have := ih h; omega
theorem zf6 (a : Int) : (a != a) = false := zg6 rfl
theorem znq (a : BA) : zO a a = true := by rw [zel]; exact zbx rfl
theorem zlx : ∀ (n : Nat) (l : List zj), zbO l < n → zbO l ≤ 1000000000 → zcR n l l = some true
 | 0, l, h, _ => by omega
 | n + 1, l, h, hl => by
  have hlen := zkB l
  show zgp (zcR n) l l = _
  unfold zgp
  rw [if_neg (by simp)]
  refine reL (L := zfz (zcR n) l l) (len := l.length) (fun m => ?_) (fun m k hk => ?_) big 0 (by omega) (zbA (by omega))
  ·show zeB _ (zcR n) l l _ = _
   unfold zeB
   rw [if_neg (by simp)]
  ·show zeB (zfz (zcR n) l l m) (zcR n) l l _ = _
   unfold zeB
   have hm := zno (List.getElem_mem hk)
   have ih := zlx n l[k].Kids (by omega) (by omega)
   rw [if_pos (zbx (by omega)), zbs hk]
   simp only [Option.bind_some, zf6, Bool.false_eq_true, if_false, ih, Bool.not_true]
   rw [zbU (by omega)]
theorem znl {l : List zj} (h : zbO l ≤ 1000000000) : zjB l l = some true := zlx big l (zbA (by omega)) h
theorem ziP : ∀ (n : Nat) (l : List zh), zbE l < n → zbE l ≤ 1000000000 → zc1 n l l = some true
 | 0, l, h, _ => by omega
 | n + 1, l, h, hl => by
  have hlen := zkw l
  show zfZ (zc1 n) l l = _
  unfold zfZ
  rw [if_neg (by simp)]
  refine reL (L := zeR (zc1 n) l l) (len := l.length) (fun m => ?_) (fun m k hk => ?_) big 0 (by omega) (zbA (by omega))
  ·show zev _ (zc1 n) l l _ = _
   unfold zev
   rw [if_neg (by simp)]
  ·show zev (zeR (zc1 n) l l m) (zc1 n) l l _ = _
   unfold zev
   have hm := zmX (List.getElem_mem hk)
   have ih := ziP n l[k].Body (by omega) (by omega)
   have ih2 := ziP n l[k].Else (by omega) (by omega)
   have ih3 := znl (l := l[k].Kids) (by omega)
   rw [if_pos (zbx (by omega)), zbs hk]
   simp only [Option.bind_some, zf6, Bool.or_false, Bool.false_eq_true, if_false, ih, ih2, ih3, Bool.not_true]
   rw [zbU (by omega)]
theorem zqr {l : List zh} (h : zbE l ≤ 1000000000) : zie l l = some true := ziP big l (zbA (by omega)) h
theorem zqg {l : List Int} (hl : l.length ≤ 1000000000) : zfY l l = some true := by
 unfold zfY
 rw [if_neg (by simp)]
 refine reL (L := zfa l l) (len := l.length) (fun m => ?_) (fun m k hk => ?_) big 0 (by omega) (zbA (by omega))
 ·show zeu _ l l _ = _
  unfold zeu
  rw [if_neg (by simp)]
 ·show zeu (zfa l l m) l l _ = _
  unfold zeu
  rw [if_pos (zbx (by omega)), zbs hk]
  simp only [Option.bind_some, zf6, Bool.false_eq_true, if_false]
  rw [zbU (by omega)]
theorem zqN {l : List zH} (hl : l.length ≤ 1000000000) (hf : ∀ v ∈ l, v.Scope.length ≤ 1000000000) : ze3 l l = some true := by
 unfold ze3
 rw [if_neg (by simp)]
 refine reL (L := zfj l l) (len := l.length) (fun m => ?_) (fun m k hk => ?_) big 0 (by omega) (zbA (by omega))
 ·show zek _ l l _ = _
  unfold zek
  rw [if_neg (by simp)]
 ·show zek (zfj l l m) l l _ = _
  unfold zek
  have ih := zqg (hf _ (List.getElem_mem hk))
  rw [if_pos (zbx (by omega)), zbs hk]
  simp only [Option.bind_some, zf6, Bool.not_true, Bool.false_eq_true, if_false, ih]
  rw [zbU (by omega)]
structure Kept (I : Ck → Prop) (A : BA → BA → Prop) (N : Nat) : Prop where
 pt : ∀ c ln, I c → c.scope.length ≤ N → I (zbv c ln)
 va : ∀ c nm ca ty w fs, I c → A nm ca → I (zcX c ⟨nm, ty, w, fs⟩)
 cu : ∀ c n, I c → I (zbL c n)
section
variable {I : Ck → Prop} {A : BA → BA → Prop} {N : Nat} (K : Kept I A N)
include K
theorem zpO {c : Ck} {p : Int} {kd : UInt8} {nm ca : BA} {ty : zy} {ks : List zc} {r : At3} (hi : I c) (ha : A nm ca) (h : kva c p kd nm ty ks = .ok r) : I r.2 := by
 unfold kva at h
 obtain ⟨_, _, h⟩ := zt h
 split at h
 ·obtain ⟨_, _, h⟩ := zt h
  obtain ⟨_, _, h⟩ := zt h
  injection h with h
  subst h
  exact K.va _ _ _ _ _ _ hi ha
 ·split at h
  ·obtain ⟨_, _, h⟩ := zt h
   injection h with h
   subst h
   exact K.va _ _ _ _ _ _ hi ha
  ·obtain ⟨_, _, h⟩ := zt h
   injection h with h
   subst h
   exact K.va _ _ _ _ _ _ hi ha
theorem zoW {c : Ck} {p : Int} {kd : UInt8} {nm fd ca : BA} {ty : zy} {ks : List zc} {B E : Bl} {r : At3} (hi : I c) (ha : A nm ca)
  {nb ne : Nat} (hs : c.scope.length + nb + ne ≤ N) (hg : ∀ {d : Ck} {q : List zh × Ck}, B d = .ok q → Gr nb d q.2)
  (hB : ∀ {d : Ck} {q : List zh × Ck}, I d → d.scope.length + nb ≤ N → B d = .ok q → I q.2) (hE : ∀ {d : Ck} {q : List zh × Ck}, I d → d.scope.length + ne ≤ N → E d = .ok q → I q.2)
  (h : ksm c p kd nm fd ca ty ks B E = .ok r) : I r.2 := by
 unfold ksm at h
 split at h
 ·exact zpO K hi ha h
 split at h
 ·rw [zme h]
  exact hi
 split at h
 ·rw [zkU h]
  exact hi
 split at h
 ·obtain ⟨_, _, h⟩ := zt h
  obtain ⟨b, h1, h⟩ := zt h
  obtain ⟨e, h2, h⟩ := zt h
  injection h with h
  subst h
  have g := hg h1
  have := g.s2
  exact hE (hB hi (by omega) h1) (by omega) h2
 split at h
 ·obtain ⟨_, _, h⟩ := zt h
  obtain ⟨_, h1, h⟩ := zt h
  injection h with h
  subst h
  exact hB hi (by omega) h1
 split at h
 ·obtain ⟨_, _, h⟩ := zt h
  injection h with h
  subst h
  exact hi
 split at h
 ·obtain ⟨_, _, h⟩ := zt h
  injection h with h
  subst h
  exact hi
 obtain ⟨_, _, h⟩ := zt h
 cases h
omit K in
mutual
theorem kS_inv (K : Kept I A N) : ∀ (s : Stm), zf4 A s → ∀ {c : Ck} {r : At3}, I c → c.scope.length + 2 * szS s ≤ N → kS s c = .ok r → I r.2
 | ⟨kd, ln, nm, fd, ca, ty, ks, b, e⟩, ha, c, r, hi, hs, h => by
  obtain ⟨h1, h2, h3⟩ := ha
  have hs : c.scope.length + 2 * (1 + z3 ks + zu b + zu e) ≤ N := hs
  have hl : ∀ (l : List Stm) (hk : ∀ {c : Ck} {r : List zh × Ck}, I c → c.scope.length + 2 * zu l ≤ N → kSs l c = .ok r → I r.2) {d : Ck} {q : List zh × Ck}, I d → d.scope.length + 2 * zu l ≤ N → (eb (kSs l d) fun r => .ok (r.1, zbL r.2 d.scope.length)) = .ok q → I q.2 := fun l hk d q hi hs hq => by
   obtain ⟨x, h1, h2⟩ := zt hq
   injection h2 with h2
   subst h2
   exact K.cu _ _ (hk hi hs h1)
  have hB : ∀ {d : Ck} {q : List zh × Ck}, (eb (kSs b d) fun r => .ok (r.1, zbL r.2 d.scope.length)) = .ok q → Gr (2 * zu b) d q.2 := fun {d q} hq => by
   obtain ⟨x, h1, h2⟩ := zt hq
   injection h2 with h2
   subst h2
   exact zfP (zeq b h1)
  exact zoW K (c := zbv c ln) (B := fun d => eb (kSs b d) fun r => .ok (r.1, zbL r.2 d.scope.length)) (E := fun d => eb (kSs e d) fun r => .ok (r.1, zbL r.2 d.scope.length)) (nb := 2 * zu b) (ne := 2 * zu e) (K.pt c ln hi (by omega)) h1 (by show c.scope.length + _ + _ ≤ N; omega) hB (hl b (kSs_inv K b h2)) (hl e (kSs_inv K e h3)) h
theorem kSs_inv (K : Kept I A N) : ∀ (l : List Stm), zcY A l → ∀ {c : Ck} {r : List zh × Ck}, I c → c.scope.length + 2 * zu l ≤ N → kSs l c = .ok r → I r.2
 | [], _, c, r, hi, _, h => by
  injection h with h
  subst h
  exact hi
 | s :: l, ha, c, r, hi, hs, h => by
  have hs : c.scope.length + 2 * (szS s + zu l) ≤ N := hs
  obtain ⟨x, h1, h⟩ := zt h
  obtain ⟨y, h2, h⟩ := zt h
  injection h with h
  subst h
  have g := zhF s h1
  have := g.s2
  have h3 := kSs_inv K l ha.2 (kS_inv K s ha.1 hi (by omega) h1) (by omega) h2
  exact h3
end
theorem zqA {l : List Stm} (ha : zcY A l) {c : Ck} {r : List zh × Ck} (hi : I c) (hs : c.scope.length + 2 * zu l ≤ N) (h : kL l c = .ok r) : I r.2 := by
 obtain ⟨x, h1, h2⟩ := zt h
 injection h2 with h2
 subst h2
 exact K.cu _ _ (kSs_inv K l ha hi hs h1)
end
theorem zkK {c : Ck} {Q : BA → Prop} : ∀ {l : List zbM} {vs : List zI} {sc : List Int} {ns : List BA} {f : Bool} {v : List zI × List Int × Bool}, kPs c l vs sc ns f = .ok v → (∀ x ∈ l, Q x.Name) → (∀ x ∈ vs, x.Fields = [] ∧ Q x.Name) → v.1.length = vs.length + l.length ∧ v.2.1.length = sc.length + l.length ∧ ∀ x ∈ v.1, x.Fields = [] ∧ Q x.Name
 | [], vs, sc, ns, f, v, h, _, hv => by
  injection h with h
  subst h
  exact ⟨rfl, rfl, hv⟩
 | x :: l, vs, sc, ns, f, v, h, hl, hv => by
  obtain ⟨_, _, h⟩ := zt h
  obtain ⟨h1, h2, h3⟩ := zkK h (fun y hy => hl y (.tail _ hy)) (fun y hy => by
   rw [List.mem_append, List.mem_singleton] at hy
   cases hy with
   | inl hy => exact hv y hy
   | inr hy => subst hy; exact ⟨rfl, hl x (.head _)⟩)
  exact ⟨by rw [h1]; simp; omega, by rw [h2]; simp; omega, h3⟩
def zeV (M : Nat) (b : zM) : Prop := zbE b.Acts ≤ 1000000000 ∧ b.Vars.length ≤ 1000000000 ∧ (∀ v ∈ b.Vars, v.Fields.length ≤ 1000000000) ∧ ∀ v ∈ b.Vars, v.Name.size ≤ M
def zoJ (M : Nat) (c : Ck) : Prop := (∀ x ∈ c.tree.Points, x.Scope.length ≤ 1000000000) ∧ ∀ v ∈ c.vars, v.Name.size ≤ M
theorem zmJ (M : Nat) : Kept (zoJ M) (fun nm _ => nm.size ≤ M) 1000000000 := by
 refine ⟨fun c ln hi hs => ⟨fun x hx => ?_, hi.2⟩, fun c nm ca ty w fs hi ha => ⟨hi.1, fun v hv => ?_⟩, fun c n hi => hi⟩
 ·have hx : x ∈ c.tree.Points ++ [_] := hx
  rw [List.mem_append, List.mem_singleton] at hx
  cases hx with
  | inl hx => exact hi.1 x hx
  | inr hx => subst hx; exact hs
 ·have hv : v ∈ c.vars ++ [_] := hv
  rw [List.mem_append, List.mem_singleton] at hv
  cases hv with
  | inl hv => exact hi.2 v hv
  | inr hv => subst hv; exact ha
def NmD (M : Nat) (d : zG) : Prop := (∀ x ∈ d.Params, x.Name.size ≤ M) ∧ zcY (fun nm _ => nm.size ≤ M) d.Body
theorem zpp {M : Nat} {p : zm} (h : Bp p) {c c' : Ck} (hc : c.prog = p) {i : Nat} {d : zG} (hd : d ∈ p.Funcs) (hM : NmD M d) (hp : ∀ x ∈ c.tree.Points, x.Scope.length ≤ 1000000000) (hb : ∀ b ∈ c.tree.Bodies, zeV M b) (e : kBd c i d = .ok c') :
  (∀ x ∈ c'.tree.Points, x.Scope.length ≤ 1000000000) ∧ ∀ b ∈ c'.tree.Bodies, zeV M b := by
 have h1 := h.fp d hd
 have h2 := zj3 hd
 have h3 := h.sz
 unfold kBd at e
 obtain ⟨_, _, e⟩ := zt e
 obtain ⟨v, e1, e⟩ := zt e
 obtain ⟨_, _, e⟩ := zt e
 obtain ⟨_, _, e⟩ := zt e
 obtain ⟨r, e2, e⟩ := zt e
 obtain ⟨_, _, e⟩ := zt e
 injection e with e
 subst e
 obtain ⟨v1, v2, v3⟩ := zkK (Q := fun nm => nm.size ≤ M) e1 hM.1 (fun x hx => by cases hx)
 simp only [List.length_nil, Nat.zero_add] at v1 v2
 have g := zhz e2
 have hi := zqA (zmJ M) hM.2 (c := zb8 c i v.1 v.2.1) ⟨hp, fun x hx => (v3 x hx).2⟩ (by show v.2.1.length + _ ≤ _; omega) e2
 refine ⟨hi.1, fun b hb' => ?_⟩
 have hb' : b ∈ r.2.tree.Bodies ++ [_] := hb'
 rw [List.mem_append, List.mem_singleton, g.bod] at hb'
 cases hb' with
 | inl hb' => exact hb b hb'
 | inr hb' =>
  subst hb'
  refine ⟨by have := zmD e2; show zbE r.1 ≤ _; omega, ?_, fun x hx => ?_, hi.2⟩
  ·have h5 : r.2.vars.length ≤ v.1.length + _ := g.vs
   show r.2.vars.length ≤ _
   omega
  ·have h6 := g.fl (fun s hs => by rw [show (zb8 c (i : Int) v.1 v.2.1).prog = p from hc] at hs; have := h.sf s hs; omega) (fun k => by
    unfold vf zb8
    dsimp only
    cases e : v.1[k]? with
    | none => exact Nat.zero_le _
    | some w =>
     obtain ⟨hk, rfl⟩ := List.getElem?_eq_some_iff.1 e
     dsimp only
     rw [(v3 _ (List.getElem_mem hk)).1]
     exact Nat.zero_le _)
   have hx : x ∈ r.2.vars := hx
   obtain ⟨k, hk, rfl⟩ := List.getElem_of_mem hx
   have h7 := h6 k
   rw [zjZ hk] at h7
   exact h7
theorem zlm {M : Nat} {p : zm} (h : Bp p) (hM : ∀ d ∈ p.Funcs, NmD M d) (N : Nat) : ∀ (m i : Nat) (c c' : Ck), c.prog = p → (∀ x ∈ c.tree.Points, x.Scope.length ≤ 1000000000) → (∀ b ∈ c.tree.Bodies, zeV M b) → kWB N m i c = .ok c' →
  c'.prog = p ∧ (∀ x ∈ c'.tree.Points, x.Scope.length ≤ 1000000000) ∧ (∀ b ∈ c'.tree.Bodies, zeV M b) ∧ ∃ more, c'.tree.Bodies = c.tree.Bodies ++ more
 | 0, _, c, c', hc, hp, hb, e => by
  injection e with e
  subst e
  exact ⟨hc, hp, hb, [], by simp⟩
 | m + 1, i, c, c', hc, hp, hb, e => by
  unfold kWB at e
  cases e1 : c.prog.Funcs[i]? with
  | none =>
   rw [e1] at e
   injection e with e
   subst e
   exact ⟨hc, hp, hb, [], by simp⟩
  | some d =>
   rw [e1] at e
   dsimp only at e
   cases e2 : kBd c i d with
   | error x => rw [e2] at e; cases e
   | ok c2 =>
    rw [e2] at e
    have hd : d ∈ p.Funcs := by
     rw [hc] at e1
     obtain ⟨hk, rfl⟩ := List.getElem?_eq_some_iff.1 e1
     exact List.getElem_mem hk
    obtain ⟨g1, g2⟩ := zpp h hc hd (hM d hd) hp hb e2
    obtain ⟨g3, _, b, g5⟩ := zhu e2
    obtain ⟨a1, a2, a3, more, a4⟩ := zlm h hM N m (i + 1) c2 c' (g3.trans hc) g1 g2 e
    exact ⟨a1, a2, a3, [b] ++ more, by rw [a4, g5, List.append_assoc]⟩
end Go.Proofs.Ytakcaekikfcbpaa
