import Derived.Test.YtakcaekikfcbpaaP_13h
import Derived.KernelRfl
namespace Go.Proofs.Ytakcaekikfcbpaa
open Go.Ab Go.RowKit
set_option linter.unusedVariables false
set_option linter.unusedSimpArgs false
theorem reL {L : Nat → Int → Option Bool} {len : Nat} (h0 : ∀ n, L (n + 1) (len : Int) = some true) (h1 : ∀ n k, k < len → L (n + 1) (k : Int) = L n ((k + 1 : Nat) : Int)) : ∀ n k, k ≤ len → len - k < n → L n (k : Int) = some true := by
 intro n
 induction n with
 | zero => intro k _ h; omega
 | succ n ih =>
  intro k hk hn
  by_cases h : k < len
  ·rw [h1 n k h]
   exact ih (k + 1) (by omega) (by omega)
  ·have : k = len := by omega
   subst this
   exact h0 n
theorem zlp : ∀ l : List zj, l.length ≤ zbO l
 | [] => Nat.le_refl _
 | ⟨a, b, c, d, ks⟩ :: l => by
  have := zlp l
  show l.length + 1 ≤ (1 + zbO ks) + zbO l
  omega
theorem zqC {l : List zj} {x : zj} (h : x ∈ l) : zbO x.Kids < zbO l := by
 induction l with
 | nil => cases h
 | cons e l ih =>
  obtain ⟨a, b, c, d, ks⟩ := e
  show zbO x.Kids < (1 + zbO ks) + zbO l
  cases h with
  | head => show zbO ks < _; omega
  | tail _ h => have := ih h; omega
theorem zk7 : ∀ l : List zh, l.length ≤ zbE l
 | [] => Nat.le_refl _
 | ⟨a, b, c, d, e, ks, x, y⟩ :: l => by
  have := zk7 l
  show l.length + 1 ≤ (1 + zbO ks + zbE x + zbE y) + zbE l
  omega
theorem znm {l : List zh} {x : zh} (h : x ∈ l) : zbO x.Kids + zbE x.Body + zbE x.Else < zbE l := by
 induction l with
 | nil => cases h
 | cons e l ih =>
  obtain ⟨a, b, c, d, e, ks, y, z⟩ := e
  show zbO x.Kids + zbE x.Body + zbE x.Else < (1 + zbO ks + zbE y + zbE z) + zbE l
  cases h with
  | head => show zbO ks + zbE y + zbE z < _; omega
  | tail _ h => have := ih h; omega
theorem zfT (a : Int) : (a != a) = false := zhD rfl
theorem zmX (a : BA) : zP a a = true := by rw [zet]; exact zbw rfl
theorem zkU : ∀ (n : Nat) (l : List zj), zbO l < n → zbO l ≤ 1000000000 → zcQ n l l = some true
 | 0, l, h, _ => by omega
 | n + 1, l, h, hl => by
  have hlen := zlp l
  show zgF (zcQ n) l l = _
  unfold zgF
  rw [if_neg (by simp)]
  refine reL (L := zfn (zcQ n) l l) (len := l.length) (fun m => ?_) (fun m k hk => ?_) big 0 (by omega) (zbA (by omega))
  ·show zek _ (zcQ n) l l _ = _
   unfold zek
   rw [if_neg (by simp)]
  ·show zek (zfn (zcQ n) l l m) (zcQ n) l l _ = _
   unfold zek
   have hm := zqC (List.getElem_mem hk)
   have ih := zkU n l[k].Kids (by omega) (by omega)
   rw [if_pos (zbw (by omega)), zbr hk]
   simp only [Option.bind_some, zfT, Bool.false_eq_true, if_false, ih, Bool.not_true]
   rw [zbU (by omega)]
theorem zpc {l : List zj} (h : zbO l ≤ 1000000000) : zh6 l l = some true := zkU big l (zbA (by omega)) h
theorem zjN : ∀ (n : Nat) (l : List zh), zbE l < n → zbE l ≤ 1000000000 → zcT n l l = some true
 | 0, l, h, _ => by omega
 | n + 1, l, h, hl => by
  have hlen := zk7 l
  show zgA (zcT n) l l = _
  unfold zgA
  rw [if_neg (by simp)]
  refine reL (L := zfm (zcT n) l l) (len := l.length) (fun m => ?_) (fun m k hk => ?_) big 0 (by omega) (zbA (by omega))
  ·show zeh _ (zcT n) l l _ = _
   unfold zeh
   rw [if_neg (by simp)]
  ·show zeh (zfm (zcT n) l l m) (zcT n) l l _ = _
   unfold zeh
   have hm := znm (List.getElem_mem hk)
   have ih := zjN n l[k].Body (by omega) (by omega)
   have ih2 := zjN n l[k].Else (by omega) (by omega)
   have ih3 := zpc (l := l[k].Kids) (by omega)
   rw [if_pos (zbw (by omega)), zbr hk]
   simp only [Option.bind_some, zfT, Bool.or_false, Bool.false_eq_true, if_false, ih, ih2, ih3, Bool.not_true]
   rw [zbU (by omega)]
theorem zmw {l : List zh} (h : zbE l ≤ 1000000000) : zid l l = some true := zjN big l (zbA (by omega)) h
theorem zmJ {l : List Int} (hl : l.length ≤ 1000000000) : zgd l l = some true := by
 unfold zgd
 rw [if_neg (by simp)]
 refine reL (L := zeY l l) (len := l.length) (fun m => ?_) (fun m k hk => ?_) big 0 (by omega) (zbA (by omega))
 ·show zd7 _ l l _ = _
  unfold zd7
  rw [if_neg (by simp)]
 ·show zd7 (zeY l l m) l l _ = _
  unfold zd7
  rw [if_pos (zbw (by omega)), zbr hk]
  simp only [Option.bind_some, zfT, Bool.false_eq_true, if_false]
  rw [zbU (by omega)]
theorem zmE {l : List zH} (hl : l.length ≤ 1000000000) (hf : ∀ v ∈ l, v.Scope.length ≤ 1000000000) : zfd l l = some true := by
 unfold zfd
 rw [if_neg (by simp)]
 refine reL (L := ze6 l l) (len := l.length) (fun m => ?_) (fun m k hk => ?_) big 0 (by omega) (zbA (by omega))
 ·show zes _ l l _ = _
  unfold zes
  rw [if_neg (by simp)]
 ·show zes (ze6 l l m) l l _ = _
  unfold zes
  have ih := zmJ (hf _ (List.getElem_mem hk))
  rw [if_pos (zbw (by omega)), zbr hk]
  simp only [Option.bind_some, zfT, Bool.not_true, Bool.false_eq_true, if_false, ih]
  rw [zbU (by omega)]
structure Kept (I : Ck → Prop) (A : BA → BA → Prop) (N : Nat) : Prop where
 pt : ∀ c ln, I c → c.scope.length ≤ N → I (zbv c ln)
 va : ∀ c nm ca ty w fs, I c → A nm ca → I (zcS c ⟨nm, ty, w, fs⟩)
 cu : ∀ c n, I c → I (zbK c n)
section
variable {I : Ck → Prop} {A : BA → BA → Prop} {N : Nat} (K : Kept I A N)
include K
theorem zp1 {c : Ck} {p : Int} {kd : UInt8} {nm ca : BA} {ty : zz} {ks : List zc} {r : At3} (hi : I c) (ha : A nm ca) (h : kva c p kd nm ty ks = .ok r) : I r.2 := by
 unfold kva at h
 obtain ⟨_, _, h⟩ := zt h
 split at h
 ·obtain ⟨_, _, h⟩ := zt h
  obtain ⟨_, _, h⟩ := zt h
  injection h with h
  subst h
  exact K.va _ _ _ _ _ _ hi ha
 ·split at h
  ·obtain ⟨_, _, h⟩ := zt h
   injection h with h
   subst h
   exact K.va _ _ _ _ _ _ hi ha
  ·obtain ⟨_, _, h⟩ := zt h
   injection h with h
   subst h
   exact K.va _ _ _ _ _ _ hi ha
theorem zoz {c : Ck} {p : Int} {kd : UInt8} {nm fd ca : BA} {ty : zz} {ks : List zc} {B E : Bl} {r : At3} (hi : I c) (ha : A nm ca)
  {nb ne : Nat} (hs : c.scope.length + nb + ne ≤ N) (hg : ∀ {d : Ck} {q : List zh × Ck}, B d = .ok q → Gr nb d q.2)
  (hB : ∀ {d : Ck} {q : List zh × Ck}, I d → d.scope.length + nb ≤ N → B d = .ok q → I q.2) (hE : ∀ {d : Ck} {q : List zh × Ck}, I d → d.scope.length + ne ≤ N → E d = .ok q → I q.2)
  (h : ksm c p kd nm fd ca ty ks B E = .ok r) : I r.2 := by
 unfold ksm at h
 split at h
 ·exact zp1 K hi ha h
 split at h
 ·rw [zlK h]
  exact hi
 split at h
 ·rw [zkR h]
  exact hi
 split at h
 ·obtain ⟨_, _, h⟩ := zt h
  obtain ⟨b, h1, h⟩ := zt h
  obtain ⟨e, h2, h⟩ := zt h
  injection h with h
  subst h
  have g := hg h1
  have := g.s2
  exact hE (hB hi (by omega) h1) (by omega) h2
 split at h
 ·obtain ⟨_, _, h⟩ := zt h
  obtain ⟨_, h1, h⟩ := zt h
  injection h with h
  subst h
  exact hB hi (by omega) h1
 split at h
 ·obtain ⟨_, _, h⟩ := zt h
  injection h with h
  subst h
  exact hi
 split at h
 ·obtain ⟨_, _, h⟩ := zt h
  injection h with h
  subst h
  exact hi
 obtain ⟨_, _, h⟩ := zt h
 cases h
omit K in
mutual
theorem kS_inv (K : Kept I A N) : ∀ (s : Stm), zgg A s → ∀ {c : Ck} {r : At3}, I c → c.scope.length + 2 * szS s ≤ N → kS s c = .ok r → I r.2
 | ⟨kd, ln, nm, fd, ca, ty, ks, b, e⟩, ha, c, r, hi, hs, h => by
  obtain ⟨h1, h2, h3⟩ := ha
  have hs : c.scope.length + 2 * (1 + zZ ks + zu b + zu e) ≤ N := hs
  have hl : ∀ (l : List Stm) (hk : ∀ {c : Ck} {r : List zh × Ck}, I c → c.scope.length + 2 * zu l ≤ N → kSs l c = .ok r → I r.2) {d : Ck} {q : List zh × Ck}, I d → d.scope.length + 2 * zu l ≤ N → (eb (kSs l d) fun r => .ok (r.1, zbK r.2 d.scope.length)) = .ok q → I q.2 := fun l hk d q hi hs hq => by
   obtain ⟨x, h1, h2⟩ := zt hq
   injection h2 with h2
   subst h2
   exact K.cu _ _ (hk hi hs h1)
  have hB : ∀ {d : Ck} {q : List zh × Ck}, (eb (kSs b d) fun r => .ok (r.1, zbK r.2 d.scope.length)) = .ok q → Gr (2 * zu b) d q.2 := fun {d q} hq => by
   obtain ⟨x, h1, h2⟩ := zt hq
   injection h2 with h2
   subst h2
   exact zgq (zeC b h1)
  exact zoz K (c := zbv c ln) (B := fun d => eb (kSs b d) fun r => .ok (r.1, zbK r.2 d.scope.length)) (E := fun d => eb (kSs e d) fun r => .ok (r.1, zbK r.2 d.scope.length)) (nb := 2 * zu b) (ne := 2 * zu e) (K.pt c ln hi (by omega)) h1 (by show c.scope.length + _ + _ ≤ N; omega) hB (hl b (kSs_inv K b h2)) (hl e (kSs_inv K e h3)) h
theorem kSs_inv (K : Kept I A N) : ∀ (l : List Stm), zcZ A l → ∀ {c : Ck} {r : List zh × Ck}, I c → c.scope.length + 2 * zu l ≤ N → kSs l c = .ok r → I r.2
 | [], _, c, r, hi, _, h => by
  injection h with h
  subst h
  exact hi
 | s :: l, ha, c, r, hi, hs, h => by
  have hs : c.scope.length + 2 * (szS s + zu l) ≤ N := hs
  obtain ⟨x, h1, h⟩ := zt h
  obtain ⟨y, h2, h⟩ := zt h
  injection h with h
  subst h
  have g := zhF s h1
  have := g.s2
  have h3 := kSs_inv K l ha.2 (kS_inv K s ha.1 hi (by omega) h1) (by omega) h2
  exact h3
end
theorem znc {l : List Stm} (ha : zcZ A l) {c : Ck} {r : List zh × Ck} (hi : I c) (hs : c.scope.length + 2 * zu l ≤ N) (h : kL l c = .ok r) : I r.2 := by
 obtain ⟨x, h1, h2⟩ := zt h
 injection h2 with h2
 subst h2
 exact K.cu _ _ (kSs_inv K l ha hi hs h1)
end
theorem zj7 {c : Ck} {Q : BA → Prop} : ∀ {l : List zbM} {vs : List zI} {sc : List Int} {ns : List BA} {f : Bool} {v : List zI × List Int × Bool}, kPs c l vs sc ns f = .ok v → (∀ x ∈ l, Q x.Name) → (∀ x ∈ vs, x.Fields = [] ∧ Q x.Name) → v.1.length = vs.length + l.length ∧ v.2.1.length = sc.length + l.length ∧ ∀ x ∈ v.1, x.Fields = [] ∧ Q x.Name
 | [], vs, sc, ns, f, v, h, _, hv => by
  injection h with h
  subst h
  exact ⟨rfl, rfl, hv⟩
 | x :: l, vs, sc, ns, f, v, h, hl, hv => by
  obtain ⟨_, _, h⟩ := zt h
  obtain ⟨h1, h2, h3⟩ := zj7 h (fun y hy => hl y (.tail _ hy)) (fun y hy => by
   rw [List.mem_append, List.mem_singleton] at hy
   cases hy with
   | inl hy => exact hv y hy
   | inr hy => subst hy; exact ⟨rfl, hl x (.head _)⟩)
  exact ⟨by rw [h1]; simp; omega, by rw [h2]; simp; omega, h3⟩
def zfi (M : Nat) (b : zM) : Prop := zbE b.Acts ≤ 1000000000 ∧ b.Vars.length ≤ 1000000000 ∧ (∀ v ∈ b.Vars, v.Fields.length ≤ 1000000000) ∧ ∀ v ∈ b.Vars, v.Name.size ≤ M
def zoB (M : Nat) (c : Ck) : Prop := (∀ x ∈ c.tree.Points, x.Scope.length ≤ 1000000000) ∧ ∀ v ∈ c.vars, v.Name.size ≤ M
theorem zqm (M : Nat) : Kept (zoB M) (fun nm _ => nm.size ≤ M) 1000000000 := by
 refine ⟨fun c ln hi hs => ⟨fun x hx => ?_, hi.2⟩, fun c nm ca ty w fs hi ha => ⟨hi.1, fun v hv => ?_⟩, fun c n hi => hi⟩
 ·have hx : x ∈ c.tree.Points ++ [_] := hx
  rw [List.mem_append, List.mem_singleton] at hx
  cases hx with
  | inl hx => exact hi.1 x hx
  | inr hx => subst hx; exact hs
 ·have hv : v ∈ c.vars ++ [_] := hv
  rw [List.mem_append, List.mem_singleton] at hv
  cases hv with
  | inl hv => exact hi.2 v hv
  | inr hv => subst hv; exact ha
def NmD (M : Nat) (d : zG) : Prop := (∀ x ∈ d.Params, x.Name.size ≤ M) ∧ zcZ (fun nm _ => nm.size ≤ M) d.Body
theorem zov {M : Nat} {p : zm} (h : Bp p) {c c' : Ck} (hc : c.prog = p) {i : Nat} {d : zG} (hd : d ∈ p.Funcs) (hM : NmD M d) (hp : ∀ x ∈ c.tree.Points, x.Scope.length ≤ 1000000000) (hb : ∀ b ∈ c.tree.Bodies, zfi M b) (e : kBd c i d = .ok c') :
  (∀ x ∈ c'.tree.Points, x.Scope.length ≤ 1000000000) ∧ ∀ b ∈ c'.tree.Bodies, zfi M b := by
 have h1 := h.fp d hd
 have h2 := zkm hd
 have h3 := h.sz
 unfold kBd at e
 obtain ⟨_, _, e⟩ := zt e
 obtain ⟨v, e1, e⟩ := zt e
 obtain ⟨_, _, e⟩ := zt e
 obtain ⟨_, _, e⟩ := zt e
 obtain ⟨r, e2, e⟩ := zt e
 obtain ⟨_, _, e⟩ := zt e
 injection e with e
 subst e
 obtain ⟨v1, v2, v3⟩ := zj7 (Q := fun nm => nm.size ≤ M) e1 hM.1 (fun x hx => by cases hx)
 simp only [List.length_nil, Nat.zero_add] at v1 v2
 have g := zhH e2
 have hi := znc (zqm M) hM.2 (c := zca c i v.1 v.2.1) ⟨hp, fun x hx => (v3 x hx).2⟩ (by show v.2.1.length + _ ≤ _; omega) e2
 refine ⟨hi.1, fun b hb' => ?_⟩
 have hb' : b ∈ r.2.tree.Bodies ++ [_] := hb'
 rw [List.mem_append, List.mem_singleton, g.bod] at hb'
 cases hb' with
 | inl hb' => exact hb b hb'
 | inr hb' =>
  subst hb'
  refine ⟨by have := zoL e2; show zbE r.1 ≤ _; omega, ?_, fun x hx => ?_, hi.2⟩
  ·have h5 : r.2.vars.length ≤ v.1.length + _ := g.vs
   show r.2.vars.length ≤ _
   omega
  ·have h6 := g.fl (fun s hs => by rw [show (zca c (i : Int) v.1 v.2.1).prog = p from hc] at hs; have := h.sf s hs; omega) (fun k => by
    unfold vf zca
    dsimp only
    cases e : v.1[k]? with
    | none => exact Nat.zero_le _
    | some w =>
     obtain ⟨hk, rfl⟩ := List.getElem?_eq_some_iff.1 e
     dsimp only
     rw [(v3 _ (List.getElem_mem hk)).1]
     exact Nat.zero_le _)
   have hx : x ∈ r.2.vars := hx
   obtain ⟨k, hk, rfl⟩ := List.getElem_of_mem hx
   have h7 := h6 k
   rw [zkP hk] at h7
   exact h7
theorem zlr {M : Nat} {p : zm} (h : Bp p) (hM : ∀ d ∈ p.Funcs, NmD M d) (N : Nat) : ∀ (m i : Nat) (c c' : Ck), c.prog = p → (∀ x ∈ c.tree.Points, x.Scope.length ≤ 1000000000) → (∀ b ∈ c.tree.Bodies, zfi M b) → kWB N m i c = .ok c' →
  c'.prog = p ∧ (∀ x ∈ c'.tree.Points, x.Scope.length ≤ 1000000000) ∧ (∀ b ∈ c'.tree.Bodies, zfi M b) ∧ ∃ more, c'.tree.Bodies = c.tree.Bodies ++ more
 | 0, _, c, c', hc, hp, hb, e => by
  injection e with e
  subst e
  exact ⟨hc, hp, hb, [], by simp⟩
 | m + 1, i, c, c', hc, hp, hb, e => by
  unfold kWB at e
  cases e1 : c.prog.Funcs[i]? with
  | none =>
   rw [e1] at e
   injection e with e
   subst e
   exact ⟨hc, hp, hb, [], by simp⟩
  | some d =>
   rw [e1] at e
   dsimp only at e
   cases e2 : kBd c i d with
   | error x => rw [e2] at e; cases e
   | ok c2 =>
    rw [e2] at e
    have hd : d ∈ p.Funcs := by
     rw [hc] at e1
     obtain ⟨hk, rfl⟩ := List.getElem?_eq_some_iff.1 e1
     exact List.getElem_mem hk
    obtain ⟨g1, g2⟩ := zov h hc hd (hM d hd) hp hb e2
    obtain ⟨g3, _, b, g5⟩ := zhb e2
    obtain ⟨a1, a2, a3, more, a4⟩ := zlr h hM N m (i + 1) c2 c' (g3.trans hc) g1 g2 e
    exact ⟨a1, a2, a3, [b] ++ more, by rw [a4, g5, List.append_assoc]⟩
end Go.Proofs.Ytakcaekikfcbpaa
