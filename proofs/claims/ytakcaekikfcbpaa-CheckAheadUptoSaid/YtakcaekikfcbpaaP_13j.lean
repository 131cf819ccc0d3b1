import Derived.Test.YtakcaekikfcbpaaP_13i
import Derived.KernelRfl
namespace Go.Proofs.Ytakcaekikfcbpaa
open Go.Ab Go.RowKit
set_option linter.unusedVariables false
set_option linter.unusedSimpArgs false
mutual
theorem zp2 : ∀ x : zc, tnE id x = x
 | ⟨kd, nu, nm, fd, op, ks⟩ => by
  show (⟨kd, nu, nm, fd, op, zcG id ks⟩ : zc) = _
  rw [zik ks]
theorem zik : ∀ l : List zc, zcG id l = l
 | [] => rfl
 | x :: l => by
  show tnE id x :: zcG id l = _
  rw [zp2 x, zik l]
end
mutual
theorem zmM : ∀ x : Stm, tnS id x = x
 | ⟨kd, ln, nm, fd, ca, ty, ks, b, e⟩ => by
  show (⟨kd, ln, nm, fd, ca, ty, zcG id ks, zb4 id b, zb4 id e⟩ : Stm) = _
  rw [zik ks, zg9 b, zg9 e]
theorem zg9 : ∀ l : List Stm, zb4 id l = l
 | [] => rfl
 | x :: l => by
  show tnS id x :: zb4 id l = _
  rw [zmM x, zg9 l]
end
theorem zjr {α : Type} {f : α → α} (h : ∀ x, f x = x) (l : List α) : l.map f = l := by
 rw [show f = id from funext h, List.map_id]
theorem znI (d : zH) : tnD id d = d := by
 unfold tnD
 rw [zg9, zjr (f := tnP id) (fun _ => rfl)]
theorem znZ (b : zL) : nuB id b = b := by
 unfold nuB
 rw [zjr (f := nuV id) (fun _ => rfl)]
mutual
def clS (f : BA) : Stm → Bool
 | ⟨_, _, _, _, ca, _, _, b, e⟩ => zG ca f || clL f b || clL f e
def clL (f : BA) : List Stm → Bool
 | [] => false
 | s :: l => clS f s || clL f l
end
theorem zmQ (f : BA) (s : Stm) : clS f s = (zG s.Call f || clL f s.Body || clL f s.Else) := by cases s; rfl
theorem znm {R : List Stm → BA → Option Bool} {l : List Stm} {f : BA} (hl : l.length ≤ 1000000000) (hR : ∀ x ∈ l, R x.Body f = some (clL f x.Body) ∧ R x.Else f = some (clL f x.Else)) : ∀ (n k : Nat), k ≤ l.length → l.length - k < n → zem R l f n (k : Int) = some (clL f (l.drop k)) := by
 intro n
 induction n with
 | zero => intro k _ h; omega
 | succ n ih =>
  intro k hk hn
  show zfN (zem R l f n) R l f (k : Int) = _
  unfold zfN
  by_cases h : k < l.length
  ·obtain ⟨h1, h2⟩ := hR _ (List.getElem_mem h)
   rw [if_pos (zbB (by omega)), zbx h]
   simp only [Option.bind_some]
   rw [h1, h2, zbW (by omega), ih (k + 1) (by omega) (by omega), List.drop_eq_getElem_cons h]
   show _ = some (clS f l[k] || clL f (l.drop (k + 1)))
   rw [zmQ]
   cases zG l[k].Call f <;> cases clL f l[k].Body <;> cases clL f l[k].Else <;> rfl
  ·rw [if_neg (by simp; omega), List.drop_of_length_le (by omega)]
   rfl
theorem zil (f : BA) : ∀ (n : Nat) (l : List Stm), zx l < n → zx l ≤ 1000000000 → zdL n l f = some (clL f l)
 | 0, l, h, _ => by omega
 | n + 1, l, h, hl => by
  have hlen := zgb l
  show zem (zdL n) l f big 0 = _
  exact znm (by omega) (fun x hx => ⟨zil f n x.Body (by have := zdI hx; omega) (by have := zdI hx; omega), zil f n x.Else (by have := zdI hx; omega) (by have := zdI hx; omega)⟩) big 0 (by omega) (zbF (by omega))
theorem zow {f : BA} {l : List Stm} (h : zx l ≤ 1000000000) : zhY l f = some (clL f l) := zil f big l (zbF (by omega)) h
mutual
theorem znE {A : BA → Prop} {Q : List zH} (hA : ∀ ca, (∀ d ∈ Q, zG ca d.Name = false) → A ca) : ∀ s : Stm, (∀ d ∈ Q, clS d.Name s = false) → zeA (fun _ ca => A ca) s
 | ⟨kd, ln, nm, fd, ca, ty, ks, b, e⟩, h => by
  have h : ∀ d ∈ Q, (zG ca d.Name || clL d.Name b || clL d.Name e) = false := h
  simp only [Bool.or_eq_false_iff] at h
  exact ⟨hA ca fun d hd => (h d hd).1.1, zgB hA b fun d hd => (h d hd).1.2, zgB hA e fun d hd => (h d hd).2⟩
theorem zgB {A : BA → Prop} {Q : List zH} (hA : ∀ ca, (∀ d ∈ Q, zG ca d.Name = false) → A ca) : ∀ l : List Stm, (∀ d ∈ Q, clL d.Name l = false) → zcw (fun _ ca => A ca) l
 | [], _ => trivial
 | s :: l, h => by
  have h : ∀ d ∈ Q, (clS d.Name s || clL d.Name l) = false := h
  simp only [Bool.or_eq_false_iff] at h
  exact ⟨znE hA s fun d hd => (h d hd).1, zgB hA l fun d hd => (h d hd).2⟩
end
mutual
theorem znj : ∀ s : Stm, ∃ M, zeA (fun nm _ => nm.size ≤ M) s
 | ⟨kd, ln, nm, fd, ca, ty, ks, b, e⟩ => by
  obtain ⟨m1, h1⟩ := zgY b
  obtain ⟨m2, h2⟩ := zgY e
  exact ⟨nm.size + m1 + m2, by omega, zd2 (by omega) b h1, zd2 (by omega) e h2⟩
theorem zgY : ∀ l : List Stm, ∃ M, zcw (fun nm _ => nm.size ≤ M) l
 | [] => ⟨0, trivial⟩
 | s :: l => by
  obtain ⟨m1, h1⟩ := znj s
  obtain ⟨m2, h2⟩ := zgY l
  exact ⟨m1 + m2, zl8 (by omega) s h1, zd2 (by omega) l h2⟩
theorem zl8 {M M' : Nat} (h : M ≤ M') : ∀ s : Stm, zeA (fun nm _ => nm.size ≤ M) s → zeA (fun nm _ => nm.size ≤ M') s
 | ⟨kd, ln, nm, fd, ca, ty, ks, b, e⟩, ⟨h1, h2, h3⟩ => ⟨Nat.le_trans h1 h, zd2 h b h2, zd2 h e h3⟩
theorem zd2 {M M' : Nat} (h : M ≤ M') : ∀ l : List Stm, zcw (fun nm _ => nm.size ≤ M) l → zcw (fun nm _ => nm.size ≤ M') l
 | [], _ => trivial
 | s :: l, ⟨h1, h2⟩ => ⟨zl8 h s h1, zd2 h l h2⟩
end
theorem zlp : ∀ l : List zcU, ∃ M, ∀ x ∈ l, x.Name.size ≤ M
 | [] => ⟨0, fun x hx => by cases hx⟩
 | x :: l => by
  obtain ⟨m, h⟩ := zlp l
  refine ⟨x.Name.size + m, fun y hy => ?_⟩
  cases hy with
  | head => omega
  | tail _ hy => have := h y hy; omega
theorem zpt {M M' : Nat} (h : M ≤ M') {d : zH} (hd : NmD M d) : NmD M' d := ⟨fun x hx => Nat.le_trans (hd.1 x hx) h, zd2 h _ hd.2⟩
theorem zjA : ∀ l : List zH, ∃ M, ∀ d ∈ l, NmD M d
 | [] => ⟨0, fun d hd => by cases hd⟩
 | d :: l => by
  obtain ⟨m1, h1⟩ := zjA l
  obtain ⟨m2, h2⟩ := zlp d.Params
  obtain ⟨m3, h3⟩ := zgY d.Body
  refine ⟨m1 + m2 + m3, fun y hy => ?_⟩
  cases hy with
  | head => exact ⟨fun x hx => by have := h2 x hx; omega, zd2 (by omega) _ h3⟩
  | tail _ hy => exact zpt (by omega) (h1 y hy)
def zbL (p q : zm) : zm := ⟨p.Structs, p.Funcs ++ q.Funcs⟩
theorem zkA {p q : zm} {ca : BA} (h : ∀ d ∈ q.Funcs, zG ca d.Name = false) : okC p (zbL p q) ca := by
 unfold okC zbL
 dsimp only
 rw [List.findIdx?_append]
 rw [show q.Funcs.findIdx? (fun v => zG v.Name ca) = none from by
  rw [List.findIdx?_eq_none_iff]
  intro d hd
  have := h d hd
  rw [zh0] at this ⊢
  rw [decide_eq_false_iff_not] at this ⊢
  exact fun e => this e.symm]
 cases p.Funcs.findIdx? (fun v => zG v.Name ca) <;> rfl
theorem zoc (p q : zm) : Sim id p (zbL p q) := by
 refine ⟨fun _ _ => rfl, fun _ => rfl, rfl, fun i d hd => ?_⟩
 obtain ⟨hk, rfl⟩ := List.getElem?_eq_some_iff.1 hd
 rw [znI]
 show (p.Funcs ++ q.Funcs)[i]? = _
 rw [List.getElem?_append_left hk, List.getElem?_eq_getElem hk]
theorem zkm (N : Nat) : ∀ (m k i : Nat) (c : Ck), i + m ≤ c.prog.Funcs.length → kWB N (m + k) i c = (match kWB N m i c with
  | .error x => .error x
  | .ok c' => kWB N k (i + m) c')
 | 0, k, i, c, _ => by
  rw [Nat.zero_add]
  rfl
 | m + 1, k, i, c, h => by
  have hi : i < c.prog.Funcs.length := by omega
  rw [show m + 1 + k = (m + k) + 1 from by omega]
  simp only [kWB, List.getElem?_eq_getElem hi]
  cases e : kBd c i c.prog.Funcs[i] with
  | error x => rfl
  | ok c' =>
   dsimp only
   rw [zkm N m k (i + 1) c' (by rw [(zgI e).1]; omega), show i + 1 + m = i + (m + 1) from by omega]
theorem zma (c : Ck) : ∀ (m i : Nat) {x : Nat × Int}, kWS c m i = .error x → x.1 < i + m
 | 0, i, x, h => by cases h
 | m + 1, i, x, h => by
  unfold kWS at h
  split at h
  ·cases h
  split at h
  ·injection h with h
   subst h
   show i < _
   omega
  ·have := zma c m (i + 1) h
   omega
theorem zme (N : Nat) : ∀ (m i : Nat) (c : Ck) {x : Nat × Int}, kWB N m i c = .error x → x.1 < N + i + m
 | 0, i, c, x, h => by cases h
 | m + 1, i, c, x, h => by
  unfold kWB at h
  split at h
  ·cases h
  split at h
  ·injection h with h
   subst h
   show N + i < _
   omega
  ·have := zme N m (i + 1) _ h
   omega
theorem zqo {N : Nat} {c : Ck} {x : Nat × Int} (h : kWT N c = .error x) : x = (N, 8) := by
 unfold kWT at h
 split at h
 ·injection h with h; exact h.symm
 split at h
 ·injection h with h; exact h.symm
 split at h
 ·cases h
 ·injection h with h; exact h.symm
theorem zj7 {N : Nat} {c c' : Ck} (h : kWT N c = .ok c') : c'.tree.Bodies = c.tree.Bodies ∧ c'.tree.Points = c.tree.Points := by
 unfold kWT at h
 split at h
 ·cases h
 split at h
 ·cases h
 split at h
 ·injection h with h
  subst h
  exact ⟨rfl, rfl⟩
 ·cases h
theorem zqs {p q : zm} (hA : ∀ d ∈ p.Funcs, okC p (zbL p q) d.Name ∧ zcw (fun _ ca => okC p (zbL p q) ca) d.Body) :
  (∃ x, kWh (ck0 p) = .error x ∧ kWh (ck0 (zbL p q)) = .error x ∧ x.1 < p.Structs.length + p.Funcs.length) ∨
  ∃ c, kWB p.Structs.length p.Funcs.length 0 (ck0 p) = .ok c ∧ kWh (ck0 p) = kWT (p.Structs.length + p.Funcs.length) c ∧
   kWh (ck0 (zbL p q)) = (match kWB p.Structs.length q.Funcs.length (0 + p.Funcs.length) (phi id (zbL p q) c) with
    | .error x => .error x
    | .ok c' => kWT (p.Structs.length + (p.Funcs ++ q.Funcs).length) c') := by
 have H := zoc p q
 have e0 : ck0 (zbL p q) = phi id (zbL p q) (ck0 p) := rfl
 have e1 : kWS (ck0 (zbL p q)) p.Structs.length 0 = kWS (ck0 p) p.Structs.length 0 := by rw [e0]; exact zli H rfl _ _
 have e2 : kWB p.Structs.length (p.Funcs ++ q.Funcs).length 0 (ck0 (zbL p q)) = (match mpB id (zbL p q) (kWB p.Structs.length p.Funcs.length 0 (ck0 p)) with
   | .error x => .error x
   | .ok c' => kWB p.Structs.length q.Funcs.length (0 + p.Funcs.length) c') := by
  rw [List.length_append, zkm _ _ _ _ _ (by show 0 + p.Funcs.length ≤ (p.Funcs ++ q.Funcs).length; simp), e0, zkX H hA _ _ _ _ rfl (by omega)]
 have w1 : kWh (ck0 p) = (match kWS (ck0 p) p.Structs.length 0 with
   | .error x => .error x
   | .ok _ => match kWB p.Structs.length p.Funcs.length 0 (ck0 p) with
    | .error x => .error x
    | .ok c' => kWT (p.Structs.length + p.Funcs.length) c') := rfl
 have w2 : kWh (ck0 (zbL p q)) = (match kWS (ck0 (zbL p q)) p.Structs.length 0 with
   | .error x => .error x
   | .ok _ => match kWB p.Structs.length (p.Funcs ++ q.Funcs).length 0 (ck0 (zbL p q)) with
    | .error x => .error x
    | .ok c' => kWT (p.Structs.length + (p.Funcs ++ q.Funcs).length) c') := rfl
 rw [e1, e2] at w2
 cases h1 : kWS (ck0 p) p.Structs.length 0 with
 | error x =>
  rw [h1] at w1 w2
  exact .inl ⟨x, w1, w2, by have := zma _ _ _ h1; omega⟩
 | ok u =>
  rw [h1] at w1 w2
  cases h2 : kWB p.Structs.length p.Funcs.length 0 (ck0 p) with
  | error x =>
   rw [h2] at w1 w2
   exact .inl ⟨x, w1, w2, by have := zme _ _ _ _ h2; omega⟩
  | ok c =>
   rw [h2] at w1 w2
   exact .inr ⟨c, rfl, w1, w2⟩
theorem zgz {p : zm} {x : Nat × Int} (h : kWh (ck0 p) = .error x) : kP p = (zhD, (x.1 : Int), x.2) := by
 unfold kP
 rw [h]
theorem zlC {p : zm} {c : Ck} (h : kWh (ck0 p) = .ok c) : kP p = (zhD, 0, 11) ∨ kP p = (c.tree, 0, 0) := by
 unfold kP
 rw [h]
 dsimp only
 unfold zi5
 split
 ·exact .inl rfl
 ·exact .inr rfl
theorem zoK {t u : zA} {n e : Int} {n' e' : Int} {more : List zL} (hu : u.Bodies = t.Bodies ++ more) (hl : t.Bodies.length ≤ 1000000000) {M : Nat} (hg : ∀ b ∈ t.Bodies, zft M b) : zer (t, n, e) (u, n', e') big 0 = some true := by
 refine reL (L := zer (t, n, e) (u, n', e')) (len := t.Bodies.length) (fun m => ?_) (fun m k hk => ?_) big 0 (by omega) (zbF (by omega))
 ·show zex _ (t, n, e) (u, n', e') _ = _
  unfold zex
  rw [if_neg (by simp)]
  rfl
 ·show zex (zer (t, n, e) (u, n', e') m) (t, n, e) (u, n', e') _ = _
  unfold zex
  obtain ⟨g1, g2, g3, _⟩ := hg _ (List.getElem_mem hk)
  have e1 : zt u.Bodies (k : Int) = some t.Bodies[k] := by
   rw [hu, zl2, List.getElem?_append_left hk, List.getElem?_eq_getElem hk]
  rw [if_pos (zbB (by show (k : Int) < t.Bodies.length; omega))]
  dsimp only
  rw [zbx hk, e1]
  simp only [Option.bind_some]
  rw [zpq g1, znl g2 g3]
  simp only [Option.bind_some, Bool.not_true, Bool.false_eq_true, if_false]
  rw [zbW (by omega)]
theorem zpT {p q : zm} (hp : szP p ≤ 3000) (hq : szP q ≤ 3000) (hA : ∀ d ∈ p.Funcs, okC p (zbL p q) d.Name ∧ zcw (fun _ ca => okC p (zbL p q) ca) d.Body) : zfM p (p.Funcs ++ q.Funcs) = some true := by
 have hBp := zhJ (p := p) (by omega)
 have hsz : szP (zbL p q) ≤ 100000 := by
  have hG : ∀ l l' : List zH, szG (l ++ l') = szG l + szG l' := fun l l' => by
   induction l with
   | nil => show szG l' = 0 + szG l'; omega
   | cons d l ih => show d.Params.length + zx d.Body + szG (l ++ l') = d.Params.length + zx d.Body + szG l + szG l'; omega
  unfold szP at *
  show p.Structs.length + (p.Funcs ++ q.Funcs).length + szF p.Structs + szG (p.Funcs ++ q.Funcs) ≤ _
  rw [hG, List.length_append]
  omega
 have hBb := zhJ hsz
 have hst := hBp.st
 have hfu := hBp.fu
 unfold zfM
 rw [zls hBp, Option.bind_some]
 show (zcE (zbL p q)).bind _ = _
 rw [zls hBb, Option.bind_some]
 have hW : ∀ b : Bool, (if b = true then (zey).bind fun c1260 => some c1260 else some false) = some b := fun b => by cases b <;> rfl
 rcases zqs hA with ⟨x, h1, h2, h3⟩ | ⟨c, h1, h2, h3⟩
 ·rw [zgz h1, zgz h2]
  have hnz := zjp hBp h1
  dsimp only
  have hb : (((x.1 : Int) == (x.1 : Int)) && (x.2 == x.2)) = true := by simp
  rw [hb, if_pos rfl]
  have hb2 : ((x.2 != 0) || (x.2 != 0)) = true := by rw [zhO (by omega)]; rfl
  rw [hb2, if_pos rfl]
  split <;> rfl
 ·cases h4 : kWT (p.Structs.length + p.Funcs.length) c with
  | error x =>
   rw [h4] at h2
   rw [zgz h2]
   have := zqo h4
   subst this
   dsimp only
   rw [show (((8 : Int) != 0) && ((8 : Int) != 11)) = true from rfl, zdC (by omega), Bool.true_and, if_neg (by simp), show (8 : Int) != 0 from rfl, Bool.true_or, if_pos rfl]
   rfl
  | ok c' =>
   rw [h4] at h2
   obtain ⟨b1, _⟩ := zj7 h4
   rcases zlC h2 with h5 | h5
   ·rw [h5]
    dsimp only
    rw [show (((11 : Int) != 0) && ((11 : Int) != 11)) = false from rfl, Bool.false_and, if_neg (by decide), show (11 : Int) != 0 from rfl, Bool.true_or, if_pos rfl]
    rfl
   rw [h5]
   dsimp only
   rw [show (((0 : Int) != 0) && ((0 : Int) != 11)) = false from rfl, Bool.false_and, if_neg (by decide), show ((0 : Int) != 0) = false from rfl, Bool.false_or]
   by_cases hf : ((kP (zbL p q)).2.2 != 0) = true
   ·rw [if_pos hf]
    rfl
   rw [if_neg hf]
   have hf : (kP (zbL p q)).2.2 = 0 := by simpa using hf
   have hcp : c.prog = p := by
    obtain ⟨M, hM⟩ := zjA p.Funcs
    exact (zgL hBp hM _ _ _ _ _ rfl (fun x hx => by cases hx) (fun x hx => by cases hx) h1).1
   obtain ⟨M, hM⟩ := zjA (p.Funcs ++ q.Funcs)
   obtain ⟨_, g2, g3, _⟩ := zgL hBp (fun d hd => hM d (List.mem_append_left _ hd)) _ _ _ _ _ rfl (fun x hx => by cases hx) (fun x hx => by cases hx) h1
   cases h6 : kWB p.Structs.length q.Funcs.length (0 + p.Funcs.length) (phi id (zbL p q) c) with
   | error x =>
    rw [h6] at h3
    have h3 : kWh (ck0 (zbL p q)) = .error x := h3
    rw [zgz h3] at hf
    have := zjp hBb h3
    have hf : x.2 = 0 := hf
    omega
   | ok c2 =>
    rw [h6] at h3
    have h3 : kWh (ck0 (zbL p q)) = kWT (p.Structs.length + (p.Funcs ++ q.Funcs).length) c2 := h3
    have hmap : c.tree.Bodies.map (nuB id) = c.tree.Bodies := zjr znZ _
    obtain ⟨_, _, _, more, k4⟩ := zgL hBb hM _ _ _ _ _ (show (phi id (zbL p q) c).prog = zbL p q from rfl) g2 (by show ∀ b ∈ c.tree.Bodies.map (nuB id), zft M b; rw [hmap]; exact g3) h6
    cases h7 : kWT (p.Structs.length + (p.Funcs ++ q.Funcs).length) c2 with
    | error x =>
     rw [h7] at h3
     rw [zgz h3] at hf
     have := zjp hBb h3
     have hf : x.2 = 0 := hf
     omega
    | ok c3 =>
     rw [h7] at h3
     obtain ⟨b3, _⟩ := zj7 h7
     have hbl : c'.tree.Bodies.length ≤ 1000000000 := by
      have := (zi8 (c := ck0 p) hBp rfl rfl)
      rw [h2] at this
      rw [this.2]
      show p.Funcs.length ≤ _
      omega
     have hu : c3.tree.Bodies = c'.tree.Bodies ++ more := by
      rw [b3, k4, b1]
      show c.tree.Bodies.map (nuB id) ++ more = _
      rw [hmap]
     rcases zlC h3 with h8 | h8
     ·rw [h8] at hf
      exact absurd hf (show ¬ ((11 : Int) = 0) by decide)
     rw [h8]
     dsimp only
     rw [if_neg (by rw [hu, List.length_append]; simp; omega)]
     exact zoK hu hbl (by rw [b1]; exact g3)
theorem znN {p q : zm} (hp : szP p ≤ 1000000000) (hq : szP q ≤ 1000000000) : zgF p q = some true := by
 unfold zgF
 rw [zka hp, Option.bind_some, zka hq]
 by_cases h1 : szP p > 3000
 ·rw [if_pos (zbB (by omega))]
  rfl
 rw [if_neg (by simp; omega), Option.bind_some, Option.bind_some]
 by_cases h2 : szP q > 3000
 ·rw [zbB (p := ((szP q : Nat) : Int) > 3000) (by omega)]
  rfl
 rw [zgC (p := ((szP q : Nat) : Int) > 3000) (by omega), Bool.false_or]
 by_cases h3 : q.Structs.length > 0
 ·rw [if_pos (zbB (by omega))]
  rfl
 rw [if_neg (by rw [zgC (p := ((q.Structs.length : Nat) : Int) > 0) (by omega)]; decide)]
 have hp' := zhJ (p := p) (by omega)
 have hq' := zhJ (p := q) (by omega)
 have hpf := hp'.fu
 have hqf := hq'.fu
 have hps := hp'.sz
 let ok : Nat → Nat → Prop := fun i k => ∀ (hi : i < q.Funcs.length) (hk : k < p.Funcs.length), zG q.Funcs[i].Name p.Funcs[k].Name = false ∧ clL q.Funcs[i].Name p.Funcs[k].Body = false
 have inner : ∀ (rec29 : Int → Option Bool) (i : Nat), i < q.Funcs.length → ((∀ k, ok i k) → rec29 ((i + 1 : Nat) : Int) = some true) → ∀ n k, k ≤ p.Funcs.length → p.Funcs.length - k < n → (∀ k', k' < k → ok i k') → zeD rec29 p q (i : Int) n (k : Int) = some true := by
  intro rec29 i hi hrec n
  induction n with
  | zero => intro k _ h; omega
  | succ n ih =>
   intro k hk hn hok
   show zf4 (zeD rec29 p q (i : Int) n) rec29 p q (i : Int) (k : Int) = _
   unfold zf4
   by_cases h : k < p.Funcs.length
   ·have hm := zh4 (List.getElem_mem h)
    rw [if_pos (zbB (by omega)), zbx h, zbx hi]
    simp only [Option.bind_some]
    rw [zow (by omega)]
    simp only [Option.bind_some]
    by_cases h5 : zG q.Funcs[i].Name p.Funcs[k].Name = true
    ·rw [if_pos h5]
     rfl
    ·rw [if_neg h5, Option.bind_some]
     by_cases h6 : clL q.Funcs[i].Name p.Funcs[k].Body = true
     ·rw [if_pos h6]
      rfl
     ·rw [if_neg h6, zbW (by omega)]
      refine ih (k + 1) (by omega) (by omega) fun k' hk' => ?_
      by_cases h7 : k' < k
      ·exact hok k' h7
      ·have : k' = k := by omega
       subst this
       exact fun _ _ => ⟨by simpa using h5, by simpa using h6⟩
   ·rw [if_neg (by simp; omega), zbW (by omega)]
    refine hrec fun k' => ?_
    by_cases h7 : k' < k
    ·exact hok k' h7
    ·exact fun _ hk' => absurd hk' (by omega)
 have outer : ∀ n i, i ≤ q.Funcs.length → q.Funcs.length - i < n → (∀ i', i' < i → ∀ k, ok i' k) → zdp p q n (i : Int) = some true := by
  intro n
  induction n with
  | zero => intro i _ h; omega
  | succ n ih =>
   intro i hi hn hok
   show zfK (zdp p q n) p q (i : Int) = _
   unfold zfK
   by_cases h : i < q.Funcs.length
   ·rw [if_pos (zbB (by omega))]
    refine inner (zdp p q n) i h (fun hk => ih (i + 1) (by omega) (by omega) fun i' hi' => ?_) big 0 (by omega) (zbF (by omega)) (fun k' h => by omega)
    by_cases h7 : i' < i
    ·exact hok i' h7
    ·have : i' = i := by omega
     subst this
     exact hk
   ·rw [if_neg (by simp; omega), zcq (by simp; omega), Option.bind_some, zcq (by simp; omega), Option.bind_some, List.nil_append]
    have hall : ∀ d ∈ p.Funcs, (∀ f ∈ q.Funcs, zG f.Name d.Name = false) ∧ ∀ f ∈ q.Funcs, clL f.Name d.Body = false := fun d hd => by
     obtain ⟨k, hk, rfl⟩ := List.getElem_of_mem hd
     refine ⟨fun f hf => ?_, fun f hf => ?_⟩
     ·obtain ⟨j, hj, rfl⟩ := List.getElem_of_mem hf
      exact (hok j (by omega) k hj hk).1
     ·obtain ⟨j, hj, rfl⟩ := List.getElem_of_mem hf
      exact (hok j (by omega) k hj hk).2
    refine zpT (by omega) (by omega) fun d hd => ⟨zkA fun f hf => ?_, zgB (A := fun ca => okC p (zbL p q) ca) (Q := q.Funcs) (fun ca h => zkA h) d.Body (hall d hd).2⟩
    have := (hall d hd).1 f hf
    rw [zh0] at this ⊢
    rw [decide_eq_false_iff_not] at this ⊢
    exact fun e => this e.symm
 exact outer big 0 (by omega) (zbF (by omega)) fun i' h => by omega
end Go.Proofs.Ytakcaekikfcbpaa
