import Derived.Test.YtakcaekikfcbpaaP_13j
import Derived.KernelRfl
namespace Go.Proofs.Ytakcaekikfcbpaa
open Go.Ab Go.RowKit
set_option linter.unusedVariables false
set_option linter.unusedSimpArgs false
mutual
def gE : zc → Nat
 | ⟨_, _, nm, _, _, ks⟩ => 1 + nm.size + gEs ks
def gEs : List zc → Nat
 | [] => 0
 | x :: l => gE x + gEs l
end
mutual
def gS : Stm → Nat
 | ⟨_, _, nm, _, _, _, ks, b, e⟩ => 1 + nm.size + gEs ks + gSs b + gSs e
def gSs : List Stm → Nat
 | [] => 0
 | x :: l => gS x + gSs l
end
def gPs : List zbM → Nat
 | [] => 0
 | x :: l => 1 + x.Name.size + gPs l
def gDs : List zG → Nat
 | [] => 0
 | d :: l => 1 + gPs d.Params + gSs d.Body + gDs l
def gP (p : zm) : Nat := p.Structs.length + szF p.Structs + gDs p.Funcs
mutual
theorem zmZ : ∀ x : zc, szE x ≤ gE x
 | ⟨_, _, nm, _, _, ks⟩ => by
  have := zgn ks
  show 1 + z3 ks ≤ 1 + nm.size + gEs ks
  omega
theorem zgn : ∀ x : List zc, z3 x ≤ gEs x
 | [] => Nat.le_refl _
 | x :: l => Nat.add_le_add (zmZ x) (zgn l)
end
mutual
theorem zqt : ∀ x : Stm, szS x ≤ gS x
 | ⟨_, _, nm, _, _, _, ks, b, e⟩ => by
  have := zgn ks
  have := zeA b
  have := zeA e
  show 1 + z3 ks + zu b + zu e ≤ 1 + nm.size + gEs ks + gSs b + gSs e
  omega
theorem zeA : ∀ x : List Stm, zu x ≤ gSs x
 | [] => Nat.le_refl _
 | x :: l => Nat.add_le_add (zqt x) (zeA l)
end
theorem zl9 : ∀ l : List zbM, l.length ≤ gPs l
 | [] => Nat.le_refl _
 | x :: l => by
  have := zl9 l
  show l.length + 1 ≤ 1 + x.Name.size + gPs l
  omega
theorem zku : ∀ {l : List zbM} {x : zbM}, x ∈ l → x.Name.size ≤ gPs l
 | y :: l, x, h => by
  show _ ≤ 1 + y.Name.size + gPs l
  cases h with
  | head => omega
  | tail _ h => have := zku h; omega
theorem zlt : ∀ l : List zG, l.length + szG l ≤ gDs l
 | [] => Nat.le_refl _
 | d :: l => by
  have := zlt l
  have := zl9 d.Params
  have := zeA d.Body
  show (l.length + 1) + (d.Params.length + zu d.Body + szG l) ≤ 1 + gPs d.Params + gSs d.Body + gDs l
  omega
theorem znL (p : zm) : szP p ≤ gP p := by
 have := zlt p.Funcs
 unfold szP gP
 omega
theorem zk3 {l : List zc} {x : zc} (h : x ∈ l) : gE x ≤ gEs l := by
 induction l with
 | nil => cases h
 | cons e l ih =>
  show _ ≤ gE e + gEs l
  cases h with
  | head => omega
  | tail _ h => have := ih h; omega
theorem zld {l : List Stm} {x : Stm} (h : x ∈ l) : gS x ≤ gSs l := by
 induction l with
 | nil => cases h
 | cons e l ih =>
  show _ ≤ gS e + gSs l
  cases h with
  | head => omega
  | tail _ h => have := ih h; omega
theorem zkO {l : List zG} {x : zG} (h : x ∈ l) : gPs x.Params + gSs x.Body ≤ gDs l := by
 induction l with
 | nil => cases h
 | cons e l ih =>
  show _ ≤ 1 + gPs e.Params + gSs e.Body + gDs l
  cases h with
  | head => omega
  | tail _ h => have := ih h; omega
theorem zmk (x : zc) : gE x = 1 + x.Name.size + gEs x.Kids := by cases x; rfl
theorem zlL (x : Stm) : gS x = 1 + x.Name.size + gEs x.Kids + gSs x.Body + gSs x.Else := by cases x; rfl
mutual
theorem zqi {M : Nat} : ∀ s : Stm, gS s ≤ M → zf4 (fun nm _ => nm.size ≤ M) s
 | ⟨kd, ln, nm, fd, ca, ty, ks, b, e⟩, h => by
  have h : 1 + nm.size + gEs ks + gSs b + gSs e ≤ M := h
  exact ⟨by omega, zhU b (by omega), zhU e (by omega)⟩
theorem zhU {M : Nat} : ∀ l : List Stm, gSs l ≤ M → zcY (fun nm _ => nm.size ≤ M) l
 | [], _ => trivial
 | s :: l, h => by
  have h : gS s + gSs l ≤ M := h
  exact ⟨zqi s (by omega), zhU l (by omega)⟩
end
mutual
theorem zmS {A : BA → BA → Prop} (h : ∀ a b, A a b) : ∀ s : Stm, zf4 A s
 | ⟨kd, ln, nm, fd, ca, ty, ks, b, e⟩ => ⟨h _ _, zhR h b, zhR h e⟩
theorem zhR {A : BA → BA → Prop} (h : ∀ a b, A a b) : ∀ l : List Stm, zcY A l
 | [] => trivial
 | s :: l => ⟨zmS h s, zhR h l⟩
end
def sfx : BA := ⟨#[95, 113]⟩
def cq (s : BA) : BA := if zO s zqP = true then s else s ++ sfx
theorem zgU {s : BA} (h : s.size ≤ 1000000000) : zdM s = some (cq s) := by
 unfold zdM cq
 split
 ·rfl
 ·unfold zgW
  rw [if_neg]
  ·rfl
  ·show ¬ ((s.size + (2 : Nat) : Nat) : Int) > 9223372036854775807
   omega
theorem zqI {x y : BA} (h : x ++ sfx = y ++ sfx) : x = y := by
 have h1 : (x ++ sfx).data = (y ++ sfx).data := by rw [h]
 rw [ByteArray.data_append, ByteArray.data_append] at h1
 have h2 := Array.append_left_inj _ |>.1 h1
 cases x; cases y
 exact congrArg _ h2
theorem zjo {x : BA} : x ++ sfx ≠ zqP := fun h => by
 have h1 : (x ++ sfx).size = (zqP : BA).size := by rw [h]
 rw [ByteArray.size_append] at h1
 have h2 : sfx.size = 2 := rfl
 have h3 : (zqP : BA).size = 0 := rfl
 omega
theorem zoZ (x : BA) : zO (cq x) zqP = zO x zqP := by
 unfold cq
 split
 ·rfl
 ·rename_i h
  rw [zel] at h ⊢
  rw [zel, zgN zjo, zgN (fun e => h (zbx e))]
theorem zop (x y : BA) : zO (cq x) (cq y) = zO x y := by
 rw [zel, zel]
 congr 1
 rw [eq_iff_iff]
 constructor
 ·intro h
  unfold cq at h
  rw [zel, zel] at h
  by_cases hx : x = zqP
  ·by_cases hy : y = zqP
   ·rw [hx, hy]
   ·rw [if_pos (zbx hx), if_neg (by simp [hy])] at h
    rw [hx] at h
    exact absurd h.symm zjo
  ·by_cases hy : y = zqP
   ·rw [if_neg (by simp [hx]), if_pos (zbx hy)] at h
    rw [hy] at h
    exact absurd h zjo
   ·rw [if_neg (by simp [hx]), if_neg (by simp [hy])] at h
    exact zqI h
 ·intro h
  rw [h]
theorem zpR {R : List zc → Option (List zc)} {l : List zc} (hl : l.length ≤ 1000000000) (hR : ∀ x ∈ l, R x.Kids = some (zcc cq x.Kids)) (hn : ∀ x ∈ l, x.Name.size ≤ 1000000000) : ∀ (n k : Nat) (out : List zc), k ≤ l.length → l.length - k < n → out.length = k → zd8 R l n out (k : Int) = some (out ++ zcc cq (l.drop k)) := by
 intro n
 induction n with
 | zero => intro k _ _ h; omega
 | succ n ih =>
  intro k out hk hn' ho
  show zgr (zd8 R l n) R l out (k : Int) = _
  unfold zgr
  by_cases h : k < l.length
  ·rw [if_pos (zbx (by omega)), zbs h, Option.bind_some, zgU (hn _ (List.getElem_mem h)), Option.bind_some, hR _ (List.getElem_mem h), Option.bind_some, zch (by omega), Option.bind_some, zbU (by omega), ih (k + 1) _ (by omega) (by omega) (by simp [ho]), List.drop_eq_getElem_cons h, List.append_assoc]
   congr 2
   show _ = tnE cq l[k] :: zcc cq (l.drop (k + 1))
   cases l[k]
   rfl
  ·rw [if_neg (by simp; omega), List.drop_of_length_le (by omega)]
   show _ = some (out ++ [])
   rw [List.append_nil]
theorem zkZ : ∀ (n : Nat) (l : List zc), z3 l < n → gEs l ≤ 1000000000 → zds n l = some (zcc cq l)
 | 0, l, h, _ => by omega
 | n + 1, l, h, hl => by
  have h1 := zgR l
  have h2 := zgn l
  show zd8 (zds n) l big [] 0 = _
  have := zpR (R := zds n) (l := l) (by omega) (fun x hx => zkZ n x.Kids (by have := zjS hx; omega) (by have := zk3 hx; have := zmk x; omega)) (fun x hx => by have := zk3 hx; have := zmk x; omega) big 0 [] (by omega) (zbA (by omega)) rfl
  rw [List.drop_zero, List.nil_append] at this
  exact this
theorem zox {l : List zc} (h : gEs l ≤ 1000000000) : zjy l = some (zcc cq l) := zkZ big l (zbA (by have := zgn l; omega)) h
theorem zm3 {R : List Stm → Option (List Stm)} {l : List Stm} (hl : gSs l ≤ 1000000000) (hR : ∀ x ∈ l, R x.Body = some (zbJ cq x.Body) ∧ R x.Else = some (zbJ cq x.Else)) : ∀ (n k : Nat) (out : List Stm), k ≤ l.length → l.length - k < n → out.length = k → zeD R l n out (k : Int) = some (out ++ zbJ cq (l.drop k)) := by
 have h1 := zeH l
 have h2 := zeA l
 intro n
 induction n with
 | zero => intro k _ _ h; omega
 | succ n ih =>
  intro k out hk hn' ho
  show zgc (zeD R l n) R l out (k : Int) = _
  unfold zgc
  by_cases h : k < l.length
  ·have h3 := zld (List.getElem_mem h)
   have h4 := zlL l[k]
   obtain ⟨r1, r2⟩ := hR _ (List.getElem_mem h)
   rw [if_pos (zbx (by omega)), zbs h, Option.bind_some, zgU (by omega), Option.bind_some, zox (by omega), Option.bind_some, r1, Option.bind_some, r2, Option.bind_some, zch (by omega), Option.bind_some, zbU (by omega), ih (k + 1) _ (by omega) (by omega) (by simp [ho]), List.drop_eq_getElem_cons h, List.append_assoc]
   congr 2
   show _ = tnS cq l[k] :: zbJ cq (l.drop (k + 1))
   cases l[k]
   rfl
  ·rw [if_neg (by simp; omega), List.drop_of_length_le (by omega)]
   show _ = some (out ++ [])
   rw [List.append_nil]
theorem ziv : ∀ (n : Nat) (l : List Stm), zu l < n → gSs l ≤ 1000000000 → zdv n l = some (zbJ cq l)
 | 0, l, h, _ => by omega
 | n + 1, l, h, hl => by
  have h1 := zeH l
  have h2 := zeA l
  show zeD (zdv n) l big [] 0 = _
  have := zm3 (R := zdv n) (l := l) hl (fun x hx => by
   have h3 := zeG hx
   have h4 := zld hx
   have h5 := zlL x
   exact ⟨ziv n x.Body (by omega) (by omega), ziv n x.Else (by omega) (by omega)⟩) big 0 [] (by omega) (zbA (by omega)) rfl
  rw [List.drop_zero, List.nil_append] at this
  exact this
theorem zqC {l : List Stm} (h : gSs l ≤ 1000000000) : ziO l = some (zbJ cq l) := ziv big l (zbA (by have := zeA l; omega)) h
def zbN (p : zm) : zm := ⟨p.Structs, p.Funcs.map (tnD cq)⟩
theorem znh (p : zm) : Sim cq p (zbN p) := by
 refine ⟨zop, zoZ, rfl, fun i d hd => ?_⟩
 show (p.Funcs.map (tnD cq))[i]? = _
 rw [List.getElem?_map, hd]
 rfl
theorem zit (p : zm) (ca : BA) : okC p (zbN p) ca := by
 unfold okC zbN
 dsimp only
 rw [List.findIdx?_map]
 rfl
def zb4 (t : zw) : zw := ⟨t.Bodies.map (nuB cq), t.Main, t.Points⟩
theorem zp0 (p : zm) : kWh (ck0 (zbN p)) = mpB cq (zbN p) (kWh (ck0 p)) := by
 have H := znh p
 have hA : ∀ d ∈ p.Funcs, okC p (zbN p) d.Name ∧ zcY (fun _ ca => okC p (zbN p) ca) d.Body := fun d _ => ⟨zit p _, zhR (fun _ ca => zit p ca) _⟩
 have e0 : ck0 (zbN p) = phi cq (zbN p) (ck0 p) := rfl
 have e1 : kWS (ck0 (zbN p)) p.Structs.length 0 = kWS (ck0 p) p.Structs.length 0 := by rw [e0]; exact zmc H rfl _ _
 have e2 : kWB p.Structs.length p.Funcs.length 0 (ck0 (zbN p)) = mpB cq (zbN p) (kWB p.Structs.length p.Funcs.length 0 (ck0 p)) := by rw [e0]; exact zjY H hA _ _ _ _ rfl (by omega)
 have hl : (zbN p).Funcs.length = p.Funcs.length := List.length_map _
 have w2 : kWh (ck0 (zbN p)) = (match kWS (ck0 (zbN p)) p.Structs.length 0 with
   | .error x => .error x
   | .ok _ => match kWB p.Structs.length (zbN p).Funcs.length 0 (ck0 (zbN p)) with
    | .error x => .error x
    | .ok c' => kWT (p.Structs.length + (zbN p).Funcs.length) c') := rfl
 have w1 : kWh (ck0 p) = (match kWS (ck0 p) p.Structs.length 0 with
   | .error x => .error x
   | .ok _ => match kWB p.Structs.length p.Funcs.length 0 (ck0 p) with
    | .error x => .error x
    | .ok c' => kWT (p.Structs.length + p.Funcs.length) c') := rfl
 rw [e1, hl, e2] at w2
 rw [w1, w2]
 cases kWS (ck0 p) p.Structs.length 0 with
 | error x => rfl
 | ok u =>
  cases h : kWB p.Structs.length p.Funcs.length 0 (ck0 p) with
  | error x => rfl
  | ok c =>
   show kWT _ (phi cq (zbN p) c) = mpB cq (zbN p) (kWT _ c)
   have hcp : c.prog = p := by
    have : ∀ (m i : Nat) (c c' : Ck), c.prog = p → kWB p.Structs.length m i c = .ok c' → c'.prog = p := by
     intro m
     induction m with
     | zero => intro i c c' hc e; injection e with e; rw [← e]; exact hc
     | succ m ih =>
      intro i c c' hc e
      unfold kWB at e
      split at e
      ·injection e with e; rw [← e]; exact hc
      split at e
      ·cases e
      ·rename_i e2
       exact ih _ _ _ ((zhu e2).1.trans hc) e
    exact this _ _ _ _ rfl h
   unfold kWT
   rw [show zb7 (phi cq (zbN p) c) zej = zb7 c zej from by unfold zb7; rw [hcp]; exact zit p zej]
   cases e : zb7 c zej with
   | none => rfl
   | some m =>
    have hm := ze4 e
    dsimp only
    rw [show (phi cq (zbN p) c).prog.Funcs[m]? = some (tnD cq c.prog.Funcs[m]) from H.fu m _ (by rw [← hcp]; exact List.getElem?_eq_getElem hm), List.getElem?_eq_getElem hm]
    dsimp only
    rw [show ((tnD cq c.prog.Funcs[m]).Params.length : Int) = (c.prog.Funcs[m].Params.length : Int) from by unfold tnD; rw [List.length_map], show (tnD cq c.prog.Funcs[m]).Result = c.prog.Funcs[m].Result from rfl]
    split <;> rfl
theorem znS (p : zm) : kP (zbN p) = (zb4 (kP p).1, (kP p).2) := by
 unfold kP
 rw [zp0]
 cases kWh (ck0 p) with
 | error x => rfl
 | ok c =>
  show zeo (zbN p) (zb4 c.tree) = (zb4 (zeo p c.tree).1, (zeo p c.tree).2)
  unfold zeo
  have e1 : (zb4 c.tree).Bodies.any (fun b => decide ((b.Vars.length : Int) > 64)) = c.tree.Bodies.any (fun b => decide ((b.Vars.length : Int) > 64)) := by
   unfold zb4
   dsimp only
   rw [List.any_map]
   congr 1
   funext b
   show decide (((b.Vars.map (nuV cq)).length : Int) > 64) = _
   rw [List.length_map]
  rw [e1, show (zbN p).Funcs.length = p.Funcs.length from List.length_map _, show (zb4 c.tree).Points.length = c.tree.Points.length from rfl]
  by_cases h : ((c.tree.Bodies.any (fun b => decide ((b.Vars.length : Int) > 64)) || decide ((p.Funcs.length : Int) > 64)) || decide ((c.tree.Points.length : Int) > 1000)) = true
  ·rw [if_pos h, if_pos h]
   rfl
  ·rw [if_neg h, if_neg h]
mutual
theorem zot : ∀ x : zc, szE (tnE cq x) = szE x
 | ⟨_, _, _, _, _, ks⟩ => by
  show 1 + z3 (zcc cq ks) = 1 + z3 ks
  rw [zjJ ks]
theorem zjJ : ∀ l : List zc, z3 (zcc cq l) = z3 l
 | [] => rfl
 | x :: l => by
  show szE (tnE cq x) + z3 (zcc cq l) = szE x + z3 l
  rw [zot x, zjJ l]
end
mutual
theorem znr : ∀ x : Stm, szS (tnS cq x) = szS x
 | ⟨_, _, _, _, _, _, ks, b, e⟩ => by
  show 1 + z3 (zcc cq ks) + zu (zbJ cq b) + zu (zbJ cq e) = 1 + z3 ks + zu b + zu e
  rw [zjJ, zhe b, zhe e]
theorem zhe : ∀ l : List Stm, zu (zbJ cq l) = zu l
 | [] => rfl
 | x :: l => by
  show szS (tnS cq x) + zu (zbJ cq l) = szS x + zu l
  rw [znr x, zhe l]
end
theorem zqF {p : zm} (hp : szP p ≤ 3000) {M : Nat} (hM : M ≤ 1000000000) (hN : ∀ d ∈ p.Funcs, NmD M d) (rec54 : List zG → Int → Option Bool) {i : Nat} (hi : p.Funcs.length ≤ i) : zef rec54 p (p.Funcs.map (tnD cq)) (i : Int) = some true := by
 have hB := zmd (p := p) (by omega)
 have hB2 : Bp (zbN p) := ⟨hB.st, hB.sf, by show (p.Funcs.map (tnD cq)).length ≤ _; rw [List.length_map]; exact hB.fu, fun d hd => by
  obtain ⟨d', h1, rfl⟩ := List.mem_map.1 hd
  show (d'.Params.map (tnP cq)).length ≤ _
  rw [List.length_map]
  exact hB.fp d' h1, by
  have : ∀ l : List zG, szD (l.map (tnD cq)) = szD l := by
   intro l
   induction l with
   | nil => rfl
   | cons d l ih =>
    show zu (zbJ cq d.Body) + szD (l.map (tnD cq)) = _
    rw [ih, zhe]
    rfl
  show szD (p.Funcs.map (tnD cq)) ≤ _
  rw [this]
  exact hB.sz⟩
 have hfu := hB.fu
 unfold zef
 rw [if_neg (by simp; omega), zj6 hB, Option.bind_some]
 show (zcG (zbN p)).bind _ = _
 rw [zj6 hB2, Option.bind_some, znS]
 have good : (kP p).1.Points.length ≤ 1000 ∧ (∀ x ∈ (kP p).1.Points, x.Scope.length ≤ 1000000000) ∧ (kP p).1.Bodies.length ≤ 1000000000 ∧ ∀ b ∈ (kP p).1.Bodies, zeV M b := by
  cases e : kWh (ck0 p) with
  | error x =>
   rw [zov e]
   exact ⟨Nat.zero_le _, fun x hx => (by cases hx), Nat.zero_le _, fun x hx => (by cases hx)⟩
  | ok c =>
   have hw := zkE (c := ck0 p) hB rfl rfl
   rw [e] at hw
   have hlen : c.tree.Bodies.length = p.Funcs.length := hw.2
   have hg : (∀ x ∈ c.tree.Points, x.Scope.length ≤ 1000000000) ∧ ∀ b ∈ c.tree.Bodies, zeV M b := by
    have e' := e
    unfold kWh at e'
    cases h1 : kWS (ck0 p) (ck0 p).prog.Structs.length 0 with
    | error x => rw [h1] at e'; cases e'
    | ok u =>
     rw [h1] at e'
     dsimp only at e'
     cases h2 : kWB (ck0 p).prog.Structs.length (ck0 p).prog.Funcs.length 0 (ck0 p) with
     | error x => rw [h2] at e'; cases e'
     | ok c1 =>
      rw [h2] at e'
      dsimp only at e'
      obtain ⟨b1, b2⟩ := zpz e'
      obtain ⟨_, g2, g3, _⟩ := zlm hB hN _ _ _ _ _ rfl (fun x hx => by cases hx) (fun x hx => by cases hx) h2
      rw [b1, b2]
      exact ⟨g2, g3⟩
   unfold kP
   rw [e]
   dsimp only
   unfold zeo
   split
   ·exact ⟨Nat.zero_le _, fun x hx => (by cases hx), Nat.zero_le _, fun x hx => (by cases hx)⟩
   ·rename_i h
    refine ⟨?_, hg.1, by show c.tree.Bodies.length ≤ _; omega, hg.2⟩
    simp only [Bool.or_eq_true, decide_eq_true_eq, not_or] at h
    show c.tree.Points.length ≤ 1000
    omega
 obtain ⟨g1, g2, g3, g4⟩ := good
 generalize kP p = K at g1 g2 g3 g4
 obtain ⟨t, n, e⟩ := K
 dsimp only at g1 g2 g3 g4 ⊢
 have hbl : (zb4 t).Bodies.length = t.Bodies.length := List.length_map _
 rw [hbl, zg6 (a := n) rfl, zg6 (a := e) rfl, zg6 (a := (t.Bodies.length : Int)) rfl]
 show ((if ((false || false) || false) = true then some true else (ze3 t.Points t.Points).bind fun c2516 => some (!c2516)).bind _) = _
 rw [if_neg (by decide), zqN (by omega) g2]
 show zcM (t, n, e) (zb4 t, n, e) big 0 = some true
 refine reL (L := zcM (t, n, e) (zb4 t, n, e)) (len := t.Bodies.length) (fun m => ?_) (fun m k hk => ?_) big 0 (by omega) (zbA (by omega))
 ·show zex _ (t, n, e) (zb4 t, n, e) _ = _
  unfold zex
  rw [if_neg (by simp)]
  rfl
 ·show zex (zcM (t, n, e) (zb4 t, n, e) m) (t, n, e) (zb4 t, n, e) _ = _
  unfold zex
  obtain ⟨b1, b2, b3, b4⟩ := g4 _ (List.getElem_mem hk)
  have e1 : zs (zb4 t).Bodies (k : Int) = some (nuB cq t.Bodies[k]) := by
   rw [zi4]
   unfold zb4
   rw [List.getElem?_map, List.getElem?_eq_getElem hk]
   rfl
  rw [if_pos (zbx (by show (k : Int) < t.Bodies.length; omega))]
  dsimp only
  rw [zbs hk, e1]
  simp only [Option.bind_some]
  rw [show (nuB cq t.Bodies[k]).Acts = t.Bodies[k].Acts from rfl, zqr b1, show (nuB cq t.Bodies[k]).Vars = t.Bodies[k].Vars.map (nuV cq) from rfl, List.length_map]
  simp only [Option.bind_some, Bool.not_true, Bool.false_eq_true, if_false, zf6]
  have inner : ∀ n2 j, j ≤ t.Bodies[k].Vars.length → t.Bodies[k].Vars.length - j < n2 → zfx (zcM (t, n, e) (zb4 t, n, e) m) (t, n, e) (zb4 t, n, e) (k : Int) n2 (j : Int) = zcM (t, n, e) (zb4 t, n, e) m ((k + 1 : Nat) : Int) := by
   intro n2
   induction n2 with
   | zero => intro j _ h; omega
   | succ n2 ih =>
    intro j hj hn2
    show zgh (zfx (zcM (t, n, e) (zb4 t, n, e) m) (t, n, e) (zb4 t, n, e) (k : Int) n2) (zcM (t, n, e) (zb4 t, n, e) m) (t, n, e) (zb4 t, n, e) (k : Int) (j : Int) = _
    unfold zgh
    dsimp only
    rw [zbs hk, e1]
    simp only [Option.bind_some]
    by_cases h : j < t.Bodies[k].Vars.length
    ·have e2 : zs (nuB cq t.Bodies[k]).Vars (j : Int) = some (nuV cq t.Bodies[k].Vars[j]) := by
      rw [zi4]
      show (t.Bodies[k].Vars.map (nuV cq))[j]? = _
      rw [List.getElem?_map, List.getElem?_eq_getElem h]
      rfl
     rw [if_pos (zbx (by omega)), zbs h, e2]
     simp only [Option.bind_some]
     rw [zgU (by have := b4 _ (List.getElem_mem h); omega), Option.bind_some, show (nuV cq t.Bodies[k].Vars[j]).Name = cq t.Bodies[k].Vars[j].Name from rfl, znq]
     simp only [Bool.not_true, Bool.false_eq_true, if_false]
     rw [zbU (by omega), ih (j + 1) (by omega) (by omega)]
    ·rw [if_neg (by simp; omega), zbU (by omega)]
  exact inner big 0 (by omega) (zbA (by omega))
theorem zoN {p : zm} {i : Nat} (hi : i < p.Funcs.length) (hN : ∀ x ∈ p.Funcs[i].Params, x.Name.size ≤ 1000000000) (hl : p.Funcs[i].Params.length ≤ 1000000000) (hf : p.Funcs.length ≤ 1000000000) (rec54 : List zG → Int → Option Bool) (out : List zG) (ho : out.length = i) (body : List Stm) :
  ∀ (n k : Nat) (ps : List zbM), k ≤ p.Funcs[i].Params.length → p.Funcs[i].Params.length - k < n → ps = (p.Funcs[i].Params.take k).map (tnP cq) → zfm rec54 p (i : Int) p.Funcs[i] n out ps body (k : Int) = rec54 (out ++ [⟨p.Funcs[i].Name, p.Funcs[i].Line, p.Funcs[i].Params.map (tnP cq), p.Funcs[i].Result, body⟩]) ((i + 1 : Nat) : Int) := by
 intro n
 induction n with
 | zero => intro k _ _ h; omega
 | succ n ih =>
  intro k ps hk hn hps
  show zfE (zfm rec54 p (i : Int) p.Funcs[i] n) rec54 p (i : Int) p.Funcs[i] out ps body (k : Int) = _
  unfold zfE
  have hpl : ps.length = k := by rw [hps, List.length_map, List.length_take]; omega
  rw [zbs hi]
  simp only [Option.bind_some]
  by_cases h : k < p.Funcs[i].Params.length
  ·rw [if_pos (zbx (by omega)), zbs h]
   simp only [Option.bind_some]
   rw [zgU (hN _ (List.getElem_mem h)), Option.bind_some, zch (by show ps.length + 1 ≤ _; omega), Option.bind_some, zbU (by omega)]
   refine ih (k + 1) _ (by omega) (by omega) ?_
   rw [List.take_succ_eq_append_getElem h, List.map_append, hps]
   rfl
  ·rw [if_neg (by simp; omega), zch (by omega), Option.bind_some, zbU (by omega), hps, List.take_of_length_le (by omega)]
theorem zn7 {p : zm} (hw : gP p ≤ 1000000000) : zhy p = some true := by
 have hsz := znL p
 unfold zhy
 rw [znZ (by omega), Option.bind_some]
 by_cases h1 : szP p > 3000
 ·rw [if_pos (zbx (by omega))]
  rfl
 rw [if_neg (by simp; omega)]
 have hB := zmd (p := p) (by omega)
 have hf := hB.fu
 have hN : ∀ d ∈ p.Funcs, NmD 1000000000 d := fun d hd => by
  have h2 := zkO hd
  unfold gP at hw
  exact ⟨fun x hx => by have := zku hx; omega, zhU _ (by omega)⟩
 have outer : ∀ n i, i ≤ p.Funcs.length → p.Funcs.length - i < n → zdp p n ((p.Funcs.take i).map (tnD cq)) (i : Int) = some true := by
  intro n
  induction n with
  | zero => intro i _ h; omega
  | succ n ih =>
   intro i hi hn
   show zef (zdp p n) p ((p.Funcs.take i).map (tnD cq)) (i : Int) = _
   by_cases h : i < p.Funcs.length
   ·have hm := List.getElem_mem h
    have h2 := zkO hm
    have h3 := hB.fp _ hm
    have hw' := hw
    unfold gP at hw'
    unfold zef
    rw [if_pos (zbx (by omega)), zbs h, Option.bind_some, zqC (by omega), Option.bind_some]
    refine (zoN h (hN _ hm).1 (by omega) (by omega) (zdp p n) _ (by rw [List.length_map, List.length_take]; omega) (zbJ cq p.Funcs[i].Body) big 0 [] (by omega) (zbA (by omega)) rfl).trans ?_
    have := ih (i + 1) (by omega) (by omega)
    rw [List.take_succ_eq_append_getElem h, List.map_append] at this
    exact this
   ·have hi2 : i = p.Funcs.length := by omega
    subst hi2
    rw [List.take_length]
    exact zqF (by omega) (Nat.le_refl _) hN _ (Nat.le_refl _)
 exact outer big 0 (by omega) (zbA (by omega))
end Go.Proofs.Ytakcaekikfcbpaa
