import Derived.Test.YtakcaekikfcbpaaP_13j
import Derived.KernelRfl
namespace Go.Proofs.Ytakcaekikfcbpaa
open Go.Ab Go.RowKit
set_option linter.unusedVariables false
set_option linter.unusedSimpArgs false
mutual
def gE : zc → Nat
 | ⟨_, _, nm, _, _, ks⟩ => 1 + nm.size + gEs ks
def gEs : List zc → Nat
 | [] => 0
 | x :: l => gE x + gEs l
end
mutual
def gS : Stm → Nat
 | ⟨_, _, nm, _, _, _, ks, b, e⟩ => 1 + nm.size + gEs ks + gSs b + gSs e
def gSs : List Stm → Nat
 | [] => 0
 | x :: l => gS x + gSs l
end
def gPs : List zbM → Nat
 | [] => 0
 | x :: l => 1 + x.Name.size + gPs l
def gDs : List zG → Nat
 | [] => 0
 | d :: l => 1 + gPs d.Params + gSs d.Body + gDs l
def gP (p : zm) : Nat := p.Structs.length + szF p.Structs + gDs p.Funcs
mutual
theorem zpz : ∀ x : zc, szE x ≤ gE x
 | ⟨_, _, nm, _, _, ks⟩ => by
  have := zfZ ks
  show 1 + zZ ks ≤ 1 + nm.size + gEs ks
  omega
theorem zfZ : ∀ x : List zc, zZ x ≤ gEs x
 | [] => Nat.le_refl _
 | x :: l => Nat.add_le_add (zpz x) (zfZ l)
end
mutual
theorem znt : ∀ x : Stm, szS x ≤ gS x
 | ⟨_, _, nm, _, _, _, ks, b, e⟩ => by
  have := zfZ ks
  have := zd8 b
  have := zd8 e
  show 1 + zZ ks + zu b + zu e ≤ 1 + nm.size + gEs ks + gSs b + gSs e
  omega
theorem zd8 : ∀ x : List Stm, zu x ≤ gSs x
 | [] => Nat.le_refl _
 | x :: l => Nat.add_le_add (znt x) (zd8 l)
end
theorem zkW : ∀ l : List zbM, l.length ≤ gPs l
 | [] => Nat.le_refl _
 | x :: l => by
  have := zkW l
  show l.length + 1 ≤ 1 + x.Name.size + gPs l
  omega
theorem zlk : ∀ {l : List zbM} {x : zbM}, x ∈ l → x.Name.size ≤ gPs l
 | y :: l, x, h => by
  show _ ≤ 1 + y.Name.size + gPs l
  cases h with
  | head => omega
  | tail _ h => have := zlk h; omega
theorem zj9 : ∀ l : List zG, l.length + szG l ≤ gDs l
 | [] => Nat.le_refl _
 | d :: l => by
  have := zj9 l
  have := zkW d.Params
  have := zd8 d.Body
  show (l.length + 1) + (d.Params.length + zu d.Body + szG l) ≤ 1 + gPs d.Params + gSs d.Body + gDs l
  omega
theorem zqr (p : zm) : szP p ≤ gP p := by
 have := zj9 p.Funcs
 unfold szP gP
 omega
theorem zkp {l : List zc} {x : zc} (h : x ∈ l) : gE x ≤ gEs l := by
 induction l with
 | nil => cases h
 | cons e l ih =>
  show _ ≤ gE e + gEs l
  cases h with
  | head => omega
  | tail _ h => have := ih h; omega
theorem zmf {l : List Stm} {x : Stm} (h : x ∈ l) : gS x ≤ gSs l := by
 induction l with
 | nil => cases h
 | cons e l ih =>
  show _ ≤ gS e + gSs l
  cases h with
  | head => omega
  | tail _ h => have := ih h; omega
theorem zj6 {l : List zG} {x : zG} (h : x ∈ l) : gPs x.Params + gSs x.Body ≤ gDs l := by
 induction l with
 | nil => cases h
 | cons e l ih =>
  show _ ≤ 1 + gPs e.Params + gSs e.Body + gDs l
  cases h with
  | head => omega
  | tail _ h => have := ih h; omega
theorem zki (x : zc) : gE x = 1 + x.Name.size + gEs x.Kids := by cases x; rfl
theorem zk5 (x : Stm) : gS x = 1 + x.Name.size + gEs x.Kids + gSs x.Body + gSs x.Else := by cases x; rfl
mutual
theorem zpv {M : Nat} : ∀ s : Stm, gS s ≤ M → zgg (fun nm _ => nm.size ≤ M) s
 | ⟨kd, ln, nm, fd, ca, ty, ks, b, e⟩, h => by
  have h : 1 + nm.size + gEs ks + gSs b + gSs e ≤ M := h
  exact ⟨by omega, zhi b (by omega), zhi e (by omega)⟩
theorem zhi {M : Nat} : ∀ l : List Stm, gSs l ≤ M → zcZ (fun nm _ => nm.size ≤ M) l
 | [], _ => trivial
 | s :: l, h => by
  have h : gS s + gSs l ≤ M := h
  exact ⟨zpv s (by omega), zhi l (by omega)⟩
end
mutual
theorem znZ {A : BA → BA → Prop} (h : ∀ a b, A a b) : ∀ s : Stm, zgg A s
 | ⟨kd, ln, nm, fd, ca, ty, ks, b, e⟩ => ⟨h _ _, zgH h b, zgH h e⟩
theorem zgH {A : BA → BA → Prop} (h : ∀ a b, A a b) : ∀ l : List Stm, zcZ A l
 | [] => trivial
 | s :: l => ⟨znZ h s, zgH h l⟩
end
def sfx : BA := ⟨#[95, 113]⟩
def cq (s : BA) : BA := if zP s zqP = true then s else s ++ sfx
theorem zhq {s : BA} (h : s.size ≤ 1000000000) : zdU s = some (cq s) := by
 unfold zdU cq
 split
 ·rfl
 ·unfold zgY
  rw [if_neg]
  ·rfl
  ·show ¬ ((s.size + (2 : Nat) : Nat) : Int) > 9223372036854775807
   omega
theorem zow {x y : BA} (h : x ++ sfx = y ++ sfx) : x = y := by
 have h1 : (x ++ sfx).data = (y ++ sfx).data := by rw [h]
 rw [ByteArray.data_append, ByteArray.data_append] at h1
 have h2 := Array.append_left_inj _ |>.1 h1
 cases x; cases y
 exact congrArg _ h2
theorem zjC {x : BA} : x ++ sfx ≠ zqP := fun h => by
 have h1 : (x ++ sfx).size = (zqP : BA).size := by rw [h]
 rw [ByteArray.size_append] at h1
 have h2 : sfx.size = 2 := rfl
 have h3 : (zqP : BA).size = 0 := rfl
 omega
theorem znj (x : BA) : zP (cq x) zqP = zP x zqP := by
 unfold cq
 split
 ·rfl
 ·rename_i h
  rw [zet] at h ⊢
  rw [zet, zhj zjC, zhj (fun e => h (zbw e))]
theorem zmB (x y : BA) : zP (cq x) (cq y) = zP x y := by
 rw [zet, zet]
 congr 1
 rw [eq_iff_iff]
 constructor
 ·intro h
  unfold cq at h
  rw [zet, zet] at h
  by_cases hx : x = zqP
  ·by_cases hy : y = zqP
   ·rw [hx, hy]
   ·rw [if_pos (zbw hx), if_neg (by simp [hy])] at h
    rw [hx] at h
    exact absurd h.symm zjC
  ·by_cases hy : y = zqP
   ·rw [if_neg (by simp [hx]), if_pos (zbw hy)] at h
    rw [hy] at h
    exact absurd h zjC
   ·rw [if_neg (by simp [hx]), if_neg (by simp [hy])] at h
    exact zow h
 ·intro h
  rw [h]
theorem zo3 {R : List zc → Option (List zc)} {l : List zc} (hl : l.length ≤ 1000000000) (hR : ∀ x ∈ l, R x.Kids = some (zb9 cq x.Kids)) (hn : ∀ x ∈ l, x.Name.size ≤ 1000000000) : ∀ (n k : Nat) (out : List zc), k ≤ l.length → l.length - k < n → out.length = k → zew R l n out (k : Int) = some (out ++ zb9 cq (l.drop k)) := by
 intro n
 induction n with
 | zero => intro k _ _ h; omega
 | succ n ih =>
  intro k out hk hn' ho
  show zfI (zew R l n) R l out (k : Int) = _
  unfold zfI
  by_cases h : k < l.length
  ·rw [if_pos (zbw (by omega)), zbr h, Option.bind_some, zhq (hn _ (List.getElem_mem h)), Option.bind_some, hR _ (List.getElem_mem h), Option.bind_some, zco (by omega), Option.bind_some, zbU (by omega), ih (k + 1) _ (by omega) (by omega) (by simp [ho]), List.drop_eq_getElem_cons h, List.append_assoc]
   congr 2
   show _ = tnE cq l[k] :: zb9 cq (l.drop (k + 1))
   cases l[k]
   rfl
  ·rw [if_neg (by simp; omega), List.drop_of_length_le (by omega)]
   show _ = some (out ++ [])
   rw [List.append_nil]
theorem zl4 : ∀ (n : Nat) (l : List zc), zZ l < n → gEs l ≤ 1000000000 → zdl n l = some (zb9 cq l)
 | 0, l, h, _ => by omega
 | n + 1, l, h, hl => by
  have h1 := zgK l
  have h2 := zfZ l
  show zew (zdl n) l big [] 0 = _
  have := zo3 (R := zdl n) (l := l) (by omega) (fun x hx => zl4 n x.Kids (by have := zje hx; omega) (by have := zkp hx; have := zki x; omega)) (fun x hx => by have := zkp hx; have := zki x; omega) big 0 [] (by omega) (zbA (by omega)) rfl
  rw [List.drop_zero, List.nil_append] at this
  exact this
theorem zpw {l : List zc} (h : gEs l ≤ 1000000000) : zjT l = some (zb9 cq l) := zl4 big l (zbA (by have := zfZ l; omega)) h
theorem zoX {R : List Stm → Option (List Stm)} {l : List Stm} (hl : gSs l ≤ 1000000000) (hR : ∀ x ∈ l, R x.Body = some (zbI cq x.Body) ∧ R x.Else = some (zbI cq x.Else)) : ∀ (n k : Nat) (out : List Stm), k ≤ l.length → l.length - k < n → out.length = k → zeE R l n out (k : Int) = some (out ++ zbI cq (l.drop k)) := by
 have h1 := zff l
 have h2 := zd8 l
 intro n
 induction n with
 | zero => intro k _ _ h; omega
 | succ n ih =>
  intro k out hk hn' ho
  show zgt (zeE R l n) R l out (k : Int) = _
  unfold zgt
  by_cases h : k < l.length
  ·have h3 := zmf (List.getElem_mem h)
   have h4 := zk5 l[k]
   obtain ⟨r1, r2⟩ := hR _ (List.getElem_mem h)
   rw [if_pos (zbw (by omega)), zbr h, Option.bind_some, zhq (by omega), Option.bind_some, zpw (by omega), Option.bind_some, r1, Option.bind_some, r2, Option.bind_some, zco (by omega), Option.bind_some, zbU (by omega), ih (k + 1) _ (by omega) (by omega) (by simp [ho]), List.drop_eq_getElem_cons h, List.append_assoc]
   congr 2
   show _ = tnS cq l[k] :: zbI cq (l.drop (k + 1))
   cases l[k]
   rfl
  ·rw [if_neg (by simp; omega), List.drop_of_length_le (by omega)]
   show _ = some (out ++ [])
   rw [List.append_nil]
theorem zjS : ∀ (n : Nat) (l : List Stm), zu l < n → gSs l ≤ 1000000000 → zdh n l = some (zbI cq l)
 | 0, l, h, _ => by omega
 | n + 1, l, h, hl => by
  have h1 := zff l
  have h2 := zd8 l
  show zeE (zdh n) l big [] 0 = _
  have := zoX (R := zdh n) (l := l) hl (fun x hx => by
   have h3 := ze0 hx
   have h4 := zmf hx
   have h5 := zk5 x
   exact ⟨zjS n x.Body (by omega) (by omega), zjS n x.Else (by omega) (by omega)⟩) big 0 [] (by omega) (zbA (by omega)) rfl
  rw [List.drop_zero, List.nil_append] at this
  exact this
theorem zmM {l : List Stm} (h : gSs l ≤ 1000000000) : zhZ l = some (zbI cq l) := zjS big l (zbA (by have := zd8 l; omega)) h
def zbN (p : zm) : zm := ⟨p.Structs, p.Funcs.map (tnD cq)⟩
theorem zqF (p : zm) : Sim cq p (zbN p) := by
 refine ⟨zmB, znj, rfl, fun i d hd => ?_⟩
 show (p.Funcs.map (tnD cq))[i]? = _
 rw [List.getElem?_map, hd]
 rfl
theorem zij (p : zm) (ca : BA) : okC p (zbN p) ca := by
 unfold okC zbN
 dsimp only
 rw [List.findIdx?_map]
 rfl
def zb4 (t : zw) : zw := ⟨t.Bodies.map (nuB cq), t.Main, t.Points⟩
theorem zmr (p : zm) : kWh (ck0 (zbN p)) = mpB cq (zbN p) (kWh (ck0 p)) := by
 have H := zqF p
 have hA : ∀ d ∈ p.Funcs, okC p (zbN p) d.Name ∧ zcZ (fun _ ca => okC p (zbN p) ca) d.Body := fun d _ => ⟨zij p _, zgH (fun _ ca => zij p ca) _⟩
 have e0 : ck0 (zbN p) = phi cq (zbN p) (ck0 p) := rfl
 have e1 : kWS (ck0 (zbN p)) p.Structs.length 0 = kWS (ck0 p) p.Structs.length 0 := by rw [e0]; exact zlJ H rfl _ _
 have e2 : kWB p.Structs.length p.Funcs.length 0 (ck0 (zbN p)) = mpB cq (zbN p) (kWB p.Structs.length p.Funcs.length 0 (ck0 p)) := by rw [e0]; exact zle H hA _ _ _ _ rfl (by omega)
 have hl : (zbN p).Funcs.length = p.Funcs.length := List.length_map _
 have w2 : kWh (ck0 (zbN p)) = (match kWS (ck0 (zbN p)) p.Structs.length 0 with
   | .error x => .error x
   | .ok _ => match kWB p.Structs.length (zbN p).Funcs.length 0 (ck0 (zbN p)) with
    | .error x => .error x
    | .ok c' => kWT (p.Structs.length + (zbN p).Funcs.length) c') := rfl
 have w1 : kWh (ck0 p) = (match kWS (ck0 p) p.Structs.length 0 with
   | .error x => .error x
   | .ok _ => match kWB p.Structs.length p.Funcs.length 0 (ck0 p) with
    | .error x => .error x
    | .ok c' => kWT (p.Structs.length + p.Funcs.length) c') := rfl
 rw [e1, hl, e2] at w2
 rw [w1, w2]
 cases kWS (ck0 p) p.Structs.length 0 with
 | error x => rfl
 | ok u =>
  cases h : kWB p.Structs.length p.Funcs.length 0 (ck0 p) with
  | error x => rfl
  | ok c =>
   show kWT _ (phi cq (zbN p) c) = mpB cq (zbN p) (kWT _ c)
   have hcp : c.prog = p := by
    have : ∀ (m i : Nat) (c c' : Ck), c.prog = p → kWB p.Structs.length m i c = .ok c' → c'.prog = p := by
     intro m
     induction m with
     | zero => intro i c c' hc e; injection e with e; rw [← e]; exact hc
     | succ m ih =>
      intro i c c' hc e
      unfold kWB at e
      split at e
      ·injection e with e; rw [← e]; exact hc
      split at e
      ·cases e
      ·rename_i e2
       exact ih _ _ _ ((zhb e2).1.trans hc) e
    exact this _ _ _ _ rfl h
   unfold kWT
   rw [show zb5 (phi cq (zbN p) c) zex = zb5 c zex from by unfold zb5; rw [hcp]; exact zij p zex]
   cases e : zb5 c zex with
   | none => rfl
   | some m =>
    have hm := zfc e
    dsimp only
    rw [show (phi cq (zbN p) c).prog.Funcs[m]? = some (tnD cq c.prog.Funcs[m]) from H.fu m _ (by rw [← hcp]; exact List.getElem?_eq_getElem hm), List.getElem?_eq_getElem hm]
    dsimp only
    rw [show ((tnD cq c.prog.Funcs[m]).Params.length : Int) = (c.prog.Funcs[m].Params.length : Int) from by unfold tnD; rw [List.length_map], show (tnD cq c.prog.Funcs[m]).Result = c.prog.Funcs[m].Result from rfl]
    split <;> rfl
theorem zpb (p : zm) : kP (zbN p) = (zb4 (kP p).1, (kP p).2) := by
 unfold kP
 rw [zmr]
 cases kWh (ck0 p) with
 | error x => rfl
 | ok c =>
  show zeF (zbN p) (zb4 c.tree) = (zb4 (zeF p c.tree).1, (zeF p c.tree).2)
  unfold zeF
  have e1 : (zb4 c.tree).Bodies.any (fun b => decide ((b.Vars.length : Int) > 64)) = c.tree.Bodies.any (fun b => decide ((b.Vars.length : Int) > 64)) := by
   unfold zb4
   dsimp only
   rw [List.any_map]
   congr 1
   funext b
   show decide (((b.Vars.map (nuV cq)).length : Int) > 64) = _
   rw [List.length_map]
  rw [e1, show (zbN p).Funcs.length = p.Funcs.length from List.length_map _, show (zb4 c.tree).Points.length = c.tree.Points.length from rfl]
  by_cases h : ((c.tree.Bodies.any (fun b => decide ((b.Vars.length : Int) > 64)) || decide ((p.Funcs.length : Int) > 64)) || decide ((c.tree.Points.length : Int) > 1000)) = true
  ·rw [if_pos h, if_pos h]
   rfl
  ·rw [if_neg h, if_neg h]
mutual
theorem zo5 : ∀ x : zc, szE (tnE cq x) = szE x
 | ⟨_, _, _, _, _, ks⟩ => by
  show 1 + zZ (zb9 cq ks) = 1 + zZ ks
  rw [zjJ ks]
theorem zjJ : ∀ l : List zc, zZ (zb9 cq l) = zZ l
 | [] => rfl
 | x :: l => by
  show szE (tnE cq x) + zZ (zb9 cq l) = szE x + zZ l
  rw [zo5 x, zjJ l]
end
mutual
theorem zmy : ∀ x : Stm, szS (tnS cq x) = szS x
 | ⟨_, _, _, _, _, _, ks, b, e⟩ => by
  show 1 + zZ (zb9 cq ks) + zu (zbI cq b) + zu (zbI cq e) = 1 + zZ ks + zu b + zu e
  rw [zjJ, zhh b, zhh e]
theorem zhh : ∀ l : List Stm, zu (zbI cq l) = zu l
 | [] => rfl
 | x :: l => by
  show szS (tnS cq x) + zu (zbI cq l) = szS x + zu l
  rw [zmy x, zhh l]
end
theorem zoS {p : zm} (hp : szP p ≤ 3000) {M : Nat} (hM : M ≤ 1000000000) (hN : ∀ d ∈ p.Funcs, NmD M d) (rec54 : List zG → Int → Option Bool) {i : Nat} (hi : p.Funcs.length ≤ i) : zer rec54 p (p.Funcs.map (tnD cq)) (i : Int) = some true := by
 have hB := zln (p := p) (by omega)
 have hB2 : Bp (zbN p) := ⟨hB.st, hB.sf, by show (p.Funcs.map (tnD cq)).length ≤ _; rw [List.length_map]; exact hB.fu, fun d hd => by
  obtain ⟨d', h1, rfl⟩ := List.mem_map.1 hd
  show (d'.Params.map (tnP cq)).length ≤ _
  rw [List.length_map]
  exact hB.fp d' h1, by
  have : ∀ l : List zG, szD (l.map (tnD cq)) = szD l := by
   intro l
   induction l with
   | nil => rfl
   | cons d l ih =>
    show zu (zbI cq d.Body) + szD (l.map (tnD cq)) = _
    rw [ih, zhh]
    rfl
  show szD (p.Funcs.map (tnD cq)) ≤ _
  rw [this]
  exact hB.sz⟩
 have hfu := hB.fu
 unfold zer
 rw [if_neg (by simp; omega), zkt hB, Option.bind_some]
 show (zcI (zbN p)).bind _ = _
 rw [zkt hB2, Option.bind_some, zpb]
 have good : (kP p).1.Points.length ≤ 1000 ∧ (∀ x ∈ (kP p).1.Points, x.Scope.length ≤ 1000000000) ∧ (kP p).1.Bodies.length ≤ 1000000000 ∧ ∀ b ∈ (kP p).1.Bodies, zfi M b := by
  cases e : kWh (ck0 p) with
  | error x =>
   rw [zog e]
   exact ⟨Nat.zero_le _, fun x hx => (by cases hx), Nat.zero_le _, fun x hx => (by cases hx)⟩
  | ok c =>
   have hw := zlv (c := ck0 p) hB rfl rfl
   rw [e] at hw
   have hlen : c.tree.Bodies.length = p.Funcs.length := hw.2
   have hg : (∀ x ∈ c.tree.Points, x.Scope.length ≤ 1000000000) ∧ ∀ b ∈ c.tree.Bodies, zfi M b := by
    have e' := e
    unfold kWh at e'
    cases h1 : kWS (ck0 p) (ck0 p).prog.Structs.length 0 with
    | error x => rw [h1] at e'; cases e'
    | ok u =>
     rw [h1] at e'
     dsimp only at e'
     cases h2 : kWB (ck0 p).prog.Structs.length (ck0 p).prog.Funcs.length 0 (ck0 p) with
     | error x => rw [h2] at e'; cases e'
     | ok c1 =>
      rw [h2] at e'
      dsimp only at e'
      obtain ⟨b1, b2⟩ := zm5 e'
      obtain ⟨_, g2, g3, _⟩ := zlr hB hN _ _ _ _ _ rfl (fun x hx => by cases hx) (fun x hx => by cases hx) h2
      rw [b1, b2]
      exact ⟨g2, g3⟩
   unfold kP
   rw [e]
   dsimp only
   unfold zeF
   split
   ·exact ⟨Nat.zero_le _, fun x hx => (by cases hx), Nat.zero_le _, fun x hx => (by cases hx)⟩
   ·rename_i h
    refine ⟨?_, hg.1, by show c.tree.Bodies.length ≤ _; omega, hg.2⟩
    simp only [Bool.or_eq_true, decide_eq_true_eq, not_or] at h
    show c.tree.Points.length ≤ 1000
    omega
 obtain ⟨g1, g2, g3, g4⟩ := good
 generalize kP p = K at g1 g2 g3 g4
 obtain ⟨t, n, e⟩ := K
 dsimp only at g1 g2 g3 g4 ⊢
 have hbl : (zb4 t).Bodies.length = t.Bodies.length := List.length_map _
 rw [hbl, zhD (a := n) rfl, zhD (a := e) rfl, zhD (a := (t.Bodies.length : Int)) rfl]
 show ((if ((false || false) || false) = true then some true else (zfd t.Points t.Points).bind fun c2516 => some (!c2516)).bind _) = _
 rw [if_neg (by decide), zmE (by omega) g2]
 show zcN (t, n, e) (zb4 t, n, e) big 0 = some true
 refine reL (L := zcN (t, n, e) (zb4 t, n, e)) (len := t.Bodies.length) (fun m => ?_) (fun m k hk => ?_) big 0 (by omega) (zbA (by omega))
 ·show zem _ (t, n, e) (zb4 t, n, e) _ = _
  unfold zem
  rw [if_neg (by simp)]
  rfl
 ·show zem (zcN (t, n, e) (zb4 t, n, e) m) (t, n, e) (zb4 t, n, e) _ = _
  unfold zem
  obtain ⟨b1, b2, b3, b4⟩ := g4 _ (List.getElem_mem hk)
  have e1 : zs (zb4 t).Bodies (k : Int) = some (nuB cq t.Bodies[k]) := by
   rw [ziO]
   unfold zb4
   rw [List.getElem?_map, List.getElem?_eq_getElem hk]
   rfl
  rw [if_pos (zbw (by show (k : Int) < t.Bodies.length; omega))]
  dsimp only
  rw [zbr hk, e1]
  simp only [Option.bind_some]
  rw [show (nuB cq t.Bodies[k]).Acts = t.Bodies[k].Acts from rfl, zmw b1, show (nuB cq t.Bodies[k]).Vars = t.Bodies[k].Vars.map (nuV cq) from rfl, List.length_map]
  simp only [Option.bind_some, Bool.not_true, Bool.false_eq_true, if_false, zfT]
  have inner : ∀ n2 j, j ≤ t.Bodies[k].Vars.length → t.Bodies[k].Vars.length - j < n2 → zeP (zcN (t, n, e) (zb4 t, n, e) m) (t, n, e) (zb4 t, n, e) (k : Int) n2 (j : Int) = zcN (t, n, e) (zb4 t, n, e) m ((k + 1 : Nat) : Int) := by
   intro n2
   induction n2 with
   | zero => intro j _ h; omega
   | succ n2 ih =>
    intro j hj hn2
    show zfO (zeP (zcN (t, n, e) (zb4 t, n, e) m) (t, n, e) (zb4 t, n, e) (k : Int) n2) (zcN (t, n, e) (zb4 t, n, e) m) (t, n, e) (zb4 t, n, e) (k : Int) (j : Int) = _
    unfold zfO
    dsimp only
    rw [zbr hk, e1]
    simp only [Option.bind_some]
    by_cases h : j < t.Bodies[k].Vars.length
    ·have e2 : zs (nuB cq t.Bodies[k]).Vars (j : Int) = some (nuV cq t.Bodies[k].Vars[j]) := by
      rw [ziO]
      show (t.Bodies[k].Vars.map (nuV cq))[j]? = _
      rw [List.getElem?_map, List.getElem?_eq_getElem h]
      rfl
     rw [if_pos (zbw (by omega)), zbr h, e2]
     simp only [Option.bind_some]
     rw [zhq (by have := b4 _ (List.getElem_mem h); omega), Option.bind_some, show (nuV cq t.Bodies[k].Vars[j]).Name = cq t.Bodies[k].Vars[j].Name from rfl, zmX]
     simp only [Bool.not_true, Bool.false_eq_true, if_false]
     rw [zbU (by omega), ih (j + 1) (by omega) (by omega)]
    ·rw [if_neg (by simp; omega), zbU (by omega)]
  exact inner big 0 (by omega) (zbA (by omega))
theorem zoF {p : zm} {i : Nat} (hi : i < p.Funcs.length) (hN : ∀ x ∈ p.Funcs[i].Params, x.Name.size ≤ 1000000000) (hl : p.Funcs[i].Params.length ≤ 1000000000) (hf : p.Funcs.length ≤ 1000000000) (rec54 : List zG → Int → Option Bool) (out : List zG) (ho : out.length = i) (body : List Stm) :
  ∀ (n k : Nat) (ps : List zbM), k ≤ p.Funcs[i].Params.length → p.Funcs[i].Params.length - k < n → ps = (p.Funcs[i].Params.take k).map (tnP cq) → ze9 rec54 p (i : Int) p.Funcs[i] n out ps body (k : Int) = rec54 (out ++ [⟨p.Funcs[i].Name, p.Funcs[i].Line, p.Funcs[i].Params.map (tnP cq), p.Funcs[i].Result, body⟩]) ((i + 1 : Nat) : Int) := by
 intro n
 induction n with
 | zero => intro k _ _ h; omega
 | succ n ih =>
  intro k ps hk hn hps
  show zf6 (ze9 rec54 p (i : Int) p.Funcs[i] n) rec54 p (i : Int) p.Funcs[i] out ps body (k : Int) = _
  unfold zf6
  have hpl : ps.length = k := by rw [hps, List.length_map, List.length_take]; omega
  rw [zbr hi]
  simp only [Option.bind_some]
  by_cases h : k < p.Funcs[i].Params.length
  ·rw [if_pos (zbw (by omega)), zbr h]
   simp only [Option.bind_some]
   rw [zhq (hN _ (List.getElem_mem h)), Option.bind_some, zco (by show ps.length + 1 ≤ _; omega), Option.bind_some, zbU (by omega)]
   refine ih (k + 1) _ (by omega) (by omega) ?_
   rw [List.take_succ_eq_append_getElem h, List.map_append, hps]
   rfl
  ·rw [if_neg (by simp; omega), zco (by omega), Option.bind_some, zbU (by omega), hps, List.take_of_length_le (by omega)]
theorem zqI {p : zm} (hw : gP p ≤ 1000000000) : zhv p = some true := by
 have hsz := zqr p
 unfold zhv
 rw [zou (by omega), Option.bind_some]
 by_cases h1 : szP p > 3000
 ·rw [if_pos (zbw (by omega))]
  rfl
 rw [if_neg (by simp; omega)]
 have hB := zln (p := p) (by omega)
 have hf := hB.fu
 have hN : ∀ d ∈ p.Funcs, NmD 1000000000 d := fun d hd => by
  have h2 := zj6 hd
  unfold gP at hw
  exact ⟨fun x hx => by have := zlk hx; omega, zhi _ (by omega)⟩
 have outer : ∀ n i, i ≤ p.Funcs.length → p.Funcs.length - i < n → zdq p n ((p.Funcs.take i).map (tnD cq)) (i : Int) = some true := by
  intro n
  induction n with
  | zero => intro i _ h; omega
  | succ n ih =>
   intro i hi hn
   show zer (zdq p n) p ((p.Funcs.take i).map (tnD cq)) (i : Int) = _
   by_cases h : i < p.Funcs.length
   ·have hm := List.getElem_mem h
    have h2 := zj6 hm
    have h3 := hB.fp _ hm
    have hw' := hw
    unfold gP at hw'
    unfold zer
    rw [if_pos (zbw (by omega)), zbr h, Option.bind_some, zmM (by omega), Option.bind_some]
    refine (zoF h (hN _ hm).1 (by omega) (by omega) (zdq p n) _ (by rw [List.length_map, List.length_take]; omega) (zbI cq p.Funcs[i].Body) big 0 [] (by omega) (zbA (by omega)) rfl).trans ?_
    have := ih (i + 1) (by omega) (by omega)
    rw [List.take_succ_eq_append_getElem h, List.map_append] at this
    exact this
   ·have hi2 : i = p.Funcs.length := by omega
    subst hi2
    rw [List.take_length]
    exact zoS (by omega) (Nat.le_refl _) hN _ (Nat.le_refl _)
 exact outer big 0 (by omega) (zbA (by omega))
end Go.Proofs.Ytakcaekikfcbpaa
