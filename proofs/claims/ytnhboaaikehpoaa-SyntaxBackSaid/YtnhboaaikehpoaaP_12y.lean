import Derived.Test.YtnhboaaikehpoaaP_12x
import Derived.KernelRfl
namespace Go.Proofs.Ytnhboaaikehpoaa
open Go.Ab Go.RowKit
set_option linter.unusedVariables false
set_option linter.unusedSimpArgs false
theorem zrx {p : zB} (hp : zb7 p.Funcs ≤ 1600) {m : Int} (hm : 0 ≤ m ∧ m ≤ 2) {S : List zq} : ∀ (n i : Nat) (L : List Tok) (ln : Int) (b : Bool) (D : List zo), i ≤ p.Funcs.length → p.Funcs.length - i < n → D.length ≤ i → 0 ≤ ln → ln + (20 * zb7 (p.Funcs.drop i) + 40 : Nat) ≤ 500000000 → L.length + 20 * zb7 (p.Funcs.drop i) + 40 ≤ 500000000 →
  ∃ (c : List Tok) (D' : List zo) (b' : Bool), zdg p n L ln m b S D (i : Int) = some (L ++ c, ⟨S, D ++ D'⟩, !b') ∧ c.length ≤ 20 * zb7 (p.Funcs.drop i) ∧ D'.length = p.Funcs.length - i ∧ (b' = false → b = false ∧ Wf D' c) := by
 intro n
 induction n with
 | zero => intro i L ln b D _ h; omega
 | succ n ih =>
  intro i L ln b D hi hn hD h0 h1 h2
  have hlen := zjb p.Funcs
  show ∃ c D' b', zhy (zdg p n) p L ln m b S D (i : Int) = _ ∧ _
  unfold zhy
  by_cases h : i < p.Funcs.length
  ·have hmem := zqz (List.getElem_mem h)
   rw [List.drop_eq_getElem_cons h] at h1 h2 ⊢
   have hz : zb7 (p.Funcs[i] :: p.Funcs.drop (i + 1)) = 1 + p.Funcs[i].Params.length + zw p.Funcs[i].Body + zb7 (p.Funcs.drop (i + 1)) := rfl
   rw [hz] at h1 h2 ⊢
   rw [if_pos (zJ (by omega)), zbv h, Option.bind_some]
   obtain ⟨c, b1, ln1, d', e1, l1, k1, k2, g1⟩ := zsQ (rec164 := zdg p n) (d := p.Funcs[i]) (x := ln) (j := i) (by omega) (q := ⟨L, ln, m, b⟩) (S := S) (D := D) (by omega) rfl ⟨⟨by show L.length + _ ≤ _; omega, hm⟩, h0, by show ln + _ ≤ _; omega⟩ (by omega)
   dsimp only at e1 k1 k2
   obtain ⟨c2, D2, b2, e2, l2, hD2, g2⟩ := ih (i + 1) (L ++ c) ln1 b1 (D ++ [d']) (by omega) (by omega) (by simp; omega) (by omega) (by omega) (by simp; omega)
   refine ⟨c ++ c2, d' :: D2, b2, Eq.trans e1 (Eq.trans e2 (by simp)), by simp; omega, by simp; omega, fun hb => ?_⟩
   obtain ⟨h3, h4⟩ := g2 hb
   obtain ⟨h5, h6⟩ := g1 h3
   exact ⟨h5, Wf.cons h6 h4⟩
  ·rw [if_neg (by simp; omega)]
   exact ⟨[], [], b, by simp, by simp, by simp; omega, fun hb => ⟨hb, Wf.nil⟩⟩
theorem zoo {l : List zq} {d : zq} (h : d ∈ l) : 1 + d.Fields.length ≤ zcB l := by
 induction l with
 | nil => cases h
 | cons e l ih =>
  rcases List.mem_cons.1 h with rfl | h
  ·simp [zcB]
  ·have := ih h
   simp [zcB]
   omega
theorem zpY {nm : BA} {a b d : Int} {c : List Tok} {v : Option (Rs zq)} (h : fL nm big [] c = v) : zdO (tkn 1 nm a :: tkn 3 zs7 b :: tkn 4 ztm d :: c) = v := by
 unfold zdO
 rw [zbz (x := nm) (r' := tkn 3 zs7 b :: tkn 4 ztm d :: c) rfl, zbz (x := tkn 3 zs7 b) (r' := tkn 4 ztm d :: c) rfl, zbz (x := ()) (r' := c) rfl]
 exact h
theorem zso {p : zB} (hp : zcB p.Structs + zb7 p.Funcs ≤ 1600) {m : Int} (hm : 0 ≤ m ∧ m ≤ 2) : ∀ (n i : Nat) (L : List Tok) (b : Bool) (S : List zq), i ≤ p.Structs.length → p.Structs.length - i < n → S.length ≤ i → L.length + 20 * zcB (p.Structs.drop i) ≤ 400000000 →
  ∃ (c : List Tok) (D' : List zo) (b' : Bool), zd6 p n L 1 m b S (i : Int) = some (L ++ c, ⟨S ++ p.Structs.drop i, D'⟩, !b') ∧ c.length ≤ 20 * (zcB (p.Structs.drop i) + zb7 p.Funcs) ∧ D'.length = p.Funcs.length ∧ (b' = false → b = false ∧ Ws (p.Structs.drop i) D' c) := by
 intro n
 induction n with
 | zero => intro i L b S _ h; omega
 | succ n ih =>
  intro i L b S hi hn hS h2
  have hlen := zkW p.Structs
  have hlen2 := zjb p.Funcs
  show ∃ c D' b', zhx (zd6 p n) p L 1 m b S (i : Int) = _ ∧ _
  unfold zhx
  by_cases h : i < p.Structs.length
  ·have hmem := zoo (List.getElem_mem h)
   rw [List.drop_eq_getElem_cons h] at h2 ⊢
   have hz : zcB (p.Structs[i] :: p.Structs.drop (i + 1)) = 1 + p.Structs[i].Fields.length + zcB (p.Structs.drop (i + 1)) := rfl
   rw [hz] at h2 ⊢
   rw [if_pos (zJ (by omega)), zbv h, Option.bind_some, zcL (by show L.length ≤ _; omega), Option.bind_some]
   obtain ⟨b1, e1, g1⟩ := zcz ⟨L ++ [tkn 3 zte 1], 1, m, b⟩ p.Structs[i].Name (by simp; omega)
   rw [e1, Option.bind_some, zcL (by simp; omega), Option.bind_some, zbJ (by simp; omega), Option.bind_some]
   obtain ⟨c, b2, e2, l2, g2⟩ := zsh (rec144 := zd6 p n) (s := p.Structs[i]) (j := i) (ln := 1) (m := m) (S := S) (by omega) (by omega) (by omega) big 0 (L ++ [tkn 3 zte 1] ++ [tkn 1 p.Structs[i].Name 1] ++ [tkn 3 zs7 1] ++ [tkn 4 ztm 1]) b1 (by omega) (z7 (by omega)) (by simp; omega)
   obtain ⟨c2, D', b3, e3, l3, hD', g3⟩ := ih (i + 1) (L ++ [tkn 3 zte 1] ++ [tkn 1 p.Structs[i].Name 1] ++ [tkn 3 zs7 1] ++ [tkn 4 ztm 1] ++ c) b2 (S ++ [p.Structs[i]]) (by omega) (by omega) (by simp; omega) (by simp; omega)
   refine ⟨(tkn 3 zte 1 :: tkn 1 p.Structs[i].Name 1 :: tkn 3 zs7 1 :: tkn 4 ztm 1 :: c) ++ c2, D', b3, Eq.trans e2 (Eq.trans e3 (by simp)), by simp; omega, hD', fun hb => ?_⟩
   obtain ⟨h3, h4⟩ := g3 hb
   obtain ⟨h5, h6⟩ := g2 h3
   refine ⟨g1 h5, Ws.cons ⟨_, _, rfl, fun r => ?_⟩ h4⟩
   exact zpY (h6 big r (z7 (by omega)))
  ·rw [if_neg (by simp; omega), List.drop_of_length_le (by omega)]
   rw [List.drop_of_length_le (by omega)] at h2
   have hz : zcB [] = 0 := rfl
   rw [hz] at h2
   obtain ⟨c, D', b', e1, l1, hD', g1⟩ := zrx (p := p) (by omega) hm (S := S) big 0 L 1 b [] (by omega) (z7 (by omega)) (by simp) (by omega) (by rw [List.drop_zero]; omega) (by rw [List.drop_zero]; omega)
   rw [List.drop_zero] at l1
   refine ⟨c, D', b', Eq.trans e1 (by simp), by rw [hz]; omega, by omega, fun hb => ⟨(g1 hb).1, fun k S0 hk hl => ?_⟩⟩
   rw [(g1 hb).2 k S0 [] (by simpa using hk) hl, List.append_nil, List.nil_append]
theorem zpq {p : zB} (hp : zcB p.Structs + zb7 p.Funcs ≤ 1600) {m : Int} (hm : 0 ≤ m ∧ m ≤ 2) : ∃ (c : List Tok) (D' : List zo) (b' : Bool), ziN p m = some (c, ⟨p.Structs, D'⟩, !b') ∧ c.length ≤ 40000 ∧ (b' = false → zdm c = some (.ok (p.Structs, D'))) := by
 have hlen := zkW p.Structs
 have hlen2 := zjb p.Funcs
 obtain ⟨c, D', b', h1, h2, h3, h4⟩ := zso hp hm big 0 [] false [] (by omega) (z7 (by omega)) (by simp) (by rw [List.drop_zero]; simp; omega)
 rw [List.drop_zero] at h1 h2 h4
 refine ⟨c, D', b', h1, by omega, fun hb => ?_⟩
 exact (h4 hb).2 big [] (z7 (by omega)) (by omega)
def ks : List zb → Nat
 | [] => 0
 | x :: l => zK x.Kids + ks l
theorem zko : ∀ l : List zb, zK l = l.length + ks l
 | [] => rfl
 | x :: l => by
  show szE x + zK l = _
  rw [zef, zko l]
  simp [ks]
  omega
theorem zn7 {R : List zb → Int → Option Int} {l : List zb} {m : Nat} (hm : m ≤ 2000) (hR : ∀ x ∈ l, ∀ m' : Nat, m' < m → R x.Kids (m' : Int) = some ((min (zK x.Kids) (m' + 1) : Nat) : Int)) : ∀ (n k x : Nat), k ≤ l.length → (x ≤ m → l.length - k < n) → 0 < n → l.length ≤ x → ((x + ks (l.drop k) = zK l) ∨ (m < x ∧ m < zK l)) → zgk R l (m : Int) n (x : Int) (k : Int) = some ((min (zK l) (m + 1) : Nat) : Int) := by
 intro n
 induction n with
 | zero => intro k x _ _ h; omega
 | succ n ih =>
  intro k x hk hn _ h0 hc
  show zgO _ R l (m : Int) (x : Int) (k : Int) = _
  unfold zgO
  by_cases h : k < l.length ∧ x ≤ m
  ·obtain ⟨h, h1⟩ := h
   have hn := hn h1
   rw [if_pos (by rw [zJ (show (k : Int) < l.length by omega), zJ (show (x : Int) ≤ m by omega)]; rfl), zbv h, Option.bind_some, zce (x := (m : Int) - x) (by omega), show (m : Int) - (x : Int) = ((m - x : Nat) : Int) by omega, hR _ (List.getElem_mem h) (m - x) (by omega), Option.bind_some, zeo (by omega), zbq (by omega)]
   refine ih (k + 1) _ (by omega) (by omega) (by omega) (by omega) ?_
   rcases hc with hc | hc
   ·rw [List.drop_eq_getElem_cons h] at hc
    have hz : ks (l[k] :: l.drop (k + 1)) = zK l[k].Kids + ks (l.drop (k + 1)) := rfl
    rw [hz] at hc
    omega
   ·omega
  ·rw [if_neg (by simp; omega)]
   congr 1
   have hz : k = l.length → ks (l.drop k) = 0 := fun h => by rw [h, List.drop_length]; rfl
   rw [zce (x := (m : Int) + 1) (by omega)]
   have := zko l
   unfold zdK
   split <;> omega
theorem zmX : ∀ (n m : Nat) (l : List zb), m < n → m ≤ 2000 → zet n l (m : Int) = some ((min (zK l) (m + 1) : Nat) : Int)
 | 0, m, l, h, _ => by omega
 | n + 1, m, l, h, hm => by
  show zgk (zet n) l (m : Int) big (l.length : Int) ((0 : Nat) : Int) = _
  exact zn7 hm (fun x _ m' hm' => zmX n m' x.Kids (by omega) (by omega)) big 0 l.length (by omega) (fun h => z7 (by omega)) (z7 (by omega)) (Nat.le_refl _) (.inl (by rw [List.drop_zero, zko]))
theorem zp9 {l : List zb} {m : Nat} (hm : m ≤ 2000) : zkG l (m : Int) = some ((min (zK l) (m + 1) : Nat) : Int) := zmX big m l (z7 (by omega)) hm
def kss : List Stm → Nat
 | [] => 0
 | x :: l => zK x.Kids + zw x.Body + zw x.Else + kss l
theorem zkf : ∀ l : List Stm, zw l = l.length + kss l
 | [] => rfl
 | x :: l => by
  show szS x + zw l = _
  rw [zcd, zkf l]
  simp [kss]
  omega
theorem zp6 {R : List Stm → Int → Option Int} {l : List Stm} {m : Nat} (hm : m ≤ 2000) (hR : ∀ x ∈ l, ∀ m' : Nat, m' < m → R x.Body (m' : Int) = some ((min (zw x.Body) (m' + 1) : Nat) : Int) ∧ R x.Else (m' : Int) = some ((min (zw x.Else) (m' + 1) : Nat) : Int)) : ∀ (n k x : Nat), k ≤ l.length → (x ≤ m → l.length - k < n) → 0 < n → l.length ≤ x → ((x + kss (l.drop k) = zw l) ∨ (m < x ∧ m < zw l)) → zel R l (m : Int) n (x : Int) (k : Int) = some ((min (zw l) (m + 1) : Nat) : Int) := by
 intro n
 induction n with
 | zero => intro k x _ _ h; omega
 | succ n ih =>
  intro k x hk hn _ h0 hc
  show ziv (zel R l (m : Int) n) R l (m : Int) (x : Int) (k : Int) = _
  unfold ziv zil
  by_cases h : k < l.length ∧ x ≤ m
  ·obtain ⟨h, h1⟩ := h
   have hn := hn h1
   have hc : x + (zK l[k].Kids + zw l[k].Body + zw l[k].Else + kss (l.drop (k + 1))) = zw l := by
    rcases hc with hc | hc
    ·rw [List.drop_eq_getElem_cons h] at hc
     exact hc
    ·omega
   rw [if_pos (by rw [zJ (show (k : Int) < l.length by omega), zJ (show (x : Int) ≤ m by omega)]; rfl), zbv h, Option.bind_some, zce (x := (m : Int) - x) (by omega), show (m : Int) - (x : Int) = ((m - x : Nat) : Int) by omega, zp9 (by omega), Option.bind_some, zeo (by omega)]
   have hR := hR _ (List.getElem_mem h)
   generalize ha : x + min (zK l[k].Kids) (m - x + 1) = a
   have nxt : ∀ y : Nat, m < y → m < zw l → l.length ≤ y → zel R l (m : Int) n (y : Int) (IntKind.i64.wrap ((k : Int) + 1)) = some ((min (zw l) (m + 1) : Nat) : Int) := fun y h3 h4 h5 => by
    rw [zbq (by omega)]
    exact ih (k + 1) y (by omega) (fun h => by omega) (by omega) h5 (.inr ⟨h3, h4⟩)
   by_cases h2 : a ≤ m
   ·rw [if_pos (zJ (by omega)), Option.bind_some, zce (x := (m : Int) - a) (by omega), show (m : Int) - (a : Int) = ((m - a : Nat) : Int) by omega, (hR (m - a) (by omega)).1, Option.bind_some, zeo (by omega)]
    generalize hb : a + min (zw l[k].Body) (m - a + 1) = b
    by_cases h3 : b ≤ m
    ·rw [if_pos (zJ (by omega)), Option.bind_some, zce (x := (m : Int) - b) (by omega), show (m : Int) - (b : Int) = ((m - b : Nat) : Int) by omega, (hR (m - b) (by omega)).2, Option.bind_some, zeo (by omega)]
     by_cases h4 : zw l[k].Else ≤ m - b
     ·rw [zbq (by omega)]
      exact ih (k + 1) _ (by omega) (by omega) (by omega) (by omega) (.inl (by omega))
     ·exact nxt _ (by omega) (by omega) (by omega)
    ·rw [if_neg (by simp; omega)]
     exact nxt _ (by omega) (by omega) (by omega)
   ·rw [if_neg (by simp; omega), if_neg (by simp; omega)]
    exact nxt _ (by omega) (by omega) (by omega)
  ·rw [if_neg (by simp; omega)]
   congr 1
   have hz : k = l.length → kss (l.drop k) = 0 := fun h => by rw [h, List.drop_length]; rfl
   rw [zce (x := (m : Int) + 1) (by omega)]
   have := zkf l
   unfold zdK
   split <;> omega
theorem zk0 : ∀ (n m : Nat) (l : List Stm), m < n → m ≤ 2000 → zdN n l (m : Int) = some ((min (zw l) (m + 1) : Nat) : Int)
 | 0, m, l, h, _ => by omega
 | n + 1, m, l, h, hm => by
  show zel (zdN n) l (m : Int) big (l.length : Int) ((0 : Nat) : Int) = _
  exact zp6 hm (fun x _ m' hm' => ⟨zk0 n m' x.Body (by omega) (by omega), zk0 n m' x.Else (by omega) (by omega)⟩) big 0 l.length (by omega) (fun h => z7 (by omega)) (z7 (by omega)) (Nat.le_refl _) (.inl (by rw [List.drop_zero, zkf]))
theorem zqC {l : List Stm} {m : Nat} (hm : m ≤ 2000) : zjL l (m : Int) = some ((min (zw l) (m + 1) : Nat) : Int) := zk0 big m l (z7 (by omega)) hm
theorem zot {p : zB} (hP : ∀ d ∈ p.Funcs, d.Params.length ≤ 1000000000000000) : ∀ (n k x : Nat), k ≤ x → (x ≤ 1500 → 1501 - x < n) → 0 < n → zfg p n (x : Int) (k : Int) = some (decide (1500 < x + zb7 (p.Funcs.drop k))) := by
 intro n
 induction n with
 | zero => intro k x _ _ h; omega
 | succ n ih =>
  intro k x hk hn _
  show zh0 (zfg p n) p (x : Int) (k : Int) = _
  unfold zh0
  by_cases h : k < p.Funcs.length ∧ x ≤ 1500
  ·obtain ⟨h, h1⟩ := h
   have hn := hn h1
   have hp := hP _ (List.getElem_mem h)
   rw [List.drop_eq_getElem_cons h]
   have hz : zb7 (p.Funcs[k] :: p.Funcs.drop (k + 1)) = 1 + p.Funcs[k].Params.length + zw p.Funcs[k].Body + zb7 (p.Funcs.drop (k + 1)) := rfl
   rw [hz, if_pos (by rw [zJ (show (k : Int) < p.Funcs.length by omega), zJ (show (x : Int) ≤ 1500 by omega)]; rfl), zbv h, Option.bind_some, zbq (by omega), zeo (by omega)]
   generalize ha : x + 1 + p.Funcs[k].Params.length = a
   by_cases h2 : a ≤ 1500
   ·rw [if_pos (zJ (by omega)), Option.bind_some, zce (x := 1500 - (a : Int)) (by omega), show (1500 : Int) - (a : Int) = ((1500 - a : Nat) : Int) by omega, zqC (by omega), Option.bind_some, zeo (by omega), zbq (by omega), ih (k + 1) _ (by omega) (by omega) (by omega)]
    congr 1
    rw [decide_eq_decide]
    omega
   ·rw [if_neg (by simp; omega), zbq (by omega), ih (k + 1) _ (by omega) (by omega) (by omega)]
    congr 1
    rw [decide_eq_decide]
    omega
  ·rw [if_neg (by simp; omega)]
   congr 1
   rw [decide_eq_decide]
   by_cases hx : x ≤ 1500
   ·rw [List.drop_of_length_le (by omega)]
    show _ ↔ 1500 < x + 0
    omega
   ·omega
theorem zqh {p : zB} (hP : ∀ d ∈ p.Funcs, d.Params.length ≤ 1000000000000000) (hS : ∀ d ∈ p.Structs, d.Fields.length ≤ 1000000000000000) : ∀ (n k x : Nat), k ≤ x → (x ≤ 1500 → 1501 - x < n) → 0 < n → zgg p n (x : Int) (k : Int) = some (decide (1500 < x + (zcB (p.Structs.drop k) + zb7 p.Funcs))) := by
 intro n
 induction n with
 | zero => intro k x _ _ h; omega
 | succ n ih =>
  intro k x hk hn _
  show zhA (zgg p n) p (x : Int) (k : Int) = _
  unfold zhA
  by_cases h : k < p.Structs.length ∧ x ≤ 1500
  ·obtain ⟨h, h1⟩ := h
   have hn := hn h1
   have hp := hS _ (List.getElem_mem h)
   rw [List.drop_eq_getElem_cons h]
   have hz : zcB (p.Structs[k] :: p.Structs.drop (k + 1)) = 1 + p.Structs[k].Fields.length + zcB (p.Structs.drop (k + 1)) := rfl
   rw [hz, if_pos (by rw [zJ (show (k : Int) < p.Structs.length by omega), zJ (show (x : Int) ≤ 1500 by omega)]; rfl), zbv h, Option.bind_some, zbq (by omega), zeo (by omega), zbq (by omega), ih (k + 1) _ (by omega) (by omega) (by omega)]
   congr 1
   rw [decide_eq_decide]
   omega
  ·rw [if_neg (by simp; omega)]
   have := zot hP big 0 x (by omega) (fun _ => z7 (by omega)) (z7 (by omega))
   have this : zfg p big (x : Int) 0 = _ := this
   rw [this, List.drop_zero]
   congr 1
   rw [decide_eq_decide]
   by_cases hx : x ≤ 1500
   ·rw [List.drop_of_length_le (by omega)]
    show _ ↔ 1500 < x + (0 + _)
    omega
   ·omega
theorem zos {p : zB} (hP : ∀ d ∈ p.Funcs, d.Params.length ≤ 1000000000000000) (hS : ∀ d ∈ p.Structs, d.Fields.length ≤ 1000000000000000) : zjo p = some (decide (1500 < zcB p.Structs + zb7 p.Funcs)) := by
 have := zqh hP hS big 0 0 (Nat.le_refl _) (fun _ => z7 (by omega)) (z7 (by omega))
 rw [List.drop_zero, Nat.zero_add] at this
 exact this
theorem zo6 {p : zB} {more : Int} (hm : 0 ≤ more ∧ more ≤ 255) (hP : ∀ d ∈ p.Funcs, d.Params.length ≤ 1000000000000000) (hS : ∀ d ∈ p.Structs, d.Fields.length ≤ 1000000000000000) : zjf p more = some true := by
 unfold zjf
 rw [zos hP hS, Option.bind_some, zqo]
 by_cases hv : 1500 < zcB p.Structs + zb7 p.Funcs
 ·rw [if_pos (zJ hv)]
  rfl
 rw [if_neg (by simpa using hv)]
 have h3 : Int.tmod (IntKind.i64.wrap more) 3 = more % 3 := by
  rw [zce (by omega)]
  exact Int.tmod_eq_emod_of_nonneg (by omega)
 obtain ⟨c, D', b', h1, h2, h4⟩ := zpq (p := p) (by omega) (m := Int.tmod (IntKind.i64.wrap more) 3) (by rw [h3]; omega)
 rw [h1, Option.bind_some]
 cases b' with
 | true =>
  rw [if_pos (by rfl)]
  rfl
 | false =>
  rw [if_neg (by simp)]
  have hpr := h4 rfl
  obtain ⟨v, hv, hA⟩ := zov (T := c) (by omega)
  rw [hpr] at hv
  injection hv with hv
  subst hv
  have hz := zl6 hpr
  have hsame := zp8 (T := c) (by omega) hpr
  by_cases hd : zeK D' = true
  ·have e : ze4 c (.ok (p.Structs, D')) = (⟨[], []⟩, 0, 11) := if_pos hd
   rw [e] at hA hsame
   rw [hA, Option.bind_some, zlS (S := p.Structs) (D := D') (by omega) (fun d hd => by have := hz.2 d hd; omega), Option.bind_some, if_pos hd, if_pos (by rfl), hsame]
   rfl
  ·have e : ze4 c (.ok (p.Structs, D')) = (⟨p.Structs, D'⟩, 0, 0) := if_neg hd
   rw [e] at hA hsame
   rw [hA, Option.bind_some, zlS (S := p.Structs) (D := D') (by omega) (fun d hd => by have := hz.2 d hd; omega), Option.bind_some, if_neg hd, if_pos (by rfl), hsame]
   rfl
end Go.Proofs.Ytnhboaaikehpoaa
