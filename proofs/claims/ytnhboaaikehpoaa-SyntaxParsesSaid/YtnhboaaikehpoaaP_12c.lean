import Derived.Test.YtnhboaaikehpoaaP_12b
import Derived.KernelRfl
namespace Go.Proofs.Ytnhboaaikehpoaa
open Go.Ab Go.RowKit
set_option linter.unusedVariables false
set_option linter.unusedSimpArgs false
abbrev Stm := zh
def zcc : List Tok → Int
 | [] => 0
 | t :: _ => t.Line
def zdF (rS : Ps Stm) : Nat → List Stm → Ps (List Stm)
 | 0, _ => fun _ => none
 | n + 1, l => ifH 4 [⟨#[125]⟩] (pu l) (bd rS fun s => zdF rS n (l ++ [s]))
def zg3 (rS : Ps Stm) : Ps (List Stm) := bd (zbs [⟨#[123]⟩]) fun _ => zdF rS big []
def zdc (rB : Ps (List Stm)) : Ps Stm := fun r =>
 ifH 3 [⟨#[105, 102]⟩] (bd zb1 fun x => bd rB fun b => ifH 3 [⟨#[101, 108, 115, 101]⟩] (bd rB fun e => pu ⟨6, zcc r, ⟨#[]⟩, ⟨#[]⟩, ⟨#[]⟩, ⟨0, 0, ⟨#[]⟩⟩, [x], b, e⟩) (pu ⟨6, zcc r, ⟨#[]⟩, ⟨#[]⟩, ⟨#[]⟩, ⟨0, 0, ⟨#[]⟩⟩, [x], b, []⟩))
 (ifH 3 [⟨#[102, 111, 114]⟩] (bd zb1 fun x => bd rB fun b => pu ⟨7, zcc r, ⟨#[]⟩, ⟨#[]⟩, ⟨#[]⟩, ⟨0, 0, ⟨#[]⟩⟩, [x], b, []⟩)
 (zep ⟨0, zcc r, ⟨#[]⟩, ⟨#[]⟩, ⟨#[]⟩, ⟨0, 0, ⟨#[]⟩⟩, [], [], []⟩)) r
def sB : Nat → Ps (List Stm) × Ps Stm
 | 0 => (fun _ => none, fun _ => none)
 | n + 1 => (zg3 (sB n).2, zdc (sB n).1)
theorem zni {rS : Ps Stm} (h : Sf rS) : ∀ n l, Sf (zdF rS n l)
 | 0, _ => zdt
 | n + 1, l => zbX (zbw _) (zH h fun _ => zni h n _)
theorem zqD {rB : Ps (List Stm)} (h : Sf rB) : Sf (zdc rB) := fun r v hv =>
 zbX (zH zbo fun _ => zH h fun _ => zbX (zH h fun _ => zbw _) (zbw _)) (zbX (zH zbo fun _ => zH h fun _ => zbw _) (zmE _)) r v hv
theorem zqd {rB : Ps (List Stm)} (h : Sf rB) : Co (zdc rB) := fun r x r' hv =>
 zhG (zH zbo fun _ => zH h fun _ => zbX (zH h fun _ => zbw _) (zbw _)) (zhG (zH zbo fun _ => zH h fun _ => zbw _) (zpy _)) r x r' hv
theorem zgi : ∀ n, Sf (sB n).1 ∧ Sf (sB n).2 ∧ Co (sB n).2
 | 0 => ⟨zdt, zdt, zpS⟩
 | n + 1 => by
  obtain ⟨h1, h2, h3⟩ := zgi n
  exact ⟨zH (zJ _) fun _ => zni h2 _ _, zqD h1, zqd h1⟩
section
variable {T : List Tok} {S : List zw} {D : List zp} {r : List Tok} {k : Int} {tx : List BA}
theorem zlL {R : PS → Option (Except (Value × PS) (Stm × PS))} {rS : Ps Stm} (h1 : Sf rS) (h2 : Co rS) (hR : ∀ r, Suf T r → R (mkP T S D r) = cv T S D (rS r)) : ∀ (n : Nat) (l : List Stm) (r : List Tok), Suf T r → l.length + r.length ≤ 1000000 → zfE R n T ((T.length - r.length : Nat) : Int) S D l = cv T S D (zdF rS n l r)
 | 0, l, r, hs, _ => rfl
 | n + 1, l, r, hs, hl => by
  show zgW (zfE R n) R T _ S D l = _
  unfold zgW zdF
  refine zkb (C := cv T S D) (D := D) (S := S) hs (by simp) (fun r' _ => rfl) ?_
  refine zjf hs h1 (hR r hs) fun x r3 hs3 he => ?_
  have := h2 r x r3 he
  rw [zbV (by omega), Option.bind_some]
  have := zlL h1 h2 hR n (l ++ [x]) r3 hs3 (by simp; omega)
  cases x
  exact this
theorem znA (s : Stm) : zfh T ((T.length - r.length : Nat) : Int) S D s.Kind s.Line s.Name s.Field s.Call s.Type_.Kind s.Type_.N s.Type_.Name s.Kids s.Body s.Else = cv T S D (pu s r) := by
 cases s
 rfl
theorem P_B : ∀ (n : Nat) (r : List Tok), Suf T r → (zcr n).1 (mkP T S D r) = cv T S D ((sB n).1 r) ∧ (zcr n).2 (mkP T S D r) = cv T S D ((sB n).2 r)
 | 0, r, hs => ⟨rfl, rfl⟩
 | n + 1, r, hs => by
  have h1 := fun r hs => (P_B n r hs).1
  have h2 := fun r hs => (P_B n r hs).2
  obtain ⟨f1, f2, f3⟩ := zgi n
  refine ⟨?_, ?_⟩
  ·show zhi (zcr n).1 (zcr n).2 (mkP T S D r) = cv T S D (zg3 (sB n).2 r)
   unfold zhi zg3
   refine zfv hs (zJ _) (zcI hs (by simp)) fun r2 hs2 => ?_
   exact zlL f2 f3 h2 big [] r2 hs2 (by have := zbT hs2; have := hs2.2; simp; omega)
  ·show zgr (zcr n).1 (zcr n).2 (mkP T S D r) = cv T S D (zdc (sB n).1 r)
   unfold zgr zdc
   have hln : zeO (mkP T S D r) = some (zcc r) := by rw [zng hs]; cases r <;> rfl
   rw [hln, Option.bind_some]
   refine L_H (C := cv T S D) hs (by simp) (fun r2 hs2 => ?_) ?_
   ·refine zbZ hs2 zbo (zdP hs2) fun x r3 hs3 => ?_
    refine zbZ hs3 f1 (h1 r3 hs3) fun b r4 hs4 => ?_
    refine L_H (C := cv T S D) hs4 (by simp) (fun r5 hs5 => ?_) ?_
    ·exact zbZ hs5 f1 (h1 r5 hs5) fun e r6 hs6 => by cases x; rfl
    ·cases x; rfl
   refine L_H (C := cv T S D) hs (by simp) (fun r2 hs2 => ?_) ?_
   ·refine zbZ hs2 zbo (zdP hs2) fun x r3 hs3 => ?_
    exact zbZ hs3 f1 (h1 r3 hs3) fun b r4 hs4 => by cases x; rfl
   have eta : ∀ {p : Ps Stm}, bd p (fun x => pu x) = p := fun {p} => by
    funext r
    unfold bd pu
    cases p r with
    | none => rfl
    | some v => cases v <;> rfl
   rw [← eta (p := zep _)]
   exact zpa hs (zmE _) (zpG hs _) fun s r4 hs4 => znA s
end
abbrev zfk : Ps (List Stm) := (sB big).1
theorem zgO : Sf zfk := (zgi big).1
theorem zpF {T : List Tok} {S : List zw} {D : List zp} {r : List Tok} (hs : Suf T r) : zjS (mkP T S D r) = cv T S D (zfk r) := (P_B big r hs).1
def zdi : Ps zbb := bd zbR fun n => bd (zdM true) fun t => pu ⟨n, t⟩
theorem zdI : Sf zdi := zH zbm fun _ => zH (zcJ _) fun _ => zbw _
def fL (nm : BA) : Nat → List BA → Ps zw
 | 0, _ => fun _ => none
 | n + 1, l => ifH 4 [⟨#[125]⟩] (pu ⟨nm, l⟩) (bd zbR fun f => bd (tk 3 [⟨#[105, 110, 116]⟩]) fun _ => bd (zbs [⟨#[59]⟩]) fun _ => fL nm n (l ++ [f]))
def zdO : Ps zw := bd zbR fun nm => bd (tk 3 [⟨#[115, 116, 114, 117, 99, 116]⟩]) fun _ => bd (zbs [⟨#[123]⟩]) fun _ => fL nm big []
def k9 (ln : Int) (nm : BA) (ps : List zbb) : Ps zp := bd (zdM false) fun t => bd zfk fun b => pu ⟨nm, ln, ps, t, b⟩
def pL (ln : Int) (nm : BA) : Nat → List zbb → Ps zp
 | 0, _ => fun _ => none
 | n + 1, l => ifH 4 [⟨#[44]⟩] (bd zdi fun p => pL ln nm n (l ++ [p])) (bd (zbs [⟨#[41]⟩]) fun _ => k9 ln nm l)
def zdJ : Ps zp := fun r => (bd (tk 3 [⟨#[102, 117, 110, 99]⟩]) fun _ => bd zbR fun nm => bd (zbs [⟨#[40]⟩]) fun _ => ifH 4 [⟨#[41]⟩] (k9 (zcc r) nm []) (bd zdi fun p => pL (zcc r) nm big [p])) r
theorem ziZ (nm : BA) : ∀ n l, Sf (fL nm n l)
 | 0, _ => zdt
 | n + 1, l => zbX (zbw _) (zH zbm fun _ => zH (zbD _ _) fun _ => zH (zJ _) fun _ => ziZ nm n _)
theorem zlj : Sf zdO := zH zbm fun _ => zH (zbD _ _) fun _ => zH (zJ _) fun _ => ziZ _ _ _
theorem ziK (ln : Int) (nm : BA) (ps : List zbb) : Sf (k9 ln nm ps) := zH (zcJ _) fun _ => zH zgO fun _ => zbw _
theorem zhR (ln : Int) (nm : BA) : ∀ n l, Sf (pL ln nm n l)
 | 0, _ => zdt
 | n + 1, l => zbX (zH zdI fun _ => zhR ln nm n _) (zH (zJ _) fun _ => ziK _ _ _)
theorem zl9 : Sf zdJ := fun r v h => zH (zbD _ _) (fun _ => zH zbm fun _ => zH (zJ _) fun _ => zbX (ziK _ _ _) (zH zdI fun _ => zhR _ _ _ _)) r v h
theorem zd9 : Co zbR := zfy (zfA _ _) fun _ => zbw _
theorem zhl : Co zdO := zfy zd9 fun _ => zH (zbD _ _) fun _ => zH (zJ _) fun _ => ziZ _ _ _
theorem zgy : Co zdJ := fun r x r' h => zfy (zfA _ _) (fun _ => zH zbm fun _ => zH (zJ _) fun _ => zbX (ziK _ _ _) (zH zdI fun _ => zhR _ _ _ _)) r x r' h
def cS (T : List Tok) (S : List zw) (D : List zp) : Option (Rs zw) → Option (Except (Value × PS) PS)
 | none => none
 | some (.error r) => some (.error (mis, mkP T S D r))
 | some (.ok (x, r)) => some (.ok (mkP T (S ++ [x]) D r))
def cD (T : List Tok) (S : List zw) (D : List zp) : Option (Rs zp) → Option (Except (Value × PS) PS)
 | none => none
 | some (.error r) => some (.error (mis, mkP T S D r))
 | some (.ok (x, r)) => some (.ok (mkP T S (D ++ [x]) r))
section
variable {T : List Tok} {S : List zw} {D : List zp} {r : List Tok} {k : Int} {tx : List BA}
theorem zdN {α β γ : Type} {p : Ps α} {f : α → Ps β} {C : Option (Rs β) → Option (Except (Value × PS) γ)} (hn : C none = none) (hc : ∀ e, C (some (.error e)) = some (.error (mis, mkP T S D e))) (hs : Suf T r) (hp : Sf p) {X : Option (Except (Value × PS) (α × PS))} (hX : X = cv T S D (p r)) {G : α × PS → Option (Except (Value × PS) γ)}
  (hG : ∀ x r', Suf T r' → p r = some (.ok (x, r')) → G (x, mkP T S D r') = C (f x r')) : zF X (fun x => some (.error (x.1, x.2))) G = C (bd p f r) := by
 subst hX
 unfold bd
 cases h : p r with
 | none => exact hn.symm
 | some v =>
  cases v with
  | error e => exact (hc e).symm
  | ok c => exact hG c.1 c.2 (hs.of (hp r _ h)) h
theorem zin {β γ : Type} {p : Ps Unit} {f : Unit → Ps β} {C : Option (Rs β) → Option (Except (Value × PS) γ)} (hn : C none = none) (hc : ∀ e, C (some (.error e)) = some (.error (mis, mkP T S D e))) (hs : Suf T r) (hp : Sf p) {X : Option (Except (Value × PS) PS)} (hX : X = cu T S D (p r)) {G : PS → Option (Except (Value × PS) γ)}
  (hG : ∀ r', Suf T r' → p r = some (.ok ((), r')) → G (mkP T S D r') = C (f () r')) : zF X (fun x => some (.error (x.1, x.2))) G = C (bd p f r) := by
 subst hX
 unfold bd
 cases h : p r with
 | none => exact hn.symm
 | some v =>
  cases v with
  | error e => exact (hc e).symm
  | ok c => exact hG c.2 (hs.of (hp r _ h)) h
theorem zmQ (hs : Suf T r) : zfN (mkP T S D r) = cv T S D (zdi r) := by
 unfold zfN zdi
 refine zbZ hs zbm (zdj hs) fun n r2 hs2 => ?_
 exact zbZ hs2 (zcJ _) (zkI hs2 true) fun ty r3 hs3 => rfl
theorem zlU (c : BA × PS) : ∀ (n : Nat) (l : List BA) (r : List Tok), Suf T r → l.length + r.length ≤ 1000000 → S.length ≤ 1000000 → zgc c n T ((T.length - r.length : Nat) : Int) S D l = cS T S D (fL c.1 n l r)
 | 0, l, r, hs, _, _ => rfl
 | n + 1, l, r, hs, hl, hS => by
  show zhr (zgc c n) c T _ S D l = _
  unfold zhr fL
  refine zkb (C := cS T S D) (D := D) (S := S) hs (by simp) (fun r' _ => ?_) ?_
  ·show ((room (S.length + 1)).bind fun _ => _) = _
   rw [zbV (by omega), Option.bind_some]
   rfl
  refine zdN (T := T) (S := S) (D := D) rfl (fun _ => rfl) hs zbm (zdj hs) fun f r2 hs2 he => ?_
  have h1 := zd9 r f r2 he
  rw [zbV (by simp; omega), Option.bind_some]
  refine zdN (T := T) (S := S) (D := D) rfl (fun _ => rfl) hs2 (zbD _ _) (zdT hs2 (by simp)) fun _ r3 hs3 he3 => ?_
  refine zin (T := T) (S := S) (D := D) rfl (fun _ => rfl) hs3 (zJ _) (zcI hs3 (by simp)) fun r4 hs4 he4 => ?_
  have h3 := (zbD _ _).le he3
  have h4 := (zJ _).le he4
  have h3 : r3.length ≤ r2.length := h3
  have h4 : r4.length ≤ r3.length := h4
  exact zlU c n (l ++ [f]) r4 hs4 (by simp; omega) hS
theorem zrg (hs : Suf T r) (hS : S.length ≤ 1000000) : zhI (mkP T S D r) = cS T S D (zdO r) := by
 unfold zhI zdO
 refine zdN (T := T) (S := S) (D := D) rfl (fun _ => rfl) hs zbm (zdj hs) fun nm r2 hs2 he => ?_
 refine zdN (T := T) (S := S) (D := D) rfl (fun _ => rfl) hs2 (zbD _ _) (zdT hs2 (by simp)) fun _ r3 hs3 he3 => ?_
 refine zin (T := T) (S := S) (D := D) rfl (fun _ => rfl) hs3 (zJ _) (zcI hs3 (by simp)) fun r4 hs4 he4 => ?_
 exact zlU (nm, mkP T S D r2) big [] r4 hs4 (by have := zbT hs4; have := hs4.2; simp; omega) hS
theorem zl0 (ln : Int) (c : BA × PS) (l : List zbb) (hs : Suf T r) (hD : D.length ≤ 1000000) : zfZ ln c T ((T.length - r.length : Nat) : Int) S D l = cD T S D (k9 ln c.1 l r) := by
 unfold zfZ k9
 refine zdN (T := T) (S := S) (D := D) rfl (fun _ => rfl) hs (zcJ _) (zkI hs false) fun t r2 hs2 he => ?_
 refine zdN (T := T) (S := S) (D := D) rfl (fun _ => rfl) hs2 zgO (zpF hs2) fun b r3 hs3 he3 => ?_
 show ((room (D.length + 1)).bind fun _ => _) = _
 rw [zbV (by omega), Option.bind_some]
 rfl
theorem zln (ln : Int) (c : BA × PS) : ∀ (n : Nat) (l : List zbb) (r : List Tok), Suf T r → l.length + r.length ≤ 1000001 → D.length ≤ 1000000 → zfU ln c n T ((T.length - r.length : Nat) : Int) S D l = cD T S D (pL ln c.1 n l r)
 | 0, l, r, hs, _, _ => rfl
 | n + 1, l, r, hs, hl, hD => by
  show zgg (zfU ln c n) ln c T _ S D l = _
  unfold zgg pL
  show ((zbI (mkP T S D r) 4 _).bind _) = _
  rw [zgd hs (by simp), Option.bind_some]
  unfold ifH
  cases h : zI 4 [⟨#[44]⟩] r with
  | true =>
   cases r with
   | nil => cases h
   | cons t r =>
    rw [if_pos rfl, if_pos rfl, if_pos rfl]
    refine zdN (T := T) (S := S) (D := D) rfl (fun _ => rfl) hs.tail zdI (zmQ hs.tail) fun x r3 hs3 he => ?_
    have := zdI.le he
    have : r3.length ≤ r.length := this
    simp only [List.length_cons] at hl
    rw [zbV (by simp; omega), Option.bind_some]
    exact zln ln c n (l ++ [x]) r3 hs3 (by simp; omega) hD
  | false =>
   rw [if_neg (by simp), if_neg (by simp), if_neg (by simp)]
   exact zin (T := T) (S := S) (D := D) rfl (fun _ => rfl) hs (zJ _) (zcI hs (by simp)) fun r4 hs4 _ => zl0 ln c l hs4 hD
theorem zpO (hs : Suf T r) (hD : D.length ≤ 1000000) : zgw (mkP T S D r) = cD T S D (zdJ r) := by
 unfold zgw zdJ
 have hln : zeO (mkP T S D r) = some (zcc r) := by rw [zng hs]; cases r <;> rfl
 rw [hln, Option.bind_some]
 refine zdN (T := T) (S := S) (D := D) rfl (fun _ => rfl) hs (zbD _ _) (zdT hs (by simp)) fun _ r2 hs2 he2 => ?_
 refine zdN (T := T) (S := S) (D := D) rfl (fun _ => rfl) hs2 zbm (zdj hs2) fun nm r3 hs3 he3 => ?_
 refine zin (T := T) (S := S) (D := D) rfl (fun _ => rfl) hs3 (zJ _) (zcI hs3 (by simp)) fun r4 hs4 he4 => ?_
 refine zkb (C := cD T S D) (D := D) (S := S) hs4 (by simp) (fun r5 hs5 => ?_) ?_
 ·exact zl0 (zcc r) (nm, mkP T S D r3) [] hs5 hD
 refine zdN (T := T) (S := S) (D := D) rfl (fun _ => rfl) hs4 zdI (zmQ hs4) fun x r5 hs5 he5 => ?_
 have := zbT hs5
 have := hs5.2
 rw [zbV (by simp), Option.bind_some]
 exact zln (zcc r) (nm, mkP T S D r3) big [x] r5 hs5 (by simp; omega) hD
end
def wL : Nat → List zw → List zp → List Tok → Option (Except (List Tok) (List zw × List zp))
 | 0, _, _, _ => none
 | _ + 1, S, D, [] => some (.ok (S, D))
 | n + 1, S, D, t :: r => if zI 3 [⟨#[116, 121, 112, 101]⟩] (t :: r) = true then (match zdO r with
   | none => none
   | some (.error e) => some (.error e)
   | some (.ok (x, r')) => wL n (S ++ [x]) D r')
  else (match zdJ (t :: r) with
   | none => none
   | some (.error e) => some (.error e)
   | some (.ok (x, r')) => wL n S (D ++ [x]) r')
def cW (T : List Tok) (S : List zw) (D : List zp) : Option (Except (List Tok) (List zw × List zp)) → Option (Except (Int × Value) (List zw × List zp × Bool))
 | none => none
 | some (.error e) => some (.error (((T.length - e.length : Nat) : Int), mis))
 | some (.ok x) => some (.ok (x.1, x.2, true))
def wR (T : List Tok) : Option (Except (Value × PS × Bool) (PS × Bool)) → Option (Except (Int × Value) (List zw × List zp × Bool))
 | none => none
 | some (.error x) => some (.error (x.2.1.cursor.at_, x.1))
 | some (.ok c) => some (.ok (c.1.prog.Structs, c.1.prog.Funcs, c.2))
theorem zjq {T : List Tok} : ∀ (n : Nat) (S : List zw) (D : List zp) (r : List Tok), Suf T r → S.length + D.length + r.length ≤ 1000000 → wR T (zen false n T ((T.length - r.length : Nat) : Int) S D) = cW T S D (wL n S D r)
 | 0, S, D, r, hs, _ => rfl
 | n + 1, S, D, [], hs, _ => by
  show wR T (zeZ (zen false n) false T _ S D) = _
  unfold zeZ
  rw [if_neg (by simp)]
  rfl
 | n + 1, S, D, t :: r, hs, hl => by
  show wR T (zeZ (zen false n) false T _ S D) = _
  unfold zeZ wL
  have h0 := zbT hs
  simp only [List.length_cons] at hl h0
  rw [if_pos (zbq (by simp; omega))]
  show wR T ((zbI (mkP T S D (t :: r)) 3 _).bind _) = _
  rw [zgd hs (by simp), Option.bind_some]
  cases h : zI 3 [⟨#[116, 121, 112, 101]⟩] (t :: r) with
  | true =>
   rw [if_pos rfl, if_pos rfl, if_pos rfl]
   dsimp only [List.tail_cons]
   rw [zrg hs.tail (by omega)]
   cases he : zdO r with
   | none => rfl
   | some v =>
    cases v with
    | error e => rfl
    | ok c =>
     obtain ⟨x, r'⟩ := c
     have := zhl r x r' he
     have := zjq n (S ++ [x]) D r' (hs.tail.of (zlj r _ he)) (by simp; omega)
     refine this.trans ?_
     dsimp only
     cases wL n (S ++ [x]) D r' with
     | none => rfl
     | some v => cases v <;> rfl
  | false =>
   rw [if_neg (by simp), if_neg (by simp), if_neg (by simp)]
   dsimp only
   rw [zpO hs (by omega)]
   cases he : zdJ (t :: r) with
   | none => rfl
   | some v =>
    cases v with
    | error e => rfl
    | ok c =>
     obtain ⟨x, r'⟩ := c
     have := zgy (t :: r) x r' he
     simp only [List.length_cons] at this
     have := zjq n S (D ++ [x]) r' (hs.of (zl9 _ _ he)) (by simp; omega)
     refine this.trans ?_
     dsimp only
     cases wL n S (D ++ [x]) r' with
     | none => rfl
     | some v => cases v <;> rfl
def zdb (T : List Tok) : Option (Except (List Tok) (List zw × List zp)) := wL big [] [] T
theorem zoh {T : List Tok} (hT : T.length ≤ 1000000) : zea T = (zdb T).bind fun v => match v with
  | .error e => some ((⟨[], []⟩ : zP), ((T.length - e.length : Nat) : Int), (7 : Int))
  | .ok (S, D) => (zfV D).bind fun c => if c = true then some ((⟨[], []⟩ : zP), (0 : Int), (11 : Int)) else some ((⟨S, D⟩ : zP), (0 : Int), (0 : Int)) := by
 unfold zea zh6 zhj
 dsimp only
 have h := zjq (T := T) big [] [] T ⟨⟨[], rfl⟩, hT⟩ (by simpa using hT)
 rw [Nat.sub_self] at h
 have h : wR T (zen false big T 0 [] []) = cW T [] [] (zdb T) := h
 cases hw : zen false big T 0 [] [] with
 | none =>
  rw [hw] at h
  cases hp : zdb T with
  | none => rfl
  | some v => rw [hp] at h; cases v <;> cases h
 | some v =>
  rw [hw] at h
  cases v with
  | error x =>
   cases hp : zdb T with
   | none => rw [hp] at h; cases h
   | some v =>
    rw [hp] at h
    cases v with
    | ok c => cases h
    | error e =>
     injection h with h
     injection h with h
     injection h with h1 h2
     dsimp only [Option.bind_some]
     rw [h2, if_pos (show zhL mis = true from by decide)]
     show some ((⟨[], []⟩ : zP), x.2.1.cursor.at_, (7 : Int)) = _
     rw [h1]
  | ok x =>
   obtain ⟨x, b⟩ := x
   cases hp : zdb T with
   | none => rw [hp] at h; cases h
   | some v =>
    rw [hp] at h
    cases v with
    | error e => cases h
    | ok c =>
     obtain ⟨S, D⟩ := c
     injection h with h
     injection h with h
     injection h with h1 h
     injection h with h2 h3
     dsimp only at h1 h2 h3
     subst h1; subst h2; subst h3
     rfl
end Go.Proofs.Ytnhboaaikehpoaa
