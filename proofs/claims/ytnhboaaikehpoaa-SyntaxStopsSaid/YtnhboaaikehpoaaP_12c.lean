import Derived.Test.YtnhboaaikehpoaaP_12b
import Derived.KernelRfl
namespace Go.Proofs.Ytnhboaaikehpoaa
open Go.Ab Go.RowKit
set_option linter.unusedVariables false
set_option linter.unusedSimpArgs false
abbrev Stm := ze
def zbO : List Tok → Int
 | [] => 0
 | t :: _ => t.Line
def zcW (rS : Ps Stm) : Nat → List Stm → Ps (List Stm)
 | 0, _ => fun _ => none
 | n + 1, l => ifH 4 [⟨#[125]⟩] (pu l) (bd rS fun s => zcW rS n (l ++ [s]))
def zgP (rS : Ps Stm) : Ps (List Stm) := bd (zbd [⟨#[123]⟩]) fun _ => zcW rS big []
def zcZ (rB : Ps (List Stm)) : Ps Stm := fun r =>
 ifH 3 [⟨#[105, 102]⟩] (bd zbI fun x => bd rB fun b => ifH 3 [⟨#[101, 108, 115, 101]⟩] (bd rB fun e => pu ⟨6, zbO r, ⟨#[]⟩, ⟨#[]⟩, ⟨#[]⟩, ⟨0, 0, ⟨#[]⟩⟩, [x], b, e⟩) (pu ⟨6, zbO r, ⟨#[]⟩, ⟨#[]⟩, ⟨#[]⟩, ⟨0, 0, ⟨#[]⟩⟩, [x], b, []⟩))
 (ifH 3 [⟨#[102, 111, 114]⟩] (bd zbI fun x => bd rB fun b => pu ⟨7, zbO r, ⟨#[]⟩, ⟨#[]⟩, ⟨#[]⟩, ⟨0, 0, ⟨#[]⟩⟩, [x], b, []⟩)
 (zdB ⟨0, zbO r, ⟨#[]⟩, ⟨#[]⟩, ⟨#[]⟩, ⟨0, 0, ⟨#[]⟩⟩, [], [], []⟩)) r
def sB : Nat → Ps (List Stm) × Ps Stm
 | 0 => (fun _ => none, fun _ => none)
 | n + 1 => (zgP (sB n).2, zcZ (sB n).1)
theorem zgT {rS : Ps Stm} (h : Sf rS) : ∀ n l, Sf (zcW rS n l)
 | 0, _ => zdi
 | n + 1, l => zbG (z5 _) (zt h fun _ => zgT h n _)
theorem znF {rB : Ps (List Stm)} (h : Sf rB) : Sf (zcZ rB) := fun r v hv =>
 zbG (zt zbb fun _ => zt h fun _ => zbG (zt h fun _ => z5 _) (z5 _)) (zbG (zt zbb fun _ => zt h fun _ => z5 _) (zlR _)) r v hv
theorem zrb {rB : Ps (List Stm)} (h : Sf rB) : Co (zcZ rB) := fun r x r' hv =>
 zeV (zt zbb fun _ => zt h fun _ => zbG (zt h fun _ => z5 _) (z5 _)) (zeV (zt zbb fun _ => zt h fun _ => z5 _) (zn7 _)) r x r' hv
theorem zeO : ∀ n, Sf (sB n).1 ∧ Sf (sB n).2 ∧ Co (sB n).2
 | 0 => ⟨zdi, zdi, zhM⟩
 | n + 1 => by
  obtain ⟨h1, h2, h3⟩ := zeO n
  exact ⟨zt (zy _) fun _ => zgT h2 _ _, znF h1, zrb h1⟩
section
variable {T : List Tok} {S : List zo} {D : List zi} {r : List Tok} {k : Int} {tx : List BA}
theorem zlp {R : PS → Option (Except (Value × PS) (Stm × PS))} {rS : Ps Stm} (h1 : Sf rS) (h2 : Co rS) (hR : ∀ r, Suf T r → R (mkP T S D r) = cv T S D (rS r)) : ∀ (n : Nat) (l : List Stm) (r : List Tok), Suf T r → l.length + r.length ≤ 1000000 → zfp R n T ((T.length - r.length : Nat) : Int) S D l = cv T S D (zcW rS n l r)
 | 0, l, r, hs, _ => rfl
 | n + 1, l, r, hs, hl => by
  show zgm (zfp R n) R T _ S D l = _
  unfold zgm zcW
  refine zjG (C := cv T S D) (D := D) (S := S) hs (by simp) (fun r' _ => rfl) ?_
  refine zku hs h1 (hR r hs) fun x r3 hs3 he => ?_
  have := h2 r x r3 he
  rw [zbJ (by omega), Option.bind_some]
  have := zlp h1 h2 hR n (l ++ [x]) r3 hs3 (by simp; omega)
  cases x
  exact this
theorem zpZ (s : Stm) : ze2 T ((T.length - r.length : Nat) : Int) S D s.Kind s.Line s.Name s.Field s.Call s.Type_.Kind s.Type_.N s.Type_.Name s.Kids s.Body s.Else = cv T S D (pu s r) := by
 cases s
 rfl
theorem P_B : ∀ (n : Nat) (r : List Tok), Suf T r → (zcd n).1 (mkP T S D r) = cv T S D ((sB n).1 r) ∧ (zcd n).2 (mkP T S D r) = cv T S D ((sB n).2 r)
 | 0, r, hs => ⟨rfl, rfl⟩
 | n + 1, r, hs => by
  have h1 := fun r hs => (P_B n r hs).1
  have h2 := fun r hs => (P_B n r hs).2
  obtain ⟨f1, f2, f3⟩ := zeO n
  refine ⟨?_, ?_⟩
  ·show zhd (zcd n).1 (zcd n).2 (mkP T S D r) = cv T S D (zgP (sB n).2 r)
   unfold zhd zgP
   refine zfc hs (zy _) (zct hs (by simp)) fun r2 hs2 => ?_
   exact zlp f2 f3 h2 big [] r2 hs2 (by have := zbM hs2; have := hs2.2; simp; omega)
  ·show zhm (zcd n).1 (zcd n).2 (mkP T S D r) = cv T S D (zcZ (sB n).1 r)
   unfold zhm zcZ
   have hln : zeB (mkP T S D r) = some (zbO r) := by rw [zm3 hs]; cases r <;> rfl
   rw [hln, Option.bind_some]
   refine L_H (C := cv T S D) hs (by simp) (fun r2 hs2 => ?_) ?_
   ·refine zbP hs2 zbb (zd7 hs2) fun x r3 hs3 => ?_
    refine zbP hs3 f1 (h1 r3 hs3) fun b r4 hs4 => ?_
    refine L_H (C := cv T S D) hs4 (by simp) (fun r5 hs5 => ?_) ?_
    ·exact zbP hs5 f1 (h1 r5 hs5) fun e r6 hs6 => by cases x; rfl
    ·cases x; rfl
   refine L_H (C := cv T S D) hs (by simp) (fun r2 hs2 => ?_) ?_
   ·refine zbP hs2 zbb (zd7 hs2) fun x r3 hs3 => ?_
    exact zbP hs3 f1 (h1 r3 hs3) fun b r4 hs4 => by cases x; rfl
   have eta : ∀ {p : Ps Stm}, bd p (fun x => pu x) = p := fun {p} => by
    funext r
    unfold bd pu
    cases p r with
    | none => rfl
    | some v => cases v <;> rfl
   rw [← eta (p := zdB _)]
   exact znQ hs (zlR _) (zn4 hs _) fun s r4 hs4 => zpZ s
end
abbrev zd0 : Ps (List Stm) := (sB big).1
theorem zh1 : Sf zd0 := (zeO big).1
theorem zoC {T : List Tok} {S : List zo} {D : List zi} {r : List Tok} (hs : Suf T r) : zjh (mkP T S D r) = cv T S D (zd0 r) := (P_B big r hs).1
def zc9 : Ps z4 := bd zbB fun n => bd (zdv true) fun t => pu ⟨n, t⟩
theorem zc6 : Sf zc9 := zt z9 fun _ => zt (zcO _) fun _ => z5 _
def fL (nm : BA) : Nat → List BA → Ps zo
 | 0, _ => fun _ => none
 | n + 1, l => ifH 4 [⟨#[125]⟩] (pu ⟨nm, l⟩) (bd zbB fun f => bd (tk 3 [⟨#[105, 110, 116]⟩]) fun _ => bd (zbd [⟨#[59]⟩]) fun _ => fL nm n (l ++ [f]))
def zdC : Ps zo := bd zbB fun nm => bd (tk 3 [⟨#[115, 116, 114, 117, 99, 116]⟩]) fun _ => bd (zbd [⟨#[123]⟩]) fun _ => fL nm big []
def k9 (ln : Int) (nm : BA) (ps : List z4) : Ps zi := bd (zdv false) fun t => bd zd0 fun b => pu ⟨nm, ln, ps, t, b⟩
def pL (ln : Int) (nm : BA) : Nat → List z4 → Ps zi
 | 0, _ => fun _ => none
 | n + 1, l => ifH 4 [⟨#[44]⟩] (bd zc9 fun p => pL ln nm n (l ++ [p])) (bd (zbd [⟨#[41]⟩]) fun _ => k9 ln nm l)
def zcF : Ps zi := fun r => (bd (tk 3 [⟨#[102, 117, 110, 99]⟩]) fun _ => bd zbB fun nm => bd (zbd [⟨#[40]⟩]) fun _ => ifH 4 [⟨#[41]⟩] (k9 (zbO r) nm []) (bd zc9 fun p => pL (zbO r) nm big [p])) r
theorem zhW (nm : BA) : ∀ n l, Sf (fL nm n l)
 | 0, _ => zdi
 | n + 1, l => zbG (z5 _) (zt z9 fun _ => zt (zbm _ _) fun _ => zt (zy _) fun _ => zhW nm n _)
theorem ziy : Sf zdC := zt z9 fun _ => zt (zbm _ _) fun _ => zt (zy _) fun _ => zhW _ _ _
theorem zfK (ln : Int) (nm : BA) (ps : List z4) : Sf (k9 ln nm ps) := zt (zcO _) fun _ => zt zh1 fun _ => z5 _
theorem zgJ (ln : Int) (nm : BA) : ∀ n l, Sf (pL ln nm n l)
 | 0, _ => zdi
 | n + 1, l => zbG (zt zc6 fun _ => zgJ ln nm n _) (zt (zy _) fun _ => zfK _ _ _)
theorem zh6 : Sf zcF := fun r v h => zt (zbm _ _) (fun _ => zt z9 fun _ => zt (zy _) fun _ => zbG (zfK _ _ _) (zt zc6 fun _ => zgJ _ _ _ _)) r v h
theorem zeg : Co zbB := zdc (ze5 _ _) fun _ => z5 _
theorem ziJ : Co zdC := zdc zeg fun _ => zt (zbm _ _) fun _ => zt (zy _) fun _ => zhW _ _ _
theorem zh7 : Co zcF := fun r x r' h => zdc (ze5 _ _) (fun _ => zt z9 fun _ => zt (zy _) fun _ => zbG (zfK _ _ _) (zt zc6 fun _ => zgJ _ _ _ _)) r x r' h
def cS (T : List Tok) (S : List zo) (D : List zi) : Option (Rs zo) → Option (Except (Value × PS) PS)
 | none => none
 | some (.error r) => some (.error (mis, mkP T S D r))
 | some (.ok (x, r)) => some (.ok (mkP T (S ++ [x]) D r))
def cD (T : List Tok) (S : List zo) (D : List zi) : Option (Rs zi) → Option (Except (Value × PS) PS)
 | none => none
 | some (.error r) => some (.error (mis, mkP T S D r))
 | some (.ok (x, r)) => some (.ok (mkP T S (D ++ [x]) r))
section
variable {T : List Tok} {S : List zo} {D : List zi} {r : List Tok} {k : Int} {tx : List BA}
theorem zdP {α β γ : Type} {p : Ps α} {f : α → Ps β} {C : Option (Rs β) → Option (Except (Value × PS) γ)} (hn : C none = none) (hc : ∀ e, C (some (.error e)) = some (.error (mis, mkP T S D e))) (hs : Suf T r) (hp : Sf p) {X : Option (Except (Value × PS) (α × PS))} (hX : X = cv T S D (p r)) {G : α × PS → Option (Except (Value × PS) γ)}
  (hG : ∀ x r', Suf T r' → p r = some (.ok (x, r')) → G (x, mkP T S D r') = C (f x r')) : zx X (fun x => some (.error (x.1, x.2))) G = C (bd p f r) := by
 subst hX
 unfold bd
 cases h : p r with
 | none => exact hn.symm
 | some v =>
  cases v with
  | error e => exact (hc e).symm
  | ok c => exact hG c.1 c.2 (hs.of (hp r _ h)) h
theorem ziC {β γ : Type} {p : Ps Unit} {f : Unit → Ps β} {C : Option (Rs β) → Option (Except (Value × PS) γ)} (hn : C none = none) (hc : ∀ e, C (some (.error e)) = some (.error (mis, mkP T S D e))) (hs : Suf T r) (hp : Sf p) {X : Option (Except (Value × PS) PS)} (hX : X = cu T S D (p r)) {G : PS → Option (Except (Value × PS) γ)}
  (hG : ∀ r', Suf T r' → p r = some (.ok ((), r')) → G (mkP T S D r') = C (f () r')) : zx X (fun x => some (.error (x.1, x.2))) G = C (bd p f r) := by
 subst hX
 unfold bd
 cases h : p r with
 | none => exact hn.symm
 | some v =>
  cases v with
  | error e => exact (hc e).symm
  | ok c => exact hG c.2 (hs.of (hp r _ h)) h
theorem znc (hs : Suf T r) : zfM (mkP T S D r) = cv T S D (zc9 r) := by
 unfold zfM zc9
 refine zbP hs z9 (zdl hs) fun n r2 hs2 => ?_
 exact zbP hs2 (zcO _) (zjf hs2 true) fun ty r3 hs3 => rfl
theorem zlH (c : BA × PS) : ∀ (n : Nat) (l : List BA) (r : List Tok), Suf T r → l.length + r.length ≤ 1000000 → S.length ≤ 1000000 → zfW c n T ((T.length - r.length : Nat) : Int) S D l = cS T S D (fL c.1 n l r)
 | 0, l, r, hs, _, _ => rfl
 | n + 1, l, r, hs, hl, hS => by
  show zgc (zfW c n) c T _ S D l = _
  unfold zgc fL
  refine zjG (C := cS T S D) (D := D) (S := S) hs (by simp) (fun r' _ => ?_) ?_
  ·show ((room (S.length + 1)).bind fun _ => _) = _
   rw [zbJ (by omega), Option.bind_some]
   rfl
  refine zdP (T := T) (S := S) (D := D) rfl (fun _ => rfl) hs z9 (zdl hs) fun f r2 hs2 he => ?_
  have h1 := zeg r f r2 he
  rw [zbJ (by simp; omega), Option.bind_some]
  refine zdP (T := T) (S := S) (D := D) rfl (fun _ => rfl) hs2 (zbm _ _) (zdV hs2 (by simp)) fun _ r3 hs3 he3 => ?_
  refine ziC (T := T) (S := S) (D := D) rfl (fun _ => rfl) hs3 (zy _) (zct hs3 (by simp)) fun r4 hs4 he4 => ?_
  have h3 := (zbm _ _).le he3
  have h4 := (zy _).le he4
  have h3 : r3.length ≤ r2.length := h3
  have h4 : r4.length ≤ r3.length := h4
  exact zlH c n (l ++ [f]) r4 hs4 (by simp; omega) hS
theorem zoy (hs : Suf T r) (hS : S.length ≤ 1000000) : zf7 (mkP T S D r) = cS T S D (zdC r) := by
 unfold zf7 zdC
 refine zdP (T := T) (S := S) (D := D) rfl (fun _ => rfl) hs z9 (zdl hs) fun nm r2 hs2 he => ?_
 refine zdP (T := T) (S := S) (D := D) rfl (fun _ => rfl) hs2 (zbm _ _) (zdV hs2 (by simp)) fun _ r3 hs3 he3 => ?_
 refine ziC (T := T) (S := S) (D := D) rfl (fun _ => rfl) hs3 (zy _) (zct hs3 (by simp)) fun r4 hs4 he4 => ?_
 exact zlH (nm, mkP T S D r2) big [] r4 hs4 (by have := zbM hs4; have := hs4.2; simp; omega) hS
theorem zmF (ln : Int) (c : BA × PS) (l : List z4) (hs : Suf T r) (hD : D.length ≤ 1000000) : zfT ln c T ((T.length - r.length : Nat) : Int) S D l = cD T S D (k9 ln c.1 l r) := by
 unfold zfT k9
 refine zdP (T := T) (S := S) (D := D) rfl (fun _ => rfl) hs (zcO _) (zjf hs false) fun t r2 hs2 he => ?_
 refine zdP (T := T) (S := S) (D := D) rfl (fun _ => rfl) hs2 zh1 (zoC hs2) fun b r3 hs3 he3 => ?_
 show ((room (D.length + 1)).bind fun _ => _) = _
 rw [zbJ (by omega), Option.bind_some]
 rfl
theorem zns (ln : Int) (c : BA × PS) : ∀ (n : Nat) (l : List z4) (r : List Tok), Suf T r → l.length + r.length ≤ 1000001 → D.length ≤ 1000000 → zfX ln c n T ((T.length - r.length : Nat) : Int) S D l = cD T S D (pL ln c.1 n l r)
 | 0, l, r, hs, _, _ => rfl
 | n + 1, l, r, hs, hl, hD => by
  show zf9 (zfX ln c n) ln c T _ S D l = _
  unfold zf9 pL
  show ((zbw (mkP T S D r) 4 _).bind _) = _
  rw [zfv hs (by simp), Option.bind_some]
  unfold ifH
  cases h : zs 4 [⟨#[44]⟩] r with
  | true =>
   cases r with
   | nil => cases h
   | cons t r =>
    rw [if_pos rfl, if_pos rfl, if_pos rfl]
    refine zdP (T := T) (S := S) (D := D) rfl (fun _ => rfl) hs.tail zc6 (znc hs.tail) fun x r3 hs3 he => ?_
    have := zc6.le he
    have : r3.length ≤ r.length := this
    simp only [List.length_cons] at hl
    rw [zbJ (by simp; omega), Option.bind_some]
    exact zns ln c n (l ++ [x]) r3 hs3 (by simp; omega) hD
  | false =>
   rw [if_neg (by simp), if_neg (by simp), if_neg (by simp)]
   exact ziC (T := T) (S := S) (D := D) rfl (fun _ => rfl) hs (zy _) (zct hs (by simp)) fun r4 hs4 _ => zmF ln c l hs4 hD
theorem zo8 (hs : Suf T r) (hD : D.length ≤ 1000000) : zhh (mkP T S D r) = cD T S D (zcF r) := by
 unfold zhh zcF
 have hln : zeB (mkP T S D r) = some (zbO r) := by rw [zm3 hs]; cases r <;> rfl
 rw [hln, Option.bind_some]
 refine zdP (T := T) (S := S) (D := D) rfl (fun _ => rfl) hs (zbm _ _) (zdV hs (by simp)) fun _ r2 hs2 he2 => ?_
 refine zdP (T := T) (S := S) (D := D) rfl (fun _ => rfl) hs2 z9 (zdl hs2) fun nm r3 hs3 he3 => ?_
 refine ziC (T := T) (S := S) (D := D) rfl (fun _ => rfl) hs3 (zy _) (zct hs3 (by simp)) fun r4 hs4 he4 => ?_
 refine zjG (C := cD T S D) (D := D) (S := S) hs4 (by simp) (fun r5 hs5 => ?_) ?_
 ·exact zmF (zbO r) (nm, mkP T S D r3) [] hs5 hD
 refine zdP (T := T) (S := S) (D := D) rfl (fun _ => rfl) hs4 zc6 (znc hs4) fun x r5 hs5 he5 => ?_
 have := zbM hs5
 have := hs5.2
 rw [zbJ (by simp), Option.bind_some]
 exact zns (zbO r) (nm, mkP T S D r3) big [x] r5 hs5 (by simp; omega) hD
end
def wL : Nat → List zo → List zi → List Tok → Option (Except (List Tok) (List zo × List zi))
 | 0, _, _, _ => none
 | _ + 1, S, D, [] => some (.ok (S, D))
 | n + 1, S, D, t :: r => if zs 3 [⟨#[116, 121, 112, 101]⟩] (t :: r) = true then (match zdC r with
   | none => none
   | some (.error e) => some (.error e)
   | some (.ok (x, r')) => wL n (S ++ [x]) D r')
  else (match zcF (t :: r) with
   | none => none
   | some (.error e) => some (.error e)
   | some (.ok (x, r')) => wL n S (D ++ [x]) r')
def cW (T : List Tok) (S : List zo) (D : List zi) : Option (Except (List Tok) (List zo × List zi)) → Option (Except (Int × Value) (List zo × List zi × Bool))
 | none => none
 | some (.error e) => some (.error (((T.length - e.length : Nat) : Int), mis))
 | some (.ok x) => some (.ok (x.1, x.2, true))
def wR (T : List Tok) : Option (Except (Value × PS × Bool) (PS × Bool)) → Option (Except (Int × Value) (List zo × List zi × Bool))
 | none => none
 | some (.error x) => some (.error (x.2.1.cursor.at_, x.1))
 | some (.ok c) => some (.ok (c.1.prog.Structs, c.1.prog.Funcs, c.2))
theorem zjC {T : List Tok} : ∀ (n : Nat) (S : List zo) (D : List zi) (r : List Tok), Suf T r → S.length + D.length + r.length ≤ 1000000 → wR T (zej false n T ((T.length - r.length : Nat) : Int) S D) = cW T S D (wL n S D r)
 | 0, S, D, r, hs, _ => rfl
 | n + 1, S, D, [], hs, _ => by
  show wR T (ze3 (zej false n) false T _ S D) = _
  unfold ze3
  rw [if_neg (by simp)]
  rfl
 | n + 1, S, D, t :: r, hs, hl => by
  show wR T (ze3 (zej false n) false T _ S D) = _
  unfold ze3 wL
  have h0 := zbM hs
  simp only [List.length_cons] at hl h0
  rw [if_pos (zbo (by simp; omega))]
  show wR T ((zbw (mkP T S D (t :: r)) 3 _).bind _) = _
  rw [zfv hs (by simp), Option.bind_some]
  cases h : zs 3 [⟨#[116, 121, 112, 101]⟩] (t :: r) with
  | true =>
   rw [if_pos rfl, if_pos rfl, if_pos rfl]
   dsimp only [List.tail_cons]
   rw [zoy hs.tail (by omega)]
   cases he : zdC r with
   | none => rfl
   | some v =>
    cases v with
    | error e => rfl
    | ok c =>
     obtain ⟨x, r'⟩ := c
     have := ziJ r x r' he
     have := zjC n (S ++ [x]) D r' (hs.tail.of (ziy r _ he)) (by simp; omega)
     refine this.trans ?_
     dsimp only
     cases wL n (S ++ [x]) D r' with
     | none => rfl
     | some v => cases v <;> rfl
  | false =>
   rw [if_neg (by simp), if_neg (by simp), if_neg (by simp)]
   dsimp only
   rw [zo8 hs (by omega)]
   cases he : zcF (t :: r) with
   | none => rfl
   | some v =>
    cases v with
    | error e => rfl
    | ok c =>
     obtain ⟨x, r'⟩ := c
     have := zh7 (t :: r) x r' he
     simp only [List.length_cons] at this
     have := zjC n S (D ++ [x]) r' (hs.of (zh6 _ _ he)) (by simp; omega)
     refine this.trans ?_
     dsimp only
     cases wL n S (D ++ [x]) r' with
     | none => rfl
     | some v => cases v <;> rfl
def zce (T : List Tok) : Option (Except (List Tok) (List zo × List zi)) := wL big [] [] T
theorem zoD {T : List Tok} (hT : T.length ≤ 1000000) : zdk T = (zce T).bind fun v => match v with
  | .error e => some ((⟨[], []⟩ : zN), ((T.length - e.length : Nat) : Int), (7 : Int))
  | .ok (S, D) => (zfS D).bind fun c => if c = true then some ((⟨[], []⟩ : zN), (0 : Int), (11 : Int)) else some ((⟨S, D⟩ : zN), (0 : Int), (0 : Int)) := by
 unfold zdk zik zga
 dsimp only
 have h := zjC (T := T) big [] [] T ⟨⟨[], rfl⟩, hT⟩ (by simpa using hT)
 rw [Nat.sub_self] at h
 have h : wR T (zej false big T 0 [] []) = cW T [] [] (zce T) := h
 cases hw : zej false big T 0 [] [] with
 | none =>
  rw [hw] at h
  cases hp : zce T with
  | none => rfl
  | some v => rw [hp] at h; cases v <;> cases h
 | some v =>
  rw [hw] at h
  cases v with
  | error x =>
   cases hp : zce T with
   | none => rw [hp] at h; cases h
   | some v =>
    rw [hp] at h
    cases v with
    | ok c => cases h
    | error e =>
     injection h with h
     injection h with h
     injection h with h1 h2
     dsimp only [Option.bind_some]
     rw [h2, if_pos (show zg6 mis = true from by decide)]
     show some ((⟨[], []⟩ : zN), x.2.1.cursor.at_, (7 : Int)) = _
     rw [h1]
  | ok x =>
   obtain ⟨x, b⟩ := x
   cases hp : zce T with
   | none => rw [hp] at h; cases h
   | some v =>
    rw [hp] at h
    cases v with
    | error e => cases h
    | ok c =>
     obtain ⟨S, D⟩ := c
     injection h with h
     injection h with h
     injection h with h1 h
     injection h with h2 h3
     dsimp only at h1 h2 h3
     subst h1; subst h2; subst h3
     rfl
end Go.Proofs.Ytnhboaaikehpoaa
