import Derived.Test.YtnhboaaikehpoaaP_12b
import Derived.KernelRfl
namespace Go.Proofs.Ytnhboaaikehpoaa
open Go.Ab Go.RowKit
set_option linter.unusedVariables false
set_option linter.unusedSimpArgs false
abbrev Stm := zg
def zb9 : List Tok → Int
 | [] => 0
 | t :: _ => t.Line
def zde (rS : Ps Stm) : Nat → List Stm → Ps (List Stm)
 | 0, _ => fun _ => none
 | n + 1, l => ifH 4 [⟨#[125]⟩] (pu l) (bd rS fun s => zde rS n (l ++ [s]))
def zgF (rS : Ps Stm) : Ps (List Stm) := bd (zbu [⟨#[123]⟩]) fun _ => zde rS big []
def zc7 (rB : Ps (List Stm)) : Ps Stm := fun r =>
 ifH 3 [⟨#[105, 102]⟩] (bd zbZ fun x => bd rB fun b => ifH 3 [⟨#[101, 108, 115, 101]⟩] (bd rB fun e => pu ⟨6, zb9 r, ⟨#[]⟩, ⟨#[]⟩, ⟨#[]⟩, ⟨0, 0, ⟨#[]⟩⟩, [x], b, e⟩) (pu ⟨6, zb9 r, ⟨#[]⟩, ⟨#[]⟩, ⟨#[]⟩, ⟨0, 0, ⟨#[]⟩⟩, [x], b, []⟩))
 (ifH 3 [⟨#[102, 111, 114]⟩] (bd zbZ fun x => bd rB fun b => pu ⟨7, zb9 r, ⟨#[]⟩, ⟨#[]⟩, ⟨#[]⟩, ⟨0, 0, ⟨#[]⟩⟩, [x], b, []⟩)
 (zdF ⟨0, zb9 r, ⟨#[]⟩, ⟨#[]⟩, ⟨#[]⟩, ⟨0, 0, ⟨#[]⟩⟩, [], [], []⟩)) r
def sB : Nat → Ps (List Stm) × Ps Stm
 | 0 => (fun _ => none, fun _ => none)
 | n + 1 => (zgF (sB n).2, zc7 (sB n).1)
theorem zgZ {rS : Ps Stm} (h : Sf rS) : ∀ n l, Sf (zde rS n l)
 | 0, _ => zdw
 | n + 1, l => zbS (zbi _) (zy h fun _ => zgZ h n _)
theorem zqt {rB : Ps (List Stm)} (h : Sf rB) : Sf (zc7 rB) := fun r v hv =>
 zbS (zy zbo fun _ => zy h fun _ => zbS (zy h fun _ => zbi _) (zbi _)) (zbS (zy zbo fun _ => zy h fun _ => zbi _) (zmw _)) r v hv
theorem zoM {rB : Ps (List Stm)} (h : Sf rB) : Co (zc7 rB) := fun r x r' hv =>
 ze6 (zy zbo fun _ => zy h fun _ => zbS (zy h fun _ => zbi _) (zbi _)) (ze6 (zy zbo fun _ => zy h fun _ => zbi _) (zqY _)) r x r' hv
theorem zfh : ∀ n, Sf (sB n).1 ∧ Sf (sB n).2 ∧ Co (sB n).2
 | 0 => ⟨zdw, zdw, zh0⟩
 | n + 1 => by
  obtain ⟨h1, h2, h3⟩ := zfh n
  exact ⟨zy (zG _) fun _ => zgZ h2 _ _, zqt h1, zoM h1⟩
section
variable {T : List Tok} {S : List zl} {D : List zi} {r : List Tok} {k : Int} {tx : List BA}
theorem zlY {R : PS → Option (Except (Value × PS) (Stm × PS))} {rS : Ps Stm} (h1 : Sf rS) (h2 : Co rS) (hR : ∀ r, Suf T r → R (mkP T S D r) = cv T S D (rS r)) : ∀ (n : Nat) (l : List Stm) (r : List Tok), Suf T r → l.length + r.length ≤ 1000000 → zfX R n T ((T.length - r.length : Nat) : Int) S D l = cv T S D (zde rS n l r)
 | 0, l, r, hs, _ => rfl
 | n + 1, l, r, hs, hl => by
  show zhj (zfX R n) R T _ S D l = _
  unfold zhj zde
  refine zjT (C := cv T S D) (D := D) (S := S) hs (by simp) (fun r' _ => rfl) ?_
  refine zjS hs h1 (hR r hs) fun x r3 hs3 he => ?_
  have := h2 r x r3 he
  rw [zbO (by omega), Option.bind_some]
  have := zlY h1 h2 hR n (l ++ [x]) r3 hs3 (by simp; omega)
  cases x
  exact this
theorem zrt (s : Stm) : ze5 T ((T.length - r.length : Nat) : Int) S D s.Kind s.Line s.Name s.Field s.Call s.Type_.Kind s.Type_.N s.Type_.Name s.Kids s.Body s.Else = cv T S D (pu s r) := by
 cases s
 rfl
theorem P_B : ∀ (n : Nat) (r : List Tok), Suf T r → (zcw n).1 (mkP T S D r) = cv T S D ((sB n).1 r) ∧ (zcw n).2 (mkP T S D r) = cv T S D ((sB n).2 r)
 | 0, r, hs => ⟨rfl, rfl⟩
 | n + 1, r, hs => by
  have h1 := fun r hs => (P_B n r hs).1
  have h2 := fun r hs => (P_B n r hs).2
  obtain ⟨f1, f2, f3⟩ := zfh n
  refine ⟨?_, ?_⟩
  ·show zhu (zcw n).1 (zcw n).2 (mkP T S D r) = cv T S D (zgF (sB n).2 r)
   unfold zhu zgF
   refine zfk hs (zG _) (zcK hs (by simp)) fun r2 hs2 => ?_
   exact zlY f2 f3 h2 big [] r2 hs2 (by have := zb3 hs2; have := hs2.2; simp; omega)
  ·show zhc (zcw n).1 (zcw n).2 (mkP T S D r) = cv T S D (zc7 (sB n).1 r)
   unfold zhc zc7
   have hln : zeN (mkP T S D r) = some (zb9 r) := by rw [zlz hs]; cases r <;> rfl
   rw [hln, Option.bind_some]
   refine L_H (C := cv T S D) hs (by simp) (fun r2 hs2 => ?_) ?_
   ·refine zb8 hs2 zbo (zd7 hs2) fun x r3 hs3 => ?_
    refine zb8 hs3 f1 (h1 r3 hs3) fun b r4 hs4 => ?_
    refine L_H (C := cv T S D) hs4 (by simp) (fun r5 hs5 => ?_) ?_
    ·exact zb8 hs5 f1 (h1 r5 hs5) fun e r6 hs6 => by cases x; rfl
    ·cases x; rfl
   refine L_H (C := cv T S D) hs (by simp) (fun r2 hs2 => ?_) ?_
   ·refine zb8 hs2 zbo (zd7 hs2) fun x r3 hs3 => ?_
    exact zb8 hs3 f1 (h1 r3 hs3) fun b r4 hs4 => by cases x; rfl
   have eta : ∀ {p : Ps Stm}, bd p (fun x => pu x) = p := fun {p} => by
    funext r
    unfold bd pu
    cases p r with
    | none => rfl
    | some v => cases v <;> rfl
   rw [← eta (p := zdF _)]
   exact zq4 hs (zmw _) (zrd hs _) fun s r4 hs4 => zrt s
end
abbrev zev : Ps (List Stm) := (sB big).1
theorem zhy : Sf zev := (zfh big).1
theorem zoO {T : List Tok} {S : List zl} {D : List zi} {r : List Tok} (hs : Suf T r) : zkr (mkP T S D r) = cv T S D (zev r) := (P_B big r hs).1
def zdn : Ps zbh := bd zbQ fun n => bd (zdR true) fun t => pu ⟨n, t⟩
theorem zdl : Sf zdn := zy zbl fun _ => zy (zcQ _) fun _ => zbi _
def fL (nm : BA) : Nat → List BA → Ps zl
 | 0, _ => fun _ => none
 | n + 1, l => ifH 4 [⟨#[125]⟩] (pu ⟨nm, l⟩) (bd zbQ fun f => bd (tk 3 [⟨#[105, 110, 116]⟩]) fun _ => bd (zbu [⟨#[59]⟩]) fun _ => fL nm n (l ++ [f]))
def zdU : Ps zl := bd zbQ fun nm => bd (tk 3 [⟨#[115, 116, 114, 117, 99, 116]⟩]) fun _ => bd (zbu [⟨#[123]⟩]) fun _ => fL nm big []
def k9 (ln : Int) (nm : BA) (ps : List zbh) : Ps zi := bd (zdR false) fun t => bd zev fun b => pu ⟨nm, ln, ps, t, b⟩
def pL (ln : Int) (nm : BA) : Nat → List zbh → Ps zi
 | 0, _ => fun _ => none
 | n + 1, l => ifH 4 [⟨#[44]⟩] (bd zdn fun p => pL ln nm n (l ++ [p])) (bd (zbu [⟨#[41]⟩]) fun _ => k9 ln nm l)
def zdk : Ps zi := fun r => (bd (tk 3 [⟨#[102, 117, 110, 99]⟩]) fun _ => bd zbQ fun nm => bd (zbu [⟨#[40]⟩]) fun _ => ifH 4 [⟨#[41]⟩] (k9 (zb9 r) nm []) (bd zdn fun p => pL (zb9 r) nm big [p])) r
theorem ziP (nm : BA) : ∀ n l, Sf (fL nm n l)
 | 0, _ => zdw
 | n + 1, l => zbS (zbi _) (zy zbl fun _ => zy (zbC _ _) fun _ => zy (zG _) fun _ => ziP nm n _)
theorem zi2 : Sf zdU := zy zbl fun _ => zy (zbC _ _) fun _ => zy (zG _) fun _ => ziP _ _ _
theorem zf3 (ln : Int) (nm : BA) (ps : List zbh) : Sf (k9 ln nm ps) := zy (zcQ _) fun _ => zy zhy fun _ => zbi _
theorem zhM (ln : Int) (nm : BA) : ∀ n l, Sf (pL ln nm n l)
 | 0, _ => zdw
 | n + 1, l => zbS (zy zdl fun _ => zhM ln nm n _) (zy (zG _) fun _ => zf3 _ _ _)
theorem ziC : Sf zdk := fun r v h => zy (zbC _ _) (fun _ => zy zbl fun _ => zy (zG _) fun _ => zbS (zf3 _ _ _) (zy zdl fun _ => zhM _ _ _ _)) r v h
theorem zd2 : Co zbQ := zc6 (zft _ _) fun _ => zbi _
theorem zhb : Co zdU := zc6 zd2 fun _ => zy (zbC _ _) fun _ => zy (zG _) fun _ => ziP _ _ _
theorem zgP : Co zdk := fun r x r' h => zc6 (zft _ _) (fun _ => zy zbl fun _ => zy (zG _) fun _ => zbS (zf3 _ _ _) (zy zdl fun _ => zhM _ _ _ _)) r x r' h
def cS (T : List Tok) (S : List zl) (D : List zi) : Option (Rs zl) → Option (Except (Value × PS) PS)
 | none => none
 | some (.error r) => some (.error (mis, mkP T S D r))
 | some (.ok (x, r)) => some (.ok (mkP T (S ++ [x]) D r))
def cD (T : List Tok) (S : List zl) (D : List zi) : Option (Rs zi) → Option (Except (Value × PS) PS)
 | none => none
 | some (.error r) => some (.error (mis, mkP T S D r))
 | some (.ok (x, r)) => some (.ok (mkP T S (D ++ [x]) r))
section
variable {T : List Tok} {S : List zl} {D : List zi} {r : List Tok} {k : Int} {tx : List BA}
theorem zec {α β γ : Type} {p : Ps α} {f : α → Ps β} {C : Option (Rs β) → Option (Except (Value × PS) γ)} (hn : C none = none) (hc : ∀ e, C (some (.error e)) = some (.error (mis, mkP T S D e))) (hs : Suf T r) (hp : Sf p) {X : Option (Except (Value × PS) (α × PS))} (hX : X = cv T S D (p r)) {G : α × PS → Option (Except (Value × PS) γ)}
  (hG : ∀ x r', Suf T r' → p r = some (.ok (x, r')) → G (x, mkP T S D r') = C (f x r')) : zF X (fun x => some (.error (x.1, x.2))) G = C (bd p f r) := by
 subst hX
 unfold bd
 cases h : p r with
 | none => exact hn.symm
 | some v =>
  cases v with
  | error e => exact (hc e).symm
  | ok c => exact hG c.1 c.2 (hs.of (hp r _ h)) h
theorem zii {β γ : Type} {p : Ps Unit} {f : Unit → Ps β} {C : Option (Rs β) → Option (Except (Value × PS) γ)} (hn : C none = none) (hc : ∀ e, C (some (.error e)) = some (.error (mis, mkP T S D e))) (hs : Suf T r) (hp : Sf p) {X : Option (Except (Value × PS) PS)} (hX : X = cu T S D (p r)) {G : PS → Option (Except (Value × PS) γ)}
  (hG : ∀ r', Suf T r' → p r = some (.ok ((), r')) → G (mkP T S D r') = C (f () r')) : zF X (fun x => some (.error (x.1, x.2))) G = C (bd p f r) := by
 subst hX
 unfold bd
 cases h : p r with
 | none => exact hn.symm
 | some v =>
  cases v with
  | error e => exact (hc e).symm
  | ok c => exact hG c.2 (hs.of (hp r _ h)) h
theorem zmK (hs : Suf T r) : zga (mkP T S D r) = cv T S D (zdn r) := by
 unfold zga zdn
 refine zb8 hs zbl (zdx hs) fun n r2 hs2 => ?_
 exact zb8 hs2 (zcQ _) (zjh hs2 true) fun ty r3 hs3 => rfl
theorem zlG (c : BA × PS) : ∀ (n : Nat) (l : List BA) (r : List Tok), Suf T r → l.length + r.length ≤ 1000000 → S.length ≤ 1000000 → zf5 c n T ((T.length - r.length : Nat) : Int) S D l = cS T S D (fL c.1 n l r)
 | 0, l, r, hs, _, _ => rfl
 | n + 1, l, r, hs, hl, hS => by
  show zhf (zf5 c n) c T _ S D l = _
  unfold zhf fL
  refine zjT (C := cS T S D) (D := D) (S := S) hs (by simp) (fun r' _ => ?_) ?_
  ·show ((room (S.length + 1)).bind fun _ => _) = _
   rw [zbO (by omega), Option.bind_some]
   rfl
  refine zec (T := T) (S := S) (D := D) rfl (fun _ => rfl) hs zbl (zdx hs) fun f r2 hs2 he => ?_
  have h1 := zd2 r f r2 he
  rw [zbO (by simp; omega), Option.bind_some]
  refine zec (T := T) (S := S) (D := D) rfl (fun _ => rfl) hs2 (zbC _ _) (zd6 hs2 (by simp)) fun _ r3 hs3 he3 => ?_
  refine zii (T := T) (S := S) (D := D) rfl (fun _ => rfl) hs3 (zG _) (zcK hs3 (by simp)) fun r4 hs4 he4 => ?_
  have h3 := (zbC _ _).le he3
  have h4 := (zG _).le he4
  have h3 : r3.length ≤ r2.length := h3
  have h4 : r4.length ≤ r3.length := h4
  exact zlG c n (l ++ [f]) r4 hs4 (by simp; omega) hS
theorem zou (hs : Suf T r) (hS : S.length ≤ 1000000) : zhJ (mkP T S D r) = cS T S D (zdU r) := by
 unfold zhJ zdU
 refine zec (T := T) (S := S) (D := D) rfl (fun _ => rfl) hs zbl (zdx hs) fun nm r2 hs2 he => ?_
 refine zec (T := T) (S := S) (D := D) rfl (fun _ => rfl) hs2 (zbC _ _) (zd6 hs2 (by simp)) fun _ r3 hs3 he3 => ?_
 refine zii (T := T) (S := S) (D := D) rfl (fun _ => rfl) hs3 (zG _) (zcK hs3 (by simp)) fun r4 hs4 he4 => ?_
 exact zlG (nm, mkP T S D r2) big [] r4 hs4 (by have := zb3 hs4; have := hs4.2; simp; omega) hS
theorem zmZ (ln : Int) (c : BA × PS) (l : List zbh) (hs : Suf T r) (hD : D.length ≤ 1000000) : zf0 ln c T ((T.length - r.length : Nat) : Int) S D l = cD T S D (k9 ln c.1 l r) := by
 unfold zf0 k9
 refine zec (T := T) (S := S) (D := D) rfl (fun _ => rfl) hs (zcQ _) (zjh hs false) fun t r2 hs2 he => ?_
 refine zec (T := T) (S := S) (D := D) rfl (fun _ => rfl) hs2 zhy (zoO hs2) fun b r3 hs3 he3 => ?_
 show ((room (D.length + 1)).bind fun _ => _) = _
 rw [zbO (by omega), Option.bind_some]
 rfl
theorem znN (ln : Int) (c : BA × PS) : ∀ (n : Nat) (l : List zbh) (r : List Tok), Suf T r → l.length + r.length ≤ 1000001 → D.length ≤ 1000000 → zf4 ln c n T ((T.length - r.length : Nat) : Int) S D l = cD T S D (pL ln c.1 n l r)
 | 0, l, r, hs, _, _ => rfl
 | n + 1, l, r, hs, hl, hD => by
  show zgi (zf4 ln c n) ln c T _ S D l = _
  unfold zgi pL
  show ((zbK (mkP T S D r) 4 _).bind _) = _
  rw [zfD hs (by simp), Option.bind_some]
  unfold ifH
  cases h : zz 4 [⟨#[44]⟩] r with
  | true =>
   cases r with
   | nil => cases h
   | cons t r =>
    rw [if_pos rfl, if_pos rfl, if_pos rfl]
    refine zec (T := T) (S := S) (D := D) rfl (fun _ => rfl) hs.tail zdl (zmK hs.tail) fun x r3 hs3 he => ?_
    have := zdl.le he
    have : r3.length ≤ r.length := this
    simp only [List.length_cons] at hl
    rw [zbO (by simp; omega), Option.bind_some]
    exact znN ln c n (l ++ [x]) r3 hs3 (by simp; omega) hD
  | false =>
   rw [if_neg (by simp), if_neg (by simp), if_neg (by simp)]
   exact zii (T := T) (S := S) (D := D) rfl (fun _ => rfl) hs (zG _) (zcK hs (by simp)) fun r4 hs4 _ => zmZ ln c l hs4 hD
theorem zqG (hs : Suf T r) (hD : D.length ≤ 1000000) : zgo (mkP T S D r) = cD T S D (zdk r) := by
 unfold zgo zdk
 have hln : zeN (mkP T S D r) = some (zb9 r) := by rw [zlz hs]; cases r <;> rfl
 rw [hln, Option.bind_some]
 refine zec (T := T) (S := S) (D := D) rfl (fun _ => rfl) hs (zbC _ _) (zd6 hs (by simp)) fun _ r2 hs2 he2 => ?_
 refine zec (T := T) (S := S) (D := D) rfl (fun _ => rfl) hs2 zbl (zdx hs2) fun nm r3 hs3 he3 => ?_
 refine zii (T := T) (S := S) (D := D) rfl (fun _ => rfl) hs3 (zG _) (zcK hs3 (by simp)) fun r4 hs4 he4 => ?_
 refine zjT (C := cD T S D) (D := D) (S := S) hs4 (by simp) (fun r5 hs5 => ?_) ?_
 ·exact zmZ (zb9 r) (nm, mkP T S D r3) [] hs5 hD
 refine zec (T := T) (S := S) (D := D) rfl (fun _ => rfl) hs4 zdl (zmK hs4) fun x r5 hs5 he5 => ?_
 have := zb3 hs5
 have := hs5.2
 rw [zbO (by simp), Option.bind_some]
 exact znN (zb9 r) (nm, mkP T S D r3) big [x] r5 hs5 (by simp; omega) hD
end
def wL : Nat → List zl → List zi → List Tok → Option (Except (List Tok) (List zl × List zi))
 | 0, _, _, _ => none
 | _ + 1, S, D, [] => some (.ok (S, D))
 | n + 1, S, D, t :: r => if zz 3 [⟨#[116, 121, 112, 101]⟩] (t :: r) = true then (match zdU r with
   | none => none
   | some (.error e) => some (.error e)
   | some (.ok (x, r')) => wL n (S ++ [x]) D r')
  else (match zdk (t :: r) with
   | none => none
   | some (.error e) => some (.error e)
   | some (.ok (x, r')) => wL n S (D ++ [x]) r')
def cW (T : List Tok) (S : List zl) (D : List zi) : Option (Except (List Tok) (List zl × List zi)) → Option (Except (Int × Value) (List zl × List zi × Bool))
 | none => none
 | some (.error e) => some (.error (((T.length - e.length : Nat) : Int), mis))
 | some (.ok x) => some (.ok (x.1, x.2, true))
def wR (T : List Tok) : Option (Except (Value × PS × Bool) (PS × Bool)) → Option (Except (Int × Value) (List zl × List zi × Bool))
 | none => none
 | some (.error x) => some (.error (x.2.1.cursor.at_, x.1))
 | some (.ok c) => some (.ok (c.1.prog.Structs, c.1.prog.Funcs, c.2))
theorem zi8 {T : List Tok} : ∀ (n : Nat) (S : List zl) (D : List zi) (r : List Tok), Suf T r → S.length + D.length + r.length ≤ 1000000 → wR T (zeo false n T ((T.length - r.length : Nat) : Int) S D) = cW T S D (wL n S D r)
 | 0, S, D, r, hs, _ => rfl
 | n + 1, S, D, [], hs, _ => by
  show wR T (zfg (zeo false n) false T _ S D) = _
  unfold zfg
  rw [if_neg (by simp)]
  rfl
 | n + 1, S, D, t :: r, hs, hl => by
  show wR T (zfg (zeo false n) false T _ S D) = _
  unfold zfg wL
  have h0 := zb3 hs
  simp only [List.length_cons] at hl h0
  rw [if_pos (zbx (by simp; omega))]
  show wR T ((zbK (mkP T S D (t :: r)) 3 _).bind _) = _
  rw [zfD hs (by simp), Option.bind_some]
  cases h : zz 3 [⟨#[116, 121, 112, 101]⟩] (t :: r) with
  | true =>
   rw [if_pos rfl, if_pos rfl, if_pos rfl]
   dsimp only [List.tail_cons]
   rw [zou hs.tail (by omega)]
   cases he : zdU r with
   | none => rfl
   | some v =>
    cases v with
    | error e => rfl
    | ok c =>
     obtain ⟨x, r'⟩ := c
     have := zhb r x r' he
     have := zi8 n (S ++ [x]) D r' (hs.tail.of (zi2 r _ he)) (by simp; omega)
     refine this.trans ?_
     dsimp only
     cases wL n (S ++ [x]) D r' with
     | none => rfl
     | some v => cases v <;> rfl
  | false =>
   rw [if_neg (by simp), if_neg (by simp), if_neg (by simp)]
   dsimp only
   rw [zqG hs (by omega)]
   cases he : zdk (t :: r) with
   | none => rfl
   | some v =>
    cases v with
    | error e => rfl
    | ok c =>
     obtain ⟨x, r'⟩ := c
     have := zgP (t :: r) x r' he
     simp only [List.length_cons] at this
     have := zi8 n S (D ++ [x]) r' (hs.of (ziC _ _ he)) (by simp; omega)
     refine this.trans ?_
     dsimp only
     cases wL n S (D ++ [x]) r' with
     | none => rfl
     | some v => cases v <;> rfl
def zc1 (T : List Tok) : Option (Except (List Tok) (List zl × List zi)) := wL big [] [] T
theorem zn7 {T : List Tok} (hT : T.length ≤ 1000000) : zdM T = (zc1 T).bind fun v => match v with
  | .error e => some ((⟨[], []⟩ : zL), ((T.length - e.length : Nat) : Int), (7 : Int))
  | .ok (S, D) => (zfM D).bind fun c => if c = true then some ((⟨[], []⟩ : zL), (0 : Int), (11 : Int)) else some ((⟨S, D⟩ : zL), (0 : Int), (0 : Int)) := by
 unfold zdM zit zgT
 dsimp only
 have h := zi8 (T := T) big [] [] T ⟨⟨[], rfl⟩, hT⟩ (by simpa using hT)
 rw [Nat.sub_self] at h
 have h : wR T (zeo false big T 0 [] []) = cW T [] [] (zc1 T) := h
 cases hw : zeo false big T 0 [] [] with
 | none =>
  rw [hw] at h
  cases hp : zc1 T with
  | none => rfl
  | some v => rw [hp] at h; cases v <;> cases h
 | some v =>
  rw [hw] at h
  cases v with
  | error x =>
   cases hp : zc1 T with
   | none => rw [hp] at h; cases h
   | some v =>
    rw [hp] at h
    cases v with
    | ok c => cases h
    | error e =>
     injection h with h
     injection h with h
     injection h with h1 h2
     dsimp only [Option.bind_some]
     rw [h2, if_pos (show zgW mis = true from by decide)]
     show some ((⟨[], []⟩ : zL), x.2.1.cursor.at_, (7 : Int)) = _
     rw [h1]
  | ok x =>
   obtain ⟨x, b⟩ := x
   cases hp : zc1 T with
   | none => rw [hp] at h; cases h
   | some v =>
    rw [hp] at h
    cases v with
    | error e => cases h
    | ok c =>
     obtain ⟨S, D⟩ := c
     injection h with h
     injection h with h
     injection h with h1 h
     injection h with h2 h3
     dsimp only at h1 h2 h3
     subst h1; subst h2; subst h3
     rfl
end Go.Proofs.Ytnhboaaikehpoaa
