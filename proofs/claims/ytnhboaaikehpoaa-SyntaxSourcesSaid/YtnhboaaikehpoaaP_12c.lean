import Derived.Test.YtnhboaaikehpoaaP_12b
import Derived.KernelRfl
namespace Go.Proofs.Ytnhboaaikehpoaa
open Go.Ab Go.RowKit
set_option linter.unusedVariables false
set_option linter.unusedSimpArgs false
abbrev Stm := zh
def zb7 : List Tok → Int
 | [] => 0
 | t :: _ => t.Line
def zdJ (rS : Ps Stm) : Nat → List Stm → Ps (List Stm)
 | 0, _ => fun _ => none
 | n + 1, l => ifH 4 [⟨#[125]⟩] (pu l) (bd rS fun s => zdJ rS n (l ++ [s]))
def zhY (rS : Ps Stm) : Ps (List Stm) := bd (zbs [⟨#[123]⟩]) fun _ => zdJ rS big []
def zdk (rB : Ps (List Stm)) : Ps Stm := fun r =>
 ifH 3 [⟨#[105, 102]⟩] (bd zb5 fun x => bd rB fun b => ifH 3 [⟨#[101, 108, 115, 101]⟩] (bd rB fun e => pu ⟨6, zb7 r, ⟨#[]⟩, ⟨#[]⟩, ⟨#[]⟩, ⟨0, 0, ⟨#[]⟩⟩, [x], b, e⟩) (pu ⟨6, zb7 r, ⟨#[]⟩, ⟨#[]⟩, ⟨#[]⟩, ⟨0, 0, ⟨#[]⟩⟩, [x], b, []⟩))
 (ifH 3 [⟨#[102, 111, 114]⟩] (bd zb5 fun x => bd rB fun b => pu ⟨7, zb7 r, ⟨#[]⟩, ⟨#[]⟩, ⟨#[]⟩, ⟨0, 0, ⟨#[]⟩⟩, [x], b, []⟩)
 (zeh ⟨0, zb7 r, ⟨#[]⟩, ⟨#[]⟩, ⟨#[]⟩, ⟨0, 0, ⟨#[]⟩⟩, [], [], []⟩)) r
def sB : Nat → Ps (List Stm) × Ps Stm
 | 0 => (fun _ => none, fun _ => none)
 | n + 1 => (zhY (sB n).2, zdk (sB n).1)
theorem zkV {rS : Ps Stm} (h : Sf rS) : ∀ n l, Sf (zdJ rS n l)
 | 0, _ => zdy
 | n + 1, l => zbZ (zbx _) (zH h fun _ => zkV h n _)
theorem zpS {rB : Ps (List Stm)} (h : Sf rB) : Sf (zdk rB) := fun r v hv =>
 zbZ (zH zbq fun _ => zH h fun _ => zbZ (zH h fun _ => zbx _) (zbx _)) (zbZ (zH zbq fun _ => zH h fun _ => zbx _) (zl1 _)) r v hv
theorem zny {rB : Ps (List Stm)} (h : Sf rB) : Co (zdk rB) := fun r x r' hv =>
 zhq (zH zbq fun _ => zH h fun _ => zbZ (zH h fun _ => zbx _) (zbx _)) (zhq (zH zbq fun _ => zH h fun _ => zbx _) (znL _)) r x r' hv
theorem zhw : ∀ n, Sf (sB n).1 ∧ Sf (sB n).2 ∧ Co (sB n).2
 | 0 => ⟨zdy, zdy, zor⟩
 | n + 1 => by
  obtain ⟨h1, h2, h3⟩ := zhw n
  exact ⟨zH (zK _) fun _ => zkV h2 _ _, zpS h1, zny h1⟩
section
variable {T : List Tok} {S : List zw} {D : List zo} {r : List Tok} {k : Int} {tx : List BA}
theorem zmV {R : PS → Option (Except (Value × PS) (Stm × PS))} {rS : Ps Stm} (h1 : Sf rS) (h2 : Co rS) (hR : ∀ r, Suf T r → R (mkP T S D r) = cv T S D (rS r)) : ∀ (n : Nat) (l : List Stm) (r : List Tok), Suf T r → l.length + r.length ≤ 1000000 → zfU R n T ((T.length - r.length : Nat) : Int) S D l = cv T S D (zdJ rS n l r)
 | 0, l, r, hs, _ => rfl
 | n + 1, l, r, hs, hl => by
  show zgH (zfU R n) R T _ S D l = _
  unfold zgH zdJ
  refine zjE (C := cv T S D) (D := D) (S := S) hs (by simp) (fun r' _ => rfl) ?_
  refine zkn hs h1 (hR r hs) fun x r3 hs3 he => ?_
  have := h2 r x r3 he
  rw [zbY (by omega), Option.bind_some]
  have := zmV h1 h2 hR n (l ++ [x]) r3 hs3 (by simp; omega)
  cases x
  exact this
theorem zpZ (s : Stm) : zfH T ((T.length - r.length : Nat) : Int) S D s.Kind s.Line s.Name s.Field s.Call s.Type_.Kind s.Type_.N s.Type_.Name s.Kids s.Body s.Else = cv T S D (pu s r) := by
 cases s
 rfl
theorem P_B : ∀ (n : Nat) (r : List Tok), Suf T r → (zcq n).1 (mkP T S D r) = cv T S D ((sB n).1 r) ∧ (zcq n).2 (mkP T S D r) = cv T S D ((sB n).2 r)
 | 0, r, hs => ⟨rfl, rfl⟩
 | n + 1, r, hs => by
  have h1 := fun r hs => (P_B n r hs).1
  have h2 := fun r hs => (P_B n r hs).2
  obtain ⟨f1, f2, f3⟩ := zhw n
  refine ⟨?_, ?_⟩
  ·show zgA (zcq n).1 (zcq n).2 (mkP T S D r) = cv T S D (zhY (sB n).2 r)
   unfold zgA zhY
   refine zfw hs (zK _) (zcJ hs (by simp)) fun r2 hs2 => ?_
   exact zmV f2 f3 h2 big [] r2 hs2 (by have := zbW hs2; have := hs2.2; simp; omega)
  ·show zhM (zcq n).1 (zcq n).2 (mkP T S D r) = cv T S D (zdk (sB n).1 r)
   unfold zhM zdk
   have hln : zey (mkP T S D r) = some (zb7 r) := by rw [zmR hs]; cases r <;> rfl
   rw [hln, Option.bind_some]
   refine L_H (C := cv T S D) hs (by simp) (fun r2 hs2 => ?_) ?_
   ·refine zb2 hs2 zbq (zdM hs2) fun x r3 hs3 => ?_
    refine zb2 hs3 f1 (h1 r3 hs3) fun b r4 hs4 => ?_
    refine L_H (C := cv T S D) hs4 (by simp) (fun r5 hs5 => ?_) ?_
    ·exact zb2 hs5 f1 (h1 r5 hs5) fun e r6 hs6 => by cases x; rfl
    ·cases x; rfl
   refine L_H (C := cv T S D) hs (by simp) (fun r2 hs2 => ?_) ?_
   ·refine zb2 hs2 zbq (zdM hs2) fun x r3 hs3 => ?_
    exact zb2 hs3 f1 (h1 r3 hs3) fun b r4 hs4 => by cases x; rfl
   have eta : ∀ {p : Ps Stm}, bd p (fun x => pu x) = p := fun {p} => by
    funext r
    unfold bd pu
    cases p r with
    | none => rfl
    | some v => cases v <;> rfl
   rw [← eta (p := zeh _)]
   exact zoB hs (zl1 _) (zpT hs _) fun s r4 hs4 => zpZ s
end
abbrev ze7 : Ps (List Stm) := (sB big).1
theorem zhJ : Sf ze7 := (zhw big).1
theorem zpf {T : List Tok} {S : List zw} {D : List zo} {r : List Tok} (hs : Suf T r) : zjB (mkP T S D r) = cv T S D (ze7 r) := (P_B big r hs).1
def zdi : Ps zbc := bd zbU fun n => bd (zdR true) fun t => pu ⟨n, t⟩
theorem zdK : Sf zdi := zH zbo fun _ => zH (zcR _) fun _ => zbx _
def fL (nm : BA) : Nat → List BA → Ps zw
 | 0, _ => fun _ => none
 | n + 1, l => ifH 4 [⟨#[125]⟩] (pu ⟨nm, l⟩) (bd zbU fun f => bd (tk 3 [⟨#[105, 110, 116]⟩]) fun _ => bd (zbs [⟨#[59]⟩]) fun _ => fL nm n (l ++ [f]))
def zdZ : Ps zw := bd zbU fun nm => bd (tk 3 [⟨#[115, 116, 114, 117, 99, 116]⟩]) fun _ => bd (zbs [⟨#[123]⟩]) fun _ => fL nm big []
def k9 (ln : Int) (nm : BA) (ps : List zbc) : Ps zo := bd (zdR false) fun t => bd ze7 fun b => pu ⟨nm, ln, ps, t, b⟩
def pL (ln : Int) (nm : BA) : Nat → List zbc → Ps zo
 | 0, _ => fun _ => none
 | n + 1, l => ifH 4 [⟨#[44]⟩] (bd zdi fun p => pL ln nm n (l ++ [p])) (bd (zbs [⟨#[41]⟩]) fun _ => k9 ln nm l)
def zdL : Ps zo := fun r => (bd (tk 3 [⟨#[102, 117, 110, 99]⟩]) fun _ => bd zbU fun nm => bd (zbs [⟨#[40]⟩]) fun _ => ifH 4 [⟨#[41]⟩] (k9 (zb7 r) nm []) (bd zdi fun p => pL (zb7 r) nm big [p])) r
theorem zja (nm : BA) : ∀ n l, Sf (fL nm n l)
 | 0, _ => zdy
 | n + 1, l => zbZ (zbx _) (zH zbo fun _ => zH (zbD _ _) fun _ => zH (zK _) fun _ => zja nm n _)
theorem zlX : Sf zdZ := zH zbo fun _ => zH (zbD _ _) fun _ => zH (zK _) fun _ => zja _ _ _
theorem zic (ln : Int) (nm : BA) (ps : List zbc) : Sf (k9 ln nm ps) := zH (zcR _) fun _ => zH zhJ fun _ => zbx _
theorem ziJ (ln : Int) (nm : BA) : ∀ n l, Sf (pL ln nm n l)
 | 0, _ => zdy
 | n + 1, l => zbZ (zH zdK fun _ => ziJ ln nm n _) (zH (zK _) fun _ => zic _ _ _)
theorem zmj : Sf zdL := fun r v h => zH (zbD _ _) (fun _ => zH zbo fun _ => zH (zK _) fun _ => zbZ (zic _ _ _) (zH zdK fun _ => ziJ _ _ _ _)) r v h
theorem zer : Co zbU := zeY (ze9 _ _) fun _ => zbx _
theorem zgy : Co zdZ := zeY zer fun _ => zH (zbD _ _) fun _ => zH (zK _) fun _ => zja _ _ _
theorem zg7 : Co zdL := fun r x r' h => zeY (ze9 _ _) (fun _ => zH zbo fun _ => zH (zK _) fun _ => zbZ (zic _ _ _) (zH zdK fun _ => ziJ _ _ _ _)) r x r' h
def cS (T : List Tok) (S : List zw) (D : List zo) : Option (Rs zw) → Option (Except (Value × PS) PS)
 | none => none
 | some (.error r) => some (.error (mis, mkP T S D r))
 | some (.ok (x, r)) => some (.ok (mkP T (S ++ [x]) D r))
def cD (T : List Tok) (S : List zw) (D : List zo) : Option (Rs zo) → Option (Except (Value × PS) PS)
 | none => none
 | some (.error r) => some (.error (mis, mkP T S D r))
 | some (.ok (x, r)) => some (.ok (mkP T S (D ++ [x]) r))
section
variable {T : List Tok} {S : List zw} {D : List zo} {r : List Tok} {k : Int} {tx : List BA}
theorem zd5 {α β γ : Type} {p : Ps α} {f : α → Ps β} {C : Option (Rs β) → Option (Except (Value × PS) γ)} (hn : C none = none) (hc : ∀ e, C (some (.error e)) = some (.error (mis, mkP T S D e))) (hs : Suf T r) (hp : Sf p) {X : Option (Except (Value × PS) (α × PS))} (hX : X = cv T S D (p r)) {G : α × PS → Option (Except (Value × PS) γ)}
  (hG : ∀ x r', Suf T r' → p r = some (.ok (x, r')) → G (x, mkP T S D r') = C (f x r')) : zG X (fun x => some (.error (x.1, x.2))) G = C (bd p f r) := by
 subst hX
 unfold bd
 cases h : p r with
 | none => exact hn.symm
 | some v =>
  cases v with
  | error e => exact (hc e).symm
  | ok c => exact hG c.1 c.2 (hs.of (hp r _ h)) h
theorem ziz {β γ : Type} {p : Ps Unit} {f : Unit → Ps β} {C : Option (Rs β) → Option (Except (Value × PS) γ)} (hn : C none = none) (hc : ∀ e, C (some (.error e)) = some (.error (mis, mkP T S D e))) (hs : Suf T r) (hp : Sf p) {X : Option (Except (Value × PS) PS)} (hX : X = cu T S D (p r)) {G : PS → Option (Except (Value × PS) γ)}
  (hG : ∀ r', Suf T r' → p r = some (.ok ((), r')) → G (mkP T S D r') = C (f () r')) : zG X (fun x => some (.error (x.1, x.2))) G = C (bd p f r) := by
 subst hX
 unfold bd
 cases h : p r with
 | none => exact hn.symm
 | some v =>
  cases v with
  | error e => exact (hc e).symm
  | ok c => exact hG c.2 (hs.of (hp r _ h)) h
theorem zkU (hs : Suf T r) : zgc (mkP T S D r) = cv T S D (zdi r) := by
 unfold zgc zdi
 refine zb2 hs zbo (zdh hs) fun n r2 hs2 => ?_
 exact zb2 hs2 (zcR _) (zkc hs2 true) fun ty r3 hs3 => rfl
theorem zli (c : BA × PS) : ∀ (n : Nat) (l : List BA) (r : List Tok), Suf T r → l.length + r.length ≤ 1000000 → S.length ≤ 1000000 → zge c n T ((T.length - r.length : Nat) : Int) S D l = cS T S D (fL c.1 n l r)
 | 0, l, r, hs, _, _ => rfl
 | n + 1, l, r, hs, hl, hS => by
  show zh5 (zge c n) c T _ S D l = _
  unfold zh5 fL
  refine zjE (C := cS T S D) (D := D) (S := S) hs (by simp) (fun r' _ => ?_) ?_
  ·show ((room (S.length + 1)).bind fun _ => _) = _
   rw [zbY (by omega), Option.bind_some]
   rfl
  refine zd5 (T := T) (S := S) (D := D) rfl (fun _ => rfl) hs zbo (zdh hs) fun f r2 hs2 he => ?_
  have h1 := zer r f r2 he
  rw [zbY (by simp; omega), Option.bind_some]
  refine zd5 (T := T) (S := S) (D := D) rfl (fun _ => rfl) hs2 (zbD _ _) (zdQ hs2 (by simp)) fun _ r3 hs3 he3 => ?_
  refine ziz (T := T) (S := S) (D := D) rfl (fun _ => rfl) hs3 (zK _) (zcJ hs3 (by simp)) fun r4 hs4 he4 => ?_
  have h3 := (zbD _ _).le he3
  have h4 := (zK _).le he4
  have h3 : r3.length ≤ r2.length := h3
  have h4 : r4.length ≤ r3.length := h4
  exact zli c n (l ++ [f]) r4 hs4 (by simp; omega) hS
theorem zoO (hs : Suf T r) (hS : S.length ≤ 1000000) : zgV (mkP T S D r) = cS T S D (zdZ r) := by
 unfold zgV zdZ
 refine zd5 (T := T) (S := S) (D := D) rfl (fun _ => rfl) hs zbo (zdh hs) fun nm r2 hs2 he => ?_
 refine zd5 (T := T) (S := S) (D := D) rfl (fun _ => rfl) hs2 (zbD _ _) (zdQ hs2 (by simp)) fun _ r3 hs3 he3 => ?_
 refine ziz (T := T) (S := S) (D := D) rfl (fun _ => rfl) hs3 (zK _) (zcJ hs3 (by simp)) fun r4 hs4 he4 => ?_
 exact zli (nm, mkP T S D r2) big [] r4 hs4 (by have := zbW hs4; have := hs4.2; simp; omega) hS
theorem zms (ln : Int) (c : BA × PS) (l : List zbc) (hs : Suf T r) (hD : D.length ≤ 1000000) : zfQ ln c T ((T.length - r.length : Nat) : Int) S D l = cD T S D (k9 ln c.1 l r) := by
 unfold zfQ k9
 refine zd5 (T := T) (S := S) (D := D) rfl (fun _ => rfl) hs (zcR _) (zkc hs false) fun t r2 hs2 he => ?_
 refine zd5 (T := T) (S := S) (D := D) rfl (fun _ => rfl) hs2 zhJ (zpf hs2) fun b r3 hs3 he3 => ?_
 show ((room (D.length + 1)).bind fun _ => _) = _
 rw [zbY (by omega), Option.bind_some]
 rfl
theorem zmw (ln : Int) (c : BA × PS) : ∀ (n : Nat) (l : List zbc) (r : List Tok), Suf T r → l.length + r.length ≤ 1000001 → D.length ≤ 1000000 → zfW ln c n T ((T.length - r.length : Nat) : Int) S D l = cD T S D (pL ln c.1 n l r)
 | 0, l, r, hs, _, _ => rfl
 | n + 1, l, r, hs, hl, hD => by
  show zgS (zfW ln c n) ln c T _ S D l = _
  unfold zgS pL
  show ((zbJ (mkP T S D r) 4 _).bind _) = _
  rw [zf0 hs (by simp), Option.bind_some]
  unfold ifH
  cases h : zI 4 [⟨#[44]⟩] r with
  | true =>
   cases r with
   | nil => cases h
   | cons t r =>
    rw [if_pos rfl, if_pos rfl, if_pos rfl]
    refine zd5 (T := T) (S := S) (D := D) rfl (fun _ => rfl) hs.tail zdK (zkU hs.tail) fun x r3 hs3 he => ?_
    have := zdK.le he
    have : r3.length ≤ r.length := this
    simp only [List.length_cons] at hl
    rw [zbY (by simp; omega), Option.bind_some]
    exact zmw ln c n (l ++ [x]) r3 hs3 (by simp; omega) hD
  | false =>
   rw [if_neg (by simp), if_neg (by simp), if_neg (by simp)]
   exact ziz (T := T) (S := S) (D := D) rfl (fun _ => rfl) hs (zK _) (zcJ hs (by simp)) fun r4 hs4 _ => zms ln c l hs4 hD
theorem zpA (hs : Suf T r) (hD : D.length ≤ 1000000) : zhu (mkP T S D r) = cD T S D (zdL r) := by
 unfold zhu zdL
 have hln : zey (mkP T S D r) = some (zb7 r) := by rw [zmR hs]; cases r <;> rfl
 rw [hln, Option.bind_some]
 refine zd5 (T := T) (S := S) (D := D) rfl (fun _ => rfl) hs (zbD _ _) (zdQ hs (by simp)) fun _ r2 hs2 he2 => ?_
 refine zd5 (T := T) (S := S) (D := D) rfl (fun _ => rfl) hs2 zbo (zdh hs2) fun nm r3 hs3 he3 => ?_
 refine ziz (T := T) (S := S) (D := D) rfl (fun _ => rfl) hs3 (zK _) (zcJ hs3 (by simp)) fun r4 hs4 he4 => ?_
 refine zjE (C := cD T S D) (D := D) (S := S) hs4 (by simp) (fun r5 hs5 => ?_) ?_
 ·exact zms (zb7 r) (nm, mkP T S D r3) [] hs5 hD
 refine zd5 (T := T) (S := S) (D := D) rfl (fun _ => rfl) hs4 zdK (zkU hs4) fun x r5 hs5 he5 => ?_
 have := zbW hs5
 have := hs5.2
 rw [zbY (by simp), Option.bind_some]
 exact zmw (zb7 r) (nm, mkP T S D r3) big [x] r5 hs5 (by simp; omega) hD
end
def wL : Nat → List zw → List zo → List Tok → Option (Except (List Tok) (List zw × List zo))
 | 0, _, _, _ => none
 | _ + 1, S, D, [] => some (.ok (S, D))
 | n + 1, S, D, t :: r => if zI 3 [⟨#[116, 121, 112, 101]⟩] (t :: r) = true then (match zdZ r with
   | none => none
   | some (.error e) => some (.error e)
   | some (.ok (x, r')) => wL n (S ++ [x]) D r')
  else (match zdL (t :: r) with
   | none => none
   | some (.error e) => some (.error e)
   | some (.ok (x, r')) => wL n S (D ++ [x]) r')
def cW (T : List Tok) (S : List zw) (D : List zo) : Option (Except (List Tok) (List zw × List zo)) → Option (Except (Int × Value) (List zw × List zo × Bool))
 | none => none
 | some (.error e) => some (.error (((T.length - e.length : Nat) : Int), mis))
 | some (.ok x) => some (.ok (x.1, x.2, true))
def wR (T : List Tok) : Option (Except (Value × PS × Bool) (PS × Bool)) → Option (Except (Int × Value) (List zw × List zo × Bool))
 | none => none
 | some (.error x) => some (.error (x.2.1.cursor.at_, x.1))
 | some (.ok c) => some (.ok (c.1.prog.Structs, c.1.prog.Funcs, c.2))
theorem zjJ {T : List Tok} : ∀ (n : Nat) (S : List zw) (D : List zo) (r : List Tok), Suf T r → S.length + D.length + r.length ≤ 1000000 → wR T (zea false n T ((T.length - r.length : Nat) : Int) S D) = cW T S D (wL n S D r)
 | 0, S, D, r, hs, _ => rfl
 | n + 1, S, D, [], hs, _ => by
  show wR T (ze1 (zea false n) false T _ S D) = _
  unfold ze1
  rw [if_neg (by simp)]
  rfl
 | n + 1, S, D, t :: r, hs, hl => by
  show wR T (ze1 (zea false n) false T _ S D) = _
  unfold ze1 wL
  have h0 := zbW hs
  simp only [List.length_cons] at hl h0
  rw [if_pos (zbe (by simp; omega))]
  show wR T ((zbJ (mkP T S D (t :: r)) 3 _).bind _) = _
  rw [zf0 hs (by simp), Option.bind_some]
  cases h : zI 3 [⟨#[116, 121, 112, 101]⟩] (t :: r) with
  | true =>
   rw [if_pos rfl, if_pos rfl, if_pos rfl]
   dsimp only [List.tail_cons]
   rw [zoO hs.tail (by omega)]
   cases he : zdZ r with
   | none => rfl
   | some v =>
    cases v with
    | error e => rfl
    | ok c =>
     obtain ⟨x, r'⟩ := c
     have := zgy r x r' he
     have := zjJ n (S ++ [x]) D r' (hs.tail.of (zlX r _ he)) (by simp; omega)
     refine this.trans ?_
     dsimp only
     cases wL n (S ++ [x]) D r' with
     | none => rfl
     | some v => cases v <;> rfl
  | false =>
   rw [if_neg (by simp), if_neg (by simp), if_neg (by simp)]
   dsimp only
   rw [zpA hs (by omega)]
   cases he : zdL (t :: r) with
   | none => rfl
   | some v =>
    cases v with
    | error e => rfl
    | ok c =>
     obtain ⟨x, r'⟩ := c
     have := zg7 (t :: r) x r' he
     simp only [List.length_cons] at this
     have := zjJ n S (D ++ [x]) r' (hs.of (zmj _ _ he)) (by simp; omega)
     refine this.trans ?_
     dsimp only
     cases wL n S (D ++ [x]) r' with
     | none => rfl
     | some v => cases v <;> rfl
def zds (T : List Tok) : Option (Except (List Tok) (List zw × List zo)) := wL big [] [] T
theorem zqU {T : List Tok} (hT : T.length ≤ 1000000) : zd9 T = (zds T).bind fun v => match v with
  | .error e => some ((⟨[], []⟩ : zO), ((T.length - e.length : Nat) : Int), (7 : Int))
  | .ok (S, D) => (zfT D).bind fun c => if c = true then some ((⟨[], []⟩ : zO), (0 : Int), (11 : Int)) else some ((⟨S, D⟩ : zO), (0 : Int), (0 : Int)) := by
 unfold zd9 ziO zhm
 dsimp only
 have h := zjJ (T := T) big [] [] T ⟨⟨[], rfl⟩, hT⟩ (by simpa using hT)
 rw [Nat.sub_self] at h
 have h : wR T (zea false big T 0 [] []) = cW T [] [] (zds T) := h
 cases hw : zea false big T 0 [] [] with
 | none =>
  rw [hw] at h
  cases hp : zds T with
  | none => rfl
  | some v => rw [hp] at h; cases v <;> cases h
 | some v =>
  rw [hw] at h
  cases v with
  | error x =>
   cases hp : zds T with
   | none => rw [hp] at h; cases h
   | some v =>
    rw [hp] at h
    cases v with
    | ok c => cases h
    | error e =>
     injection h with h
     injection h with h
     injection h with h1 h2
     dsimp only [Option.bind_some]
     rw [h2, if_pos (show zgU mis = true from by decide)]
     show some ((⟨[], []⟩ : zO), x.2.1.cursor.at_, (7 : Int)) = _
     rw [h1]
  | ok x =>
   obtain ⟨x, b⟩ := x
   cases hp : zds T with
   | none => rw [hp] at h; cases h
   | some v =>
    rw [hp] at h
    cases v with
    | error e => cases h
    | ok c =>
     obtain ⟨S, D⟩ := c
     injection h with h
     injection h with h
     injection h with h1 h
     injection h with h2 h3
     dsimp only at h1 h2 h3
     subst h1; subst h2; subst h3
     rfl
end Go.Proofs.Ytnhboaaikehpoaa
