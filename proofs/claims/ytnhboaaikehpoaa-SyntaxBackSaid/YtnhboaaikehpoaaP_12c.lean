import Derived.Test.YtnhboaaikehpoaaP_12b
import Derived.KernelRfl
namespace Go.Proofs.Ytnhboaaikehpoaa
open Go.Ab Go.RowKit
set_option linter.unusedVariables false
set_option linter.unusedSimpArgs false
abbrev Stm := zh
def zdZ : List Tok → Int
 | [] => 0
 | t :: _ => t.Line
def zdo (rS : Ps Stm) : Nat → List Stm → Ps (List Stm)
 | 0, _ => fun _ => none
 | n + 1, l => ifH 4 [ztw] (pu l) (bd rS fun s => zdo rS n (l ++ [s]))
def zg2 (rS : Ps Stm) : Ps (List Stm) := bd (zbO [ztm]) fun _ => zdo rS big []
def zd4 (rB : Ps (List Stm)) : Ps Stm := fun r =>
 ifH 3 [ztE] (bd zbN fun x => bd rB fun b => ifH 3 [zth] (bd rB fun e => pu ⟨6, zdZ r, zs3, zs3, zs3, ⟨0, 0, zs3⟩, [x], b, e⟩) (pu ⟨6, zdZ r, zs3, zs3, zs3, ⟨0, 0, zs3⟩, [x], b, []⟩))
 (ifH 3 [ztx] (bd zbN fun x => bd rB fun b => pu ⟨7, zdZ r, zs3, zs3, zs3, ⟨0, 0, zs3⟩, [x], b, []⟩)
 (zeE ⟨0, zdZ r, zs3, zs3, zs3, ⟨0, 0, zs3⟩, [], [], []⟩)) r
def sB : Nat → Ps (List Stm) × Ps Stm
 | 0 => (fun _ => none, fun _ => none)
 | n + 1 => (zg2 (sB n).2, zd4 (sB n).1)
theorem zmK {rS : Ps Stm} (h : Sf rS) : ∀ n l, Sf (zdo rS n l)
 | 0, _ => zdM
 | n + 1, l => zbW (zbx _) (zP h fun _ => zmK h n _)
theorem zrA {rB : Ps (List Stm)} (h : Sf rB) : Sf (zd4 rB) := fun r v hv =>
 zbW (zP zbD fun _ => zP h fun _ => zbW (zP h fun _ => zbx _) (zbx _)) (zbW (zP zbD fun _ => zP h fun _ => zbx _) (znB _)) r v hv
theorem zsK {rB : Ps (List Stm)} (h : Sf rB) : Co (zd4 rB) := fun r x r' hv =>
 zgH (zP zbD fun _ => zP h fun _ => zbW (zP h fun _ => zbx _) (zbx _)) (zgH (zP zbD fun _ => zP h fun _ => zbx _) (zpA _)) r x r' hv
theorem zjn : ∀ n, Sf (sB n).1 ∧ Sf (sB n).2 ∧ Co (sB n).2
 | 0 => ⟨zdM, zdM, zsf⟩
 | n + 1 => by
  obtain ⟨h1, h2, h3⟩ := zjn n
  exact ⟨zP (zba _) fun _ => zmK h2 _ _, zrA h1, zsK h1⟩
section
variable {T : List Tok} {S : List zq} {D : List zo} {r : List Tok} {k : Int} {tx : List BA}
theorem zmP {R : PS → Option (Except (Value × PS) (Stm × PS))} {rS : Ps Stm} (h1 : Sf rS) (h2 : Co rS) (hR : ∀ r, Suf T r → R (mkP T S D r) = cv T S D (rS r)) : ∀ (n : Nat) (l : List Stm) (r : List Tok), Suf T r → l.length + r.length ≤ 1000000 → zfS R n T ((T.length - r.length : Nat) : Int) S D l = cv T S D (zdo rS n l r)
 | 0, l, r, hs, _ => rfl
 | n + 1, l, r, hs, hl => by
  show zio (zfS R n) R T _ S D l = _
  unfold zio zdo
  refine zkj (C := cv T S D) (D := D) (S := S) hs (by simp) (fun r' _ => rfl) ?_
  refine zlm hs h1 (hR r hs) fun x r3 hs3 he => ?_
  have := h2 r x r3 he
  rw [zcT (by omega), Option.bind_some]
  have := zmP h1 h2 hR n (l ++ [x]) r3 hs3 (by simp; omega)
  cases x
  exact this
theorem zrV (s : Stm) : zfD T ((T.length - r.length : Nat) : Int) S D s.Kind s.Line s.Name s.Field s.Call s.Type_.Kind s.Type_.N s.Type_.Name s.Kids s.Body s.Else = cv T S D (pu s r) := by
 cases s
 rfl
theorem P_B : ∀ (n : Nat) (r : List Tok), Suf T r → (zcc n).1 (mkP T S D r) = cv T S D ((sB n).1 r) ∧ (zcc n).2 (mkP T S D r) = cv T S D ((sB n).2 r)
 | 0, r, hs => ⟨rfl, rfl⟩
 | n + 1, r, hs => by
  have h1 := fun r hs => (P_B n r hs).1
  have h2 := fun r hs => (P_B n r hs).2
  obtain ⟨f1, f2, f3⟩ := zjn n
  refine ⟨?_, ?_⟩
  ·show zhb (zcc n).1 (zcc n).2 (mkP T S D r) = cv T S D (zg2 (sB n).2 r)
   unfold zhb zg2
   refine zfG hs (zba _) (zcD hs (by simp)) fun r2 hs2 => ?_
   exact zmP f2 f3 h2 big [] r2 hs2 (by have := zeq hs2; have := hs2.2; simp; omega)
  ·show zic (zcc n).1 (zcc n).2 (mkP T S D r) = cv T S D (zd4 (sB n).1 r)
   unfold zic zd4
   have hln : zeM (mkP T S D r) = some (zdZ r) := by rw [zlv hs]; cases r <;> rfl
   rw [hln, Option.bind_some]
   refine L_H (C := cv T S D) hs (by simp) (fun r2 hs2 => ?_) ?_
   ·refine zbX hs2 zbD (zd2 hs2) fun x r3 hs3 => ?_
    refine zbX hs3 f1 (h1 r3 hs3) fun b r4 hs4 => ?_
    refine L_H (C := cv T S D) hs4 (by simp) (fun r5 hs5 => ?_) ?_
    ·exact zbX hs5 f1 (h1 r5 hs5) fun e r6 hs6 => by cases x; rfl
    ·cases x; rfl
   refine L_H (C := cv T S D) hs (by simp) (fun r2 hs2 => ?_) ?_
   ·refine zbX hs2 zbD (zd2 hs2) fun x r3 hs3 => ?_
    exact zbX hs3 f1 (h1 r3 hs3) fun b r4 hs4 => by cases x; rfl
   have eta : ∀ {p : Ps Stm}, bd p (fun x => pu x) = p := fun {p} => by
    funext r
    unfold bd pu
    cases p r with
    | none => rfl
    | some v => cases v <;> rfl
   rw [← eta (p := zeE _)]
   exact zoM hs (znB _) (zrB hs _) fun s r4 hs4 => zrV s
end
abbrev zf7 : Ps (List Stm) := (sB big).1
theorem ziM : Sf zf7 := (zjn big).1
theorem zpI {T : List Tok} {S : List zq} {D : List zo} {r : List Tok} (hs : Suf T r) : zjQ (mkP T S D r) = cv T S D (zf7 r) := (P_B big r hs).1
def zdD : Ps zbu := bd zcC fun n => bd (zcN true) fun t => pu ⟨n, t⟩
theorem zdR : Sf zdD := zP zbF fun _ => zP (zdu _) fun _ => zbx _
def fL (nm : BA) : Nat → List BA → Ps zq
 | 0, _ => fun _ => none
 | n + 1, l => ifH 4 [ztw] (pu ⟨nm, l⟩) (bd zcC fun f => bd (tk 3 [zs6]) fun _ => bd (zbO [zta]) fun _ => fL nm n (l ++ [f]))
def zdO : Ps zq := bd zcC fun nm => bd (tk 3 [zs7]) fun _ => bd (zbO [ztm]) fun _ => fL nm big []
def k9 (ln : Int) (nm : BA) (ps : List zbu) : Ps zo := bd (zcN false) fun t => bd zf7 fun b => pu ⟨nm, ln, ps, t, b⟩
def pL (ln : Int) (nm : BA) : Nat → List zbu → Ps zo
 | 0, _ => fun _ => none
 | n + 1, l => ifH 4 [ztt] (bd zdD fun p => pL ln nm n (l ++ [p])) (bd (zbO [zs4]) fun _ => k9 ln nm l)
def zdB : Ps zo := fun r => (bd (tk 3 [ztc]) fun _ => bd zcC fun nm => bd (zbO [zs5]) fun _ => ifH 4 [zs4] (k9 (zdZ r) nm []) (bd zdD fun p => pL (zdZ r) nm big [p])) r
theorem zjX (nm : BA) : ∀ n l, Sf (fL nm n l)
 | 0, _ => zdM
 | n + 1, l => zbW (zbx _) (zP zbF fun _ => zP (zbM _ _) fun _ => zP (zba _) fun _ => zjX nm n _)
theorem zoK : Sf zdO := zP zbF fun _ => zP (zbM _ _) fun _ => zP (zba _) fun _ => zjX _ _ _
theorem zkl (ln : Int) (nm : BA) (ps : List zbu) : Sf (k9 ln nm ps) := zP (zdu _) fun _ => zP ziM fun _ => zbx _
theorem zkp (ln : Int) (nm : BA) : ∀ n l, Sf (pL ln nm n l)
 | 0, _ => zdM
 | n + 1, l => zbW (zP zdR fun _ => zkp ln nm n _) (zP (zba _) fun _ => zkl _ _ _)
theorem zoV : Sf zdB := fun r v h => zP (zbM _ _) (fun _ => zP zbF fun _ => zP (zba _) fun _ => zbW (zkl _ _ _) (zP zdR fun _ => zkp _ _ _ _)) r v h
theorem zfJ : Co zcC := zfC (zfr _ _) fun _ => zbx _
theorem ziB : Co zdO := zfC zfJ fun _ => zP (zbM _ _) fun _ => zP (zba _) fun _ => zjX _ _ _
theorem zjl : Co zdB := fun r x r' h => zfC (zfr _ _) (fun _ => zP zbF fun _ => zP (zba _) fun _ => zbW (zkl _ _ _) (zP zdR fun _ => zkp _ _ _ _)) r x r' h
def cS (T : List Tok) (S : List zq) (D : List zo) : Option (Rs zq) → Option (Except (Value × PS) PS)
 | none => none
 | some (.error r) => some (.error (mis, mkP T S D r))
 | some (.ok (x, r)) => some (.ok (mkP T (S ++ [x]) D r))
def cD (T : List Tok) (S : List zq) (D : List zo) : Option (Rs zo) → Option (Except (Value × PS) PS)
 | none => none
 | some (.error r) => some (.error (mis, mkP T S D r))
 | some (.ok (x, r)) => some (.ok (mkP T S (D ++ [x]) r))
section
variable {T : List Tok} {S : List zq} {D : List zo} {r : List Tok} {k : Int} {tx : List BA}
theorem zd8 {α β γ : Type} {p : Ps α} {f : α → Ps β} {C : Option (Rs β) → Option (Except (Value × PS) γ)} (hn : C none = none) (hc : ∀ e, C (some (.error e)) = some (.error (mis, mkP T S D e))) (hs : Suf T r) (hp : Sf p) {X : Option (Except (Value × PS) (α × PS))} (hX : X = cv T S D (p r)) {G : α × PS → Option (Except (Value × PS) γ)}
  (hG : ∀ x r', Suf T r' → p r = some (.ok (x, r')) → G (x, mkP T S D r') = C (f x r')) : zO X (fun x => some (.error (x.1, x.2))) G = C (bd p f r) := by
 subst hX
 unfold bd
 cases h : p r with
 | none => exact hn.symm
 | some v =>
  cases v with
  | error e => exact (hc e).symm
  | ok c => exact hG c.1 c.2 (hs.of (hp r _ h)) h
theorem zji {β γ : Type} {p : Ps Unit} {f : Unit → Ps β} {C : Option (Rs β) → Option (Except (Value × PS) γ)} (hn : C none = none) (hc : ∀ e, C (some (.error e)) = some (.error (mis, mkP T S D e))) (hs : Suf T r) (hp : Sf p) {X : Option (Except (Value × PS) PS)} (hX : X = cu T S D (p r)) {G : PS → Option (Except (Value × PS) γ)}
  (hG : ∀ r', Suf T r' → p r = some (.ok ((), r')) → G (mkP T S D r') = C (f () r')) : zO X (fun x => some (.error (x.1, x.2))) G = C (bd p f r) := by
 subst hX
 unfold bd
 cases h : p r with
 | none => exact hn.symm
 | some v =>
  cases v with
  | error e => exact (hc e).symm
  | ok c => exact hG c.2 (hs.of (hp r _ h)) h
theorem zmz (hs : Suf T r) : zfT (mkP T S D r) = cv T S D (zdD r) := by
 unfold zfT zdD
 refine zbX hs zbF (zdl hs) fun n r2 hs2 => ?_
 exact zbX hs2 (zdu _) (zlp hs2 true) fun ty r3 hs3 => rfl
theorem zmv (c : BA × PS) : ∀ (n : Nat) (l : List BA) (r : List Tok), Suf T r → l.length + r.length ≤ 1000000 → S.length ≤ 1000000 → zfP c n T ((T.length - r.length : Nat) : Int) S D l = cS T S D (fL c.1 n l r)
 | 0, l, r, hs, _, _ => rfl
 | n + 1, l, r, hs, hl, hS => by
  show zg6 (zfP c n) c T _ S D l = _
  unfold zg6 fL
  refine zkj (C := cS T S D) (D := D) (S := S) hs (by simp) (fun r' _ => ?_) ?_
  ·show ((room (S.length + 1)).bind fun _ => _) = _
   rw [zcT (by omega), Option.bind_some]
   rfl
  refine zd8 (T := T) (S := S) (D := D) rfl (fun _ => rfl) hs zbF (zdl hs) fun f r2 hs2 he => ?_
  have h1 := zfJ r f r2 he
  rw [zcT (by simp; omega), Option.bind_some]
  refine zd8 (T := T) (S := S) (D := D) rfl (fun _ => rfl) hs2 (zbM _ _) (zdY hs2 (by simp)) fun _ r3 hs3 he3 => ?_
  refine zji (T := T) (S := S) (D := D) rfl (fun _ => rfl) hs3 (zba _) (zcD hs3 (by simp)) fun r4 hs4 he4 => ?_
  have h3 := (zbM _ _).le he3
  have h4 := (zba _).le he4
  have h3 : r3.length ≤ r2.length := h3
  have h4 : r4.length ≤ r3.length := h4
  exact zmv c n (l ++ [f]) r4 hs4 (by simp; omega) hS
theorem zsZ (hs : Suf T r) (hS : S.length ≤ 1000000) : zid (mkP T S D r) = cS T S D (zdO r) := by
 unfold zid zdO
 refine zd8 (T := T) (S := S) (D := D) rfl (fun _ => rfl) hs zbF (zdl hs) fun nm r2 hs2 he => ?_
 refine zd8 (T := T) (S := S) (D := D) rfl (fun _ => rfl) hs2 (zbM _ _) (zdY hs2 (by simp)) fun _ r3 hs3 he3 => ?_
 refine zji (T := T) (S := S) (D := D) rfl (fun _ => rfl) hs3 (zba _) (zcD hs3 (by simp)) fun r4 hs4 he4 => ?_
 exact zmv (nm, mkP T S D r2) big [] r4 hs4 (by have := zeq hs4; have := hs4.2; simp; omega) hS
theorem zmc (ln : Int) (c : BA × PS) (l : List zbu) (hs : Suf T r) (hD : D.length ≤ 1000000) : zgo ln c T ((T.length - r.length : Nat) : Int) S D l = cD T S D (k9 ln c.1 l r) := by
 unfold zgo k9
 refine zd8 (T := T) (S := S) (D := D) rfl (fun _ => rfl) hs (zdu _) (zlp hs false) fun t r2 hs2 he => ?_
 refine zd8 (T := T) (S := S) (D := D) rfl (fun _ => rfl) hs2 ziM (zpI hs2) fun b r3 hs3 he3 => ?_
 show ((room (D.length + 1)).bind fun _ => _) = _
 rw [zcT (by omega), Option.bind_some]
 rfl
theorem znG (ln : Int) (c : BA × PS) : ∀ (n : Nat) (l : List zbu) (r : List Tok), Suf T r → l.length + r.length ≤ 1000001 → D.length ≤ 1000000 → zf2 ln c n T ((T.length - r.length : Nat) : Int) S D l = cD T S D (pL ln c.1 n l r)
 | 0, l, r, hs, _, _ => rfl
 | n + 1, l, r, hs, hl, hD => by
  show zhq (zf2 ln c n) ln c T _ S D l = _
  unfold zhq pL
  show ((zbI (mkP T S D r) 4 _).bind _) = _
  rw [zgm hs (by simp), Option.bind_some]
  unfold ifH
  cases h : zbg 4 [ztt] r with
  | true =>
   cases r with
   | nil => cases h
   | cons t r =>
    rw [if_pos rfl, if_pos rfl, if_pos rfl]
    refine zd8 (T := T) (S := S) (D := D) rfl (fun _ => rfl) hs.tail zdR (zmz hs.tail) fun x r3 hs3 he => ?_
    have := zdR.le he
    have : r3.length ≤ r.length := this
    simp only [List.length_cons] at hl
    rw [zcT (by simp; omega), Option.bind_some]
    exact znG ln c n (l ++ [x]) r3 hs3 (by simp; omega) hD
  | false =>
   rw [if_neg (by simp), if_neg (by simp), if_neg (by simp)]
   exact zji (T := T) (S := S) (D := D) rfl (fun _ => rfl) hs (zba _) (zcD hs (by simp)) fun r4 hs4 _ => zmc ln c l hs4 hD
theorem zok (hs : Suf T r) (hD : D.length ≤ 1000000) : zg8 (mkP T S D r) = cD T S D (zdB r) := by
 unfold zg8 zdB
 have hln : zeM (mkP T S D r) = some (zdZ r) := by rw [zlv hs]; cases r <;> rfl
 rw [hln, Option.bind_some]
 refine zd8 (T := T) (S := S) (D := D) rfl (fun _ => rfl) hs (zbM _ _) (zdY hs (by simp)) fun _ r2 hs2 he2 => ?_
 refine zd8 (T := T) (S := S) (D := D) rfl (fun _ => rfl) hs2 zbF (zdl hs2) fun nm r3 hs3 he3 => ?_
 refine zji (T := T) (S := S) (D := D) rfl (fun _ => rfl) hs3 (zba _) (zcD hs3 (by simp)) fun r4 hs4 he4 => ?_
 refine zkj (C := cD T S D) (D := D) (S := S) hs4 (by simp) (fun r5 hs5 => ?_) ?_
 ·exact zmc (zdZ r) (nm, mkP T S D r3) [] hs5 hD
 refine zd8 (T := T) (S := S) (D := D) rfl (fun _ => rfl) hs4 zdR (zmz hs4) fun x r5 hs5 he5 => ?_
 have := zeq hs5
 have := hs5.2
 rw [zcT (by simp), Option.bind_some]
 exact znG (zdZ r) (nm, mkP T S D r3) big [x] r5 hs5 (by simp; omega) hD
end
def wL : Nat → List zq → List zo → List Tok → Option (Except (List Tok) (List zq × List zo))
 | 0, _, _, _ => none
 | _ + 1, S, D, [] => some (.ok (S, D))
 | n + 1, S, D, t :: r => if zbg 3 [zte] (t :: r) = true then (match zdO r with
   | none => none
   | some (.error e) => some (.error e)
   | some (.ok (x, r')) => wL n (S ++ [x]) D r')
  else (match zdB (t :: r) with
   | none => none
   | some (.error e) => some (.error e)
   | some (.ok (x, r')) => wL n S (D ++ [x]) r')
def cW (T : List Tok) (S : List zq) (D : List zo) : Option (Except (List Tok) (List zq × List zo)) → Option (Except (Int × Value) (List zq × List zo × Bool))
 | none => none
 | some (.error e) => some (.error (((T.length - e.length : Nat) : Int), mis))
 | some (.ok x) => some (.ok (x.1, x.2, true))
def wR (T : List Tok) : Option (Except (Value × PS × Bool) (PS × Bool)) → Option (Except (Int × Value) (List zq × List zo × Bool))
 | none => none
 | some (.error x) => some (.error (x.2.1.cursor.at_, x.1))
 | some (.ok c) => some (.ok (c.1.prog.Structs, c.1.prog.Funcs, c.2))
theorem zkr {T : List Tok} : ∀ (n : Nat) (S : List zq) (D : List zo) (r : List Tok), Suf T r → S.length + D.length + r.length ≤ 1000000 → wR T (zek false n T ((T.length - r.length : Nat) : Int) S D) = cW T S D (wL n S D r)
 | 0, S, D, r, hs, _ => rfl
 | n + 1, S, D, [], hs, _ => by
  show wR T (zfl (zek false n) false T _ S D) = _
  unfold zfl
  rw [if_neg (by simp)]
  rfl
 | n + 1, S, D, t :: r, hs, hl => by
  show wR T (zfl (zek false n) false T _ S D) = _
  unfold zfl wL
  have h0 := zeq hs
  simp only [List.length_cons] at hl h0
  rw [if_pos (zJ (by simp; omega))]
  show wR T ((zbI (mkP T S D (t :: r)) 3 _).bind _) = _
  rw [zgm hs (by simp), Option.bind_some]
  cases h : zbg 3 [zte] (t :: r) with
  | true =>
   rw [if_pos rfl, if_pos rfl, if_pos rfl]
   dsimp only [List.tail_cons]
   rw [zsZ hs.tail (by omega)]
   cases he : zdO r with
   | none => rfl
   | some v =>
    cases v with
    | error e => rfl
    | ok c =>
     obtain ⟨x, r'⟩ := c
     have := ziB r x r' he
     have := zkr n (S ++ [x]) D r' (hs.tail.of (zoK r _ he)) (by simp; omega)
     refine this.trans ?_
     dsimp only
     cases wL n (S ++ [x]) D r' with
     | none => rfl
     | some v => cases v <;> rfl
  | false =>
   rw [if_neg (by simp), if_neg (by simp), if_neg (by simp)]
   dsimp only
   rw [zok hs (by omega)]
   cases he : zdB (t :: r) with
   | none => rfl
   | some v =>
    cases v with
    | error e => rfl
    | ok c =>
     obtain ⟨x, r'⟩ := c
     have := zjl (t :: r) x r' he
     simp only [List.length_cons] at this
     have := zkr n S (D ++ [x]) r' (hs.of (zoV _ _ he)) (by simp; omega)
     refine this.trans ?_
     dsimp only
     cases wL n S (D ++ [x]) r' with
     | none => rfl
     | some v => cases v <;> rfl
def zdm (T : List Tok) : Option (Except (List Tok) (List zq × List zo)) := wL big [] [] T
theorem zpR {T : List Tok} (hT : T.length ≤ 1000000) : zeJ T = (zdm T).bind fun v => match v with
  | .error e => some ((⟨[], []⟩ : zB), ((T.length - e.length : Nat) : Int), (7 : Int))
  | .ok (S, D) => (zfK D).bind fun c => if c = true then some ((⟨[], []⟩ : zB), (0 : Int), (11 : Int)) else some ((⟨S, D⟩ : zB), (0 : Int), (0 : Int)) := by
 unfold zeJ ziF zhj
 dsimp only
 have h := zkr (T := T) big [] [] T ⟨⟨[], rfl⟩, hT⟩ (by simpa using hT)
 rw [Nat.sub_self] at h
 have h : wR T (zek false big T 0 [] []) = cW T [] [] (zdm T) := h
 cases hw : zek false big T 0 [] [] with
 | none =>
  rw [hw] at h
  cases hp : zdm T with
  | none => rfl
  | some v => rw [hp] at h; cases v <;> cases h
 | some v =>
  rw [hw] at h
  cases v with
  | error x =>
   cases hp : zdm T with
   | none => rw [hp] at h; cases h
   | some v =>
    rw [hp] at h
    cases v with
    | ok c => cases h
    | error e =>
     injection h with h
     injection h with h
     injection h with h1 h2
     dsimp only [Option.bind_some]
     rw [h2, if_pos (show zh7 mis = true from by decide)]
     show some ((⟨[], []⟩ : zB), x.2.1.cursor.at_, (7 : Int)) = _
     rw [h1]
  | ok x =>
   obtain ⟨x, b⟩ := x
   cases hp : zdm T with
   | none => rw [hp] at h; cases h
   | some v =>
    rw [hp] at h
    cases v with
    | error e => cases h
    | ok c =>
     obtain ⟨S, D⟩ := c
     injection h with h
     injection h with h
     injection h with h1 h
     injection h with h2 h3
     dsimp only at h1 h2 h3
     subst h1; subst h2; subst h3
     rfl
end Go.Proofs.Ytnhboaaikehpoaa
