import Derived.Test.YtnhboaaikehpoaaP_12u
import Derived.KernelRfl
namespace Go.Proofs.Ytnhboaaikehpoaa
open Go.Ab Go.RowKit
set_option linter.unusedVariables false
set_option linter.unusedSimpArgs false
theorem zdA {x : zb} {c : List Tok} (h : Xx x c) {r : List Tok} (hr : okE r) (hl : (c ++ r).length ≤ 1000000) : zbN (c ++ r) = some (.ok (x, r)) := by
 obtain ⟨n0, h⟩ := h
 exact zlo (zlY (Nat.le_max_left big n0)).1 (zdJ (Nat.le_refl _)) hl (h _ (Nat.le_max_right _ _) r hr)
theorem zq3 {x : zb} {c : List Tok} (h : Xx x c) {r : List Tok} (ln ln' : Int) (hl : (tkn 4 ztb ln :: (c ++ tkn 4 ztj ln' :: r)).length ≤ 1000000) : ze3 (tkn 4 ztb ln :: (c ++ tkn 4 ztj ln' :: r)) = some (.ok (x, r)) := by
 obtain ⟨n0, h⟩ := h.idx ln ln'
 exact zlo (zlY (Nat.le_max_left big n0)).2 (zmC (Nat.le_refl _)) hl (h _ (Nat.le_max_right _ _) r)
def Tl (l : List zb) (i : Nat) (c : List Tok) : Prop := ∀ n r, l.length - i < n → (c ++ r).length ≤ 1000000 → aL n (l.take i) (c ++ r) = some (.ok (l, r))
def Ap (l : List zb) (c : List Tok) : Prop := ∃ ln c', c = tkn 4 zs5 ln :: c' ∧ ∀ r, (c ++ r).length ≤ 1000000 → zd0 (c ++ r) = some (.ok (l, r))
theorem zpU (ln : Int) (r : List Tok) : okE (tkn 4 ztt ln :: r) := zf5 ⟨rfl, rfl⟩ rfl rfl rfl rfl rfl
theorem zlD (ln : Int) (r : List Tok) : okE (tkn 4 zs4 ln :: r) := zf5 ⟨rfl, rfl⟩ rfl rfl rfl rfl rfl
theorem zqr (ln : Int) (r : List Tok) : okE (tkn 4 zta ln :: r) := zf5 ⟨rfl, rfl⟩ rfl rfl rfl rfl rfl
theorem zpw (ln : Int) (r : List Tok) : okE (tkn 4 ztm ln :: r) := zf5 ⟨rfl, rfl⟩ rfl rfl rfl rfl rfl
def Cm (c : List Tok) : Prop := ∃ s ln c', c = tkn 4 s ln :: c' ∧ (s = ztt ∨ s = zs4)
theorem Cm.ok {c : List Tok} (h : Cm c) (r : List Tok) : okE (c ++ r) := by
 obtain ⟨s, ln, c', rfl, rfl | rfl⟩ := h
 ·exact zpU _ _
 ·exact zlD _ _
theorem zre {l : List zb} (hl : zK l ≤ 1000000) : ∀ (n i : Nat) (q : LY), 1 ≤ i → i ≤ l.length → l.length - i < n → LQ q (11 * zK (l.drop i) + 10) →
  zcq q (11 * zK (l.drop i) + 1) (fun c => Tl l i c ∧ Cm c) (zfF l n q.L q.Line q.More q.Failed (i : Int)) := by
 intro n
 induction n with
 | zero => intro i q _ _ h; omega
 | succ n ih =>
  intro i q h1 hi hn hq
  have hlen := zc6 l
  show zcq q _ _ (zex (zfF l n) l q.L q.Line q.More q.Failed (i : Int))
  unfold zex
  obtain ⟨hq1, hq2, hq3⟩ := hq
  by_cases h : i < l.length
  ·rw [List.drop_eq_getElem_cons h] at hq1 ⊢
   have hz : zK (l[i] :: l.drop (i + 1)) = szE l[i] + zK (l.drop (i + 1)) := rfl
   have hm := zds (List.getElem_mem h)
   rw [hz] at hq1 ⊢
   have hp := zeO l[i]
   rw [if_pos (zJ (by omega)), if_pos (zJ (by omega)), zbJ (by show q.L.length ≤ _; omega), Option.bind_some, zbv h, Option.bind_some]
   obtain ⟨c, b, he, hc, hb⟩ := zdx (x := l[i]) (q := ⟨q.L ++ [tkn 4 ztt q.Line], q.Line, q.More, q.Failed⟩) (by omega) ⟨by simp; omega, hq2, hq3⟩
   rw [he, Option.bind_some, zbq (by omega)]
   obtain ⟨c2, b2, he2, hc2, hb2⟩ := ih (i + 1) ⟨q.L ++ [tkn 4 ztt q.Line] ++ c, q.Line, q.More, b⟩ (by omega) (by omega) (by omega) ⟨by simp; omega, hq2, hq3⟩
   refine ⟨tkn 4 ztt q.Line :: (c ++ c2), b2, ?_, by simp; omega, fun h0 => ?_⟩
   ·refine he2.trans ?_
    simp
   obtain ⟨h3, h4, h5⟩ := hb2 h0
   obtain ⟨h6, h7⟩ := hb h3
   refine ⟨h6, fun m r hm2 hlen2 => ?_, ⟨_, _, _, rfl, .inl rfl⟩⟩
   obtain ⟨m, rfl⟩ : ∃ k, m = k + 1 := ⟨m - 1, by omega⟩
   show bd zbN (fun x => aL m (l.take i ++ [x])) ((c ++ c2) ++ r) = _
   rw [List.append_assoc, zbz (zdA h7.1.x (h5.ok r) (by simp at hlen2 ⊢; omega))]
   have := h4 m r (by omega) (by simp at hlen2 ⊢; omega)
   rwa [List.take_add_one, List.getElem?_eq_getElem h] at this
  ·rw [if_neg (by simp; omega), zbJ (by show q.L.length ≤ _; omega), Option.bind_some]
   refine ⟨_, _, rfl, by simp, fun h0 => ⟨h0, fun m r hm hlen => ?_, ⟨_, _, _, rfl, .inr rfl⟩⟩⟩
   obtain ⟨m, rfl⟩ : ∃ k, m = k + 1 := ⟨m - 1, by omega⟩
   rw [List.take_of_length_le (by omega)]
   rfl
theorem zi8 {k k2 : UInt8} {i : Int} {tx : List BA} {s : BA} {nu ln : Int} {r : List Tok} (hi : i = (k2.toNat : Int)) (h : k ≠ k2) : zbg i tx (⟨k, s, nu, ln⟩ :: r) = false := by
 unfold zbg
 dsimp only
 rw [hi, zc9 (fun hh => h (znX.1 hh))]
 rfl
theorem Fst.notend {c : List Tok} (h : Fst c) (r : List Tok) : zbg 4 [zs4] (c ++ r) = false ∧ zbg 4 [zta] (c ++ r) = false ∧ zbg 3 [ztd] (c ++ r) = false := by
 obtain ⟨t, c', rfl, h4, h3, _⟩ := h
 obtain ⟨k, s, nu, ln⟩ := t
 dsimp only at h4 h3
 refine ⟨?_, ?_, ?_⟩
 ·by_cases hk : k = 4
  ·subst hk
   rcases h4 rfl with rfl | rfl | rfl <;> rfl
  ·exact zi8 (k2 := 4) rfl hk
 ·by_cases hk : k = 4
  ·subst hk
   rcases h4 rfl with rfl | rfl | rfl <;> rfl
  ·exact zi8 (k2 := 4) rfl hk
 ·by_cases hk : k = 3
  ·subst hk
   rcases h3 rfl with rfl | rfl <;> rfl
  ·exact zi8 (k2 := 3) rfl hk
theorem Fst.nocall {c : List Tok} (h : Fst c) {r : List Tok} (hr : zbg 4 [zs5] r = false) : zf1 (c ++ r) = false := by
 obtain ⟨t, c', rfl, _, _, h1⟩ := h
 obtain ⟨k, s, nu, ln⟩ := t
 dsimp only at h1
 unfold zf1
 by_cases hk : k = 1
 ·subst hk
  show (_ && zbg 4 [zs5] (c' ++ r)) = false
  rw [h1 rfl r hr, Bool.and_false]
 ·have : zbg 1 [] (⟨k, s, nu, ln⟩ :: c' ++ r) = false := zi8 (k2 := 1) rfl hk
  rw [this, Bool.false_and]
theorem znC {l : List zb} (hl : zK l ≤ 1000000) {q : LY} (hq : LQ q (11 * zK l + 12)) : zcq q (11 * zK l + 2) (Ap l) (zhH q l) := by
 unfold zhH
 obtain ⟨hq1, hq2, hq3⟩ := hq
 rw [zbJ (by show q.L.length ≤ _; omega), Option.bind_some]
 obtain ⟨j, hj, hj2⟩ := zkt
 have hlen := zc6 l
 cases l with
 | nil =>
  rw [hj]
  show zcq q _ _ (zex _ _ _ _ _ _ _)
  unfold zex
  rw [if_neg (by simp), zbJ (by simp; omega), Option.bind_some]
  refine ⟨[tkn 4 zs5 q.Line, tkn 4 zs4 q.Line], _, by simp, by simp, fun h0 => ⟨h0, _, _, rfl, fun r _ => rfl⟩⟩
 | cons x l =>
  have hz : zK (x :: l) = szE x + zK l := rfl
  rw [hz] at hq1 hl ⊢
  have hb2 := zre (l := x :: l) (by rw [hz]; exact hl) j 1
  rw [hj]
  show zcq q _ _ (zex (zfF (x :: l) j) (x :: l) _ _ _ _ _)
  unfold zex
  dsimp only
  rw [if_pos (zJ (by simp)), if_neg (by simp), show zv (x :: l) 0 = some x from rfl, Option.bind_some]
  obtain ⟨c, b, he, hc, hb⟩ := zdx (x := x) (q := ⟨q.L ++ [tkn 4 zs5 q.Line], q.Line, q.More, q.Failed⟩) (by omega) ⟨by simp; omega, hq2, hq3⟩
  rw [he, Option.bind_some]
  obtain ⟨c2, b2, he2, hc2, hb2⟩ := hb2 ⟨q.L ++ [tkn 4 zs5 q.Line] ++ c, q.Line, q.More, b⟩ (by omega) (by simp) (by simp at hlen ⊢; omega) ⟨by simp; omega, hq2, hq3⟩
  refine ⟨tkn 4 zs5 q.Line :: (c ++ c2), b2, ?_, by simp at hc2 ⊢; omega, fun h0 => ?_⟩
  ·refine he2.trans ?_
   simp
  obtain ⟨h3, h4, h5⟩ := hb2 h0
  obtain ⟨h6, h7⟩ := hb h3
  refine ⟨h6, _, _, rfl, fun r hr => ?_⟩
  show ifH 4 [zs4] (pu []) (bd zbN fun x => aL big [x]) ((c ++ c2) ++ r) = _
  rw [List.append_assoc]
  unfold ifH
  rw [if_neg (by rw [(h7.2.notend _).1]; simp), zbz (zdA h7.1.x (h5.ok r) (by simp at hr ⊢; omega))]
  exact h4 big r (by simp at hlen ⊢; omega) (by simp at hr ⊢; omega)
theorem zh8 (ln : Int) (r : List Tok) : okE ([tkn 4 zta ln] ++ r) := zqr _ _
theorem zss (ln ln' : Int) (r : List Tok) : okE ([tkn 4 zs4 ln, tkn 4 zta ln'] ++ r) := zlD _ _
def zld (r : List Tok) : Prop := zbg 3 [zth] r = false
def zmr (c : List Tok) : Prop := ∀ r, zbg 4 [ztw] (c ++ r) = false ∧ zld (c ++ r)
def Sx (s : Stm) (c : List Tok) : Prop := zmr c ∧ ∃ n0, ∀ n, n0 ≤ n → ∀ r, zld r → (c ++ r).length ≤ 1000000 → (sB n).2 (c ++ r) = some (.ok (s, r))
def Bk (l : List Stm) (c : List Tok) : Prop := (∃ ln c', c = tkn 4 ztm ln :: c') ∧ ∃ n0, ∀ n, n0 ≤ n → ∀ r, (c ++ r).length ≤ 1000000 → (sB n).1 (c ++ r) = some (.ok (l, r))
theorem zdE {s : Stm} {c : List Tok} (h1 : zmr c) (h : ∀ k r, (c ++ r).length ≤ 1000000 → zd4 (sB k).1 (c ++ r) = some (.ok (s, r))) : Sx s c := ⟨h1, 1, fun n hn r _ hl => by
 obtain ⟨k, rfl⟩ : ∃ k, n = k + 1 := ⟨n - 1, by omega⟩
 exact h k r hl⟩
section
variable {ln : Int} {nm : BA} {ty : zR} {x y : zb} {c c2 ct : List Tok}
abbrev E0 : BA := zs3
abbrev T0 : zR := ⟨0, 0, zs3⟩
theorem zqV (h : Kt ty ct) : Sx ⟨1, ln, nm, E0, E0, ty, [], [], []⟩ (tkn 3 ztn ln :: tkn 1 nm ln :: (ct ++ [tkn 4 zta ln])) := zdE (fun r => ⟨rfl, rfl⟩) fun k r hl => by
 show bd (bd (zcN true) fun ty => ifH 4 [zs8] (bd zbN fun x => pu (⟨1, ln, nm, E0, E0, ty, [x], [], []⟩ : Stm)) (pu ⟨1, ln, nm, E0, E0, ty, [], [], []⟩)) k3 ((ct ++ [tkn 4 zta ln]) ++ r) = _
 rw [zeh, List.append_assoc, zbz (h true _)]
 rfl
theorem zsJ (h : Kt ty ct) (hx : Kd x c) : Sx ⟨1, ln, nm, E0, E0, ty, [x], [], []⟩ (tkn 3 ztn ln :: tkn 1 nm ln :: (ct ++ tkn 4 zs8 ln :: (c ++ [tkn 4 zta ln]))) := zdE (fun r => ⟨rfl, rfl⟩) fun k r hl => by
 show bd (bd (zcN true) fun ty => ifH 4 [zs8] (bd zbN fun x => pu (⟨1, ln, nm, E0, E0, ty, [x], [], []⟩ : Stm)) (pu ⟨1, ln, nm, E0, E0, ty, [], [], []⟩)) k3 ((ct ++ tkn 4 zs8 ln :: (c ++ [tkn 4 zta ln])) ++ r) = _
 rw [zeh, List.append_assoc, zbz (h true _)]
 show bd (bd zbN fun x => pu (⟨1, ln, nm, E0, E0, ty, [x], [], []⟩ : Stm)) k3 ((c ++ [tkn 4 zta ln]) ++ r) = _
 rw [zeh, List.append_assoc, zbz (zdA hx.1.x (zh8 _ _) (by simp at hl ⊢; omega))]
 rfl
theorem zoa (hx : Kd x c) : Sx ⟨2, ln, nm, E0, E0, T0, [x], [], []⟩ (tkn 1 nm ln :: tkn 4 zs8 ln :: (c ++ [tkn 4 zta ln])) := zdE (fun r => ⟨rfl, rfl⟩) fun k r hl => by
 show bd (ifH 3 [ztd] _ (ifC _ (bd zbN fun x => pu (⟨2, ln, nm, E0, E0, T0, [x], [], []⟩ : Stm)))) k3 ((c ++ [tkn 4 zta ln]) ++ r) = _
 rw [List.append_assoc]
 have e : ∀ (p1 p2 p3 : Ps Stm), ifH 3 [ztd] p1 (ifC p2 p3) (c ++ ([tkn 4 zta ln] ++ r)) = p3 (c ++ ([tkn 4 zta ln] ++ r)) := fun p1 p2 p3 => by
  unfold ifH ifC
  rw [if_neg (by rw [(hx.2.notend _).2.2]; simp), if_neg (by rw [hx.2.nocall rfl]; simp)]
 have e2 : ∀ (p1 p2 p3 : Ps Stm), bd (ifH 3 [ztd] p1 (ifC p2 p3)) k3 (c ++ ([tkn 4 zta ln] ++ r)) = bd p3 k3 (c ++ ([tkn 4 zta ln] ++ r)) := fun p1 p2 p3 => by
  unfold bd
  rw [e]
 rw [e2, zeh, zbz (zdA hx.1.x (zh8 _ _) (by simp at hl ⊢; omega))]
 rfl
theorem zpK : Sx ⟨9, ln, nm, E0, E0, T0, [], [], []⟩ [tkn 1 nm ln, tkn 4 zs8 ln, tkn 3 ztd ln, tkn 4 zs5 ln, tkn 4 zs4 ln, tkn 4 zta ln] := zdE (fun r => ⟨rfl, rfl⟩) fun k r hl => rfl
theorem zqQ (hx : Kd x c) (hy : Kd y c2) : Sx ⟨3, ln, nm, E0, E0, T0, [x, y], [], []⟩ (tkn 1 nm ln :: tkn 4 ztb ln :: (c ++ tkn 4 ztj ln :: tkn 4 zs8 ln :: (c2 ++ [tkn 4 zta ln]))) := zdE (fun r => ⟨rfl, rfl⟩) fun k r hl => by
 show bd (bd ze3 fun i => bd (zbO [zs8]) fun _ => bd zbN fun x => pu (⟨3, ln, nm, E0, E0, T0, [i, x], [], []⟩ : Stm)) k3 (tkn 4 ztb ln :: ((c ++ tkn 4 ztj ln :: tkn 4 zs8 ln :: (c2 ++ [tkn 4 zta ln])) ++ r)) = _
 rw [zeh, List.append_assoc, List.cons_append, zbz (zq3 hx.1.x _ _ (by simp at hl ⊢; omega))]
 show bd (bd zbN fun y => pu (⟨3, ln, nm, E0, E0, T0, [x, y], [], []⟩ : Stm)) k3 ((c2 ++ [tkn 4 zta ln]) ++ r) = _
 rw [zeh, List.append_assoc, zbz (zdA hy.1.x (zh8 _ _) (by simp at hl ⊢; omega))]
 rfl
theorem zqI {f : BA} (hx : Kd x c) : Sx ⟨4, ln, nm, f, E0, T0, [x], [], []⟩ (tkn 1 nm ln :: tkn 4 ztv ln :: tkn 1 f ln :: tkn 4 zs8 ln :: (c ++ [tkn 4 zta ln])) := zdE (fun r => ⟨rfl, rfl⟩) fun k r hl => by
 show bd (bd zbN fun x => pu (⟨4, ln, nm, f, E0, T0, [x], [], []⟩ : Stm)) k3 ((c ++ [tkn 4 zta ln]) ++ r) = _
 rw [zeh, List.append_assoc, zbz (zdA hx.1.x (zh8 _ _) (by simp at hl ⊢; omega))]
 rfl
theorem zrq {l : List zb} {f : BA} (hx : Ap l c) : Sx ⟨5, ln, E0, E0, f, T0, l, [], []⟩ (tkn 1 f ln :: (c ++ [tkn 4 zta ln])) := zdE (fun r => ⟨rfl, rfl⟩) fun k r hl => by
 obtain ⟨ln2, c', rfl, h⟩ := hx
 show bd (bd zd0 fun l => pu (⟨5, ln, E0, E0, f, T0, l, [], []⟩ : Stm)) k3 ((tkn 4 zs5 ln2 :: c' ++ [tkn 4 zta ln]) ++ r) = _
 rw [zeh, List.append_assoc, zbz (h _ (by simp at hl ⊢; omega))]
 rfl
theorem zsv {l : List zb} {f : BA} (hx : Ap l c) : Sx ⟨5, ln, nm, E0, f, T0, l, [], []⟩ (tkn 1 nm ln :: tkn 4 zs8 ln :: tkn 1 f ln :: (c ++ [tkn 4 zta ln])) := zdE (fun r => ⟨rfl, rfl⟩) fun k r hl => by
 obtain ⟨ln2, c', rfl, h⟩ := hx
 show bd (bd zd0 fun l => pu (⟨5, ln, nm, E0, f, T0, l, [], []⟩ : Stm)) k3 ((tkn 4 zs5 ln2 :: c' ++ [tkn 4 zta ln]) ++ r) = _
 rw [zeh, List.append_assoc, zbz (h _ (by simp at hl ⊢; omega))]
 rfl
theorem zp0 (hx : Kd x c) : Sx ⟨8, ln, E0, E0, E0, T0, [x], [], []⟩ (tkn 3 ztg ln :: tkn 4 zs5 ln :: (c ++ [tkn 4 zs4 ln, tkn 4 zta ln])) := zdE (fun r => ⟨rfl, rfl⟩) fun k r hl => by
 show bd zbN (fun x => bd (zbO [zs4]) fun _ => k3 (⟨8, ln, E0, E0, E0, T0, [x], [], []⟩ : Stm)) ((c ++ [tkn 4 zs4 ln, tkn 4 zta ln]) ++ r) = _
 rw [List.append_assoc, zbz (zdA hx.1.x (zss _ _ _) (by simp at hl ⊢; omega))]
 rfl
theorem zrZ : Sx ⟨10, ln, E0, E0, E0, T0, [], [], []⟩ [tkn 3 zs9 ln, tkn 4 zta ln] := zdE (fun r => ⟨rfl, rfl⟩) fun k r hl => rfl
theorem zq9 (hx : Kd x c) : Sx ⟨10, ln, E0, E0, E0, T0, [x], [], []⟩ (tkn 3 zs9 ln :: (c ++ [tkn 4 zta ln])) := zdE (fun r => ⟨rfl, rfl⟩) fun k r hl => by
 show ifS 4 [zta] _ (bd zbN fun x => k3 (⟨10, ln, E0, E0, E0, T0, [x], [], []⟩ : Stm)) ((c ++ [tkn 4 zta ln]) ++ r) = _
 rw [List.append_assoc]
 unfold ifS
 rw [if_neg (by rw [(hx.2.notend _).2.1]; simp), zbz (zdA hx.1.x (zh8 _ _) (by simp at hl ⊢; omega))]
 rfl
theorem zlc {l : List Stm} {cb : List Tok} (h : Bk l cb) (r : List Tok) : okE (cb ++ r) := by
 obtain ⟨⟨ln, c', rfl⟩, _⟩ := h
 exact zpw _ _
theorem zpc {l : List Stm} {cb : List Tok} (hx : Kd x c) (hb : Bk l cb) : Sx ⟨7, ln, E0, E0, E0, T0, [x], l, []⟩ (tkn 3 ztx ln :: (c ++ cb)) := by
 obtain ⟨n0, h⟩ := hb.2
 refine ⟨fun r => ⟨rfl, rfl⟩, n0 + 1, fun n hn r hr hl => ?_⟩
 obtain ⟨k, rfl⟩ : ∃ k, n = k + 1 := ⟨n - 1, by omega⟩
 show bd zbN (fun x => bd (sB k).1 fun b => pu (⟨7, ln, E0, E0, E0, T0, [x], b, []⟩ : Stm)) ((c ++ cb) ++ r) = _
 rw [List.append_assoc, zbz (zdA hx.1.x (zlc hb _) (by simp at hl ⊢; omega)), zbz (h k (by omega) r (by simp at hl ⊢; omega))]
 rfl
theorem zpl {l : List Stm} {cb : List Tok} (hx : Kd x c) (hb : Bk l cb) : Sx ⟨6, ln, E0, E0, E0, T0, [x], l, []⟩ (tkn 3 ztE ln :: (c ++ cb)) := by
 obtain ⟨n0, h⟩ := hb.2
 refine ⟨fun r => ⟨rfl, rfl⟩, n0 + 1, fun n hn r hr hl => ?_⟩
 obtain ⟨k, rfl⟩ : ∃ k, n = k + 1 := ⟨n - 1, by omega⟩
 show bd zbN (fun x => bd (sB k).1 fun b => ifH 3 [zth] (bd (sB k).1 fun e => pu (⟨6, ln, E0, E0, E0, T0, [x], b, e⟩ : Stm)) (pu ⟨6, ln, E0, E0, E0, T0, [x], b, []⟩)) ((c ++ cb) ++ r) = _
 rw [List.append_assoc, zbz (zdA hx.1.x (zlc hb _) (by simp at hl ⊢; omega)), zbz (h k (by omega) r (by simp at hl ⊢; omega))]
 unfold ifH
 rw [if_neg (by rw [hr]; simp)]
 rfl
theorem zqG {l l2 : List Stm} {cb cb2 : List Tok} (hx : Kd x c) (hb : Bk l cb) (hb2 : Bk l2 cb2) (ln2 : Int) : Sx ⟨6, ln, E0, E0, E0, T0, [x], l, l2⟩ (tkn 3 ztE ln :: (c ++ (cb ++ tkn 3 zth ln2 :: cb2))) := by
 obtain ⟨n0, h⟩ := hb.2
 obtain ⟨n1, h1⟩ := hb2.2
 refine ⟨fun r => ⟨rfl, rfl⟩, n0 + n1 + 1, fun n hn r hr hl => ?_⟩
 obtain ⟨k, rfl⟩ : ∃ k, n = k + 1 := ⟨n - 1, by omega⟩
 show bd zbN (fun x => bd (sB k).1 fun b => ifH 3 [zth] (bd (sB k).1 fun e => pu (⟨6, ln, E0, E0, E0, T0, [x], b, e⟩ : Stm)) (pu ⟨6, ln, E0, E0, E0, T0, [x], b, []⟩)) ((c ++ (cb ++ tkn 3 zth ln2 :: cb2)) ++ r) = _
 rw [List.append_assoc, List.append_assoc, zbz (zdA hx.1.x (zlc hb _) (by simp at hl ⊢; omega)), zbz (h k (by omega) _ (by simp at hl ⊢; omega))]
 show bd (sB k).1 (fun e => pu (⟨6, ln, E0, E0, E0, T0, [x], l, e⟩ : Stm)) (cb2 ++ r) = _
 rw [zbz (h1 k (by omega) r (by simp at hl ⊢; omega))]
 rfl
end
end Go.Proofs.Ytnhboaaikehpoaa
