import Derived.Test.YtnhboaaikehpoaaP_12v
import Derived.KernelRfl
namespace Go.Proofs.Ytnhboaaikehpoaa
open Go.Ab Go.RowKit
set_option linter.unusedVariables false
set_option linter.unusedSimpArgs false
structure Fit (s : Stm) : Prop where
 rng : 1 ≤ s.Kind.toNat ∧ s.Kind.toNat ≤ 10
 n3 : s.Kind = 3 → s.Kids.length = 2
 n9 : s.Kind = 9 → s.Kids.length = 0
 n1 : s.Kind = 1 ∨ s.Kind = 10 → s.Kids.length ≤ 1
 no : s.Kind ≠ 3 → s.Kind ≠ 9 → s.Kind ≠ 1 → s.Kind ≠ 10 → s.Kind ≠ 5 → s.Kids.length = 1
 body : s.Kind ≠ 6 → s.Kind ≠ 7 → s.Body = []
 els : s.Kind ≠ 6 → s.Else = []
 name : 4 < s.Kind.toNat → s.Kind ≠ 9 → s.Kind ≠ 5 → s.Name = zs3
 field : s.Kind ≠ 4 → s.Field = zs3
 call : s.Kind ≠ 5 → s.Call = zs3
 ty : s.Kind ≠ 1 → s.Type_ = ⟨0, 0, zs3⟩
theorem ao {α : Type} {a c d : Bool} {f : Bool → Option α} : ((if c = true then (if a = true then some true else some d) else some false).bind f) = f (c && (a || d)) := by cases a <;> cases c <;> rfl
theorem ao2 {α : Type} {a b c d e : Bool} {f : Bool → Option α} : ((if c = true then (if a = true then (if true = true then some true else some d) else (if b = true then some true else some e)) else some false).bind f) = f (c && (a || (b || e))) := by cases a <;> cases b <;> cases c <;> rfl
theorem u8k {k : UInt8} {n : Nat} (h : k.toNat = n) (hn : n < 256) : k = UInt8.ofNat n := by rw [← h, UInt8.ofNat_toNat]
theorem zpT (s : Stm) : ∃ b, zgt s = some b ∧ (b = true → Fit s) := by
 obtain ⟨k, ln, nm, fd, cl, ty, kids, body, els⟩ := s
 obtain ⟨tk, tn, tm⟩ := ty
 have key : ∀ K : Int, (k = 3 → K = 2) → (k = 9 → K = 0) → (k = 1 ∨ k = 10 → K ≤ 1) → (k ≠ 3 → k ≠ 9 → k ≠ 1 → k ≠ 10 → k ≠ 5 → K = 1) → ∃ b, zeb ⟨k, ln, nm, fd, cl, ⟨tk, tn, tm⟩, kids, body, els⟩ K = some b ∧ (b = true → Fit ⟨k, ln, nm, fd, cl, ⟨tk, tn, tm⟩, kids, body, els⟩) := fun K k3 k9 k1 kn => by
  unfold zeb
  dsimp only
  rw [ao, ao, ao2, ao, ao, ao]
  refine ⟨_, rfl, fun h => ?_⟩
  simp only [kb (k := k) 1 (i := 1) rfl, kb (k := k) 4 (i := 4) rfl, kb (k := k) 5 (i := 5) rfl, kb (k := k) 6 (i := 6) rfl, kb (k := k) 7 (i := 7) rfl, kb (k := k) 9 (i := 9) rfl, kb (k := tk) 0 (i := 0) rfl, zcR, Bool.and_eq_true, Bool.or_eq_true, decide_eq_true_eq, beq_iff_eq, and_true] at h
  obtain ⟨⟨⟨⟨⟨⟨⟨⟨r1, r2⟩, hk⟩, hb⟩, he⟩, hn⟩, hf⟩, hc⟩, ht⟩ := h
  exact {
   rng := ⟨by show 1 ≤ k.toNat; omega, by show k.toNat ≤ 10; omega⟩
   n3 := fun h => by have := k3 h; show kids.length = 2; omega
   n9 := fun h => by have := k9 h; show kids.length = 0; omega
   n1 := fun h => by have := k1 h; show kids.length ≤ 1; omega
   no := fun a b c d e => by have := kn a b c d e; show kids.length = 1; omega
   body := fun a b => by
    rcases hb with (h | h) | h
    ·exact absurd h a
    ·exact absurd h b
    ·exact List.eq_nil_of_length_eq_zero (by show body.length = 0; omega)
   els := fun a => by
    rcases he with h | h
    ·exact absurd h a
    ·exact List.eq_nil_of_length_eq_zero (by show els.length = 0; omega)
   name := fun a b c => by
    have a : 4 < k.toNat := a
    rcases hn with (h | h) | h | h
    ·omega
    ·exact absurd h b
    ·exact absurd h c
    ·exact h
   field := fun a => by
    rcases hf with h | h
    ·exact absurd h a
    ·exact h
   call := fun a => by
    rcases hc with h | h
    ·exact absurd h a
    ·exact h
   ty := fun a => by
    rcases ht with h | ⟨h1, h2, h3⟩
    ·exact absurd h a
    ·show (⟨tk, tn, tm⟩ : zR) = _
     rw [h1, h2, h3] }
 unfold zgt zg4
 simp only [kb (k := k) 1 (i := 1) rfl, kb (k := k) 3 (i := 3) rfl, kb (k := k) 9 (i := 9) rfl, kb (k := k) 10 (i := 10) rfl, kb (k := k) 5 (i := 5) rfl]
 by_cases h3 : k = 3
 ·subst h3
  exact key 2 (fun _ => rfl) (fun h => absurd h (by decide)) (fun h => absurd h (by decide)) (fun h => absurd rfl h)
 rw [if_neg (by simpa using h3)]
 by_cases h9 : k = 9
 ·subst h9
  exact key 0 (fun h => absurd h (by decide)) (fun _ => rfl) (fun h => absurd h (by decide)) (fun _ h => absurd rfl h)
 rw [if_neg (by simpa using h9)]
 have hmin : ∀ a : Int, zdK a 1 ≤ 1 := fun a => by unfold zdK; split <;> omega
 by_cases h1 : k = 1
 ·rw [if_pos (zJ h1), if_pos (zJ h1)]
  exact key _ (fun h => absurd h h3) (fun h => absurd h h9) (fun _ => hmin _) (fun _ _ h => absurd h1 h)
 rw [if_neg (by simpa using h1)]
 by_cases h10 : k = 10
 ·rw [if_pos (zJ h10)]
  exact key _ (fun h => absurd h h3) (fun h => absurd h h9) (fun _ => hmin _) (fun _ _ _ h => absurd h10 h)
 rw [if_neg (by simpa using h10)]
 by_cases h5 : k = 5
 ·rw [if_pos (zJ h5)]
  exact key _ (fun h => absurd h h3) (fun h => absurd h h9) (fun h => by rcases h with h | h; exact absurd h h1; exact absurd h h10) (fun _ _ _ _ h => absurd h5 h)
 rw [if_neg (by simpa using h5)]
 exact key 1 (fun h => absurd h h3) (fun h => absurd h h9) (fun _ => Int.le_refl _) (fun _ _ _ _ _ => rfl)
def zbP {α : Type} (q : LY) (N : Nat) (φ : α → List Tok → Prop) (X : Option (α × LY)) : Prop :=
 ∃ (s : α) (c : List Tok) (b : Bool) (ln : Int), X = some (s, ⟨q.L ++ c, ln, q.More, b⟩) ∧ q.Line ≤ ln ∧ ln ≤ q.Line + N ∧ c.length ≤ N ∧ (b = false → q.Failed = false ∧ φ s c)
def QQ (q : LY) (k : Nat) : Prop := LQ q k ∧ 0 ≤ q.Line ∧ q.Line + k ≤ 500000000
theorem zrg (s : Stm) : (⟨s.Kind, s.Line, s.Name, s.Field, s.Call, (⟨s.Type_.Kind, s.Type_.N, s.Type_.Name⟩ : zR), s.Kids, s.Body, s.Else⟩ : Stm) = s := by cases s; rfl
def Bp (l : List Stm) (c : List Tok) : Prop := (∀ r, zld (c ++ r)) ∧ ∃ n0, ∀ n, n0 ≤ n → ∀ (m : Nat) (acc : List Stm) (r : List Tok), l.length < m → (c ++ r).length ≤ 1000000 → zdo (sB n).2 m acc (c ++ r) = some (.ok (acc ++ l, r))
theorem zqa {R : LY → Stm → Option (Stm × LY)} {l : List Stm} (hl : zw l ≤ 1000000) (hS : ∀ s ∈ l, ∀ q, QQ q (20 * szS s) → zbP q (20 * szS s) Sx (R q s)) : ∀ (n i : Nat) (q : LY) (acc : List Stm), i ≤ l.length → acc.length ≤ i → l.length - i < n → QQ q (20 * zw (l.drop i) + 4) →
  zbP q (20 * zw (l.drop i) + 1) (fun out c => ∃ l', out = acc ++ l' ∧ l'.length = l.length - i ∧ Bp l' c) (zgh R l n q.L q.Line q.More q.Failed acc (i : Int)) := by
 intro n
 induction n with
 | zero => intro i q acc _ _ h; omega
 | succ n ih =>
  intro i q acc hi ha hn hq
  have hlen := zdW l
  show zbP q _ _ (zgI (zgh R l n) R l q.L q.Line q.More q.Failed acc (i : Int))
  unfold zgI
  obtain ⟨⟨hq1, hq2, hq3⟩, hq4, hq5⟩ := hq
  by_cases h : i < l.length
  ·rw [List.drop_eq_getElem_cons h] at hq1 hq5 ⊢
   have hz : zw (l[i] :: l.drop (i + 1)) = szS l[i] + zw (l.drop (i + 1)) := rfl
   rw [hz] at hq1 hq5 ⊢
   rw [if_pos (zJ (by omega)), zbv h, Option.bind_some]
   obtain ⟨s', c, b, ln, he, h1, h2, h3, h4⟩ := hS l[i] (List.getElem_mem h) ⟨q.L, q.Line, q.More, q.Failed⟩ ⟨⟨by show q.L.length + _ ≤ _; omega, hq2, hq3⟩, hq4, by show q.Line + _ ≤ _; omega⟩
   dsimp only at h1 h2
   rw [he, Option.bind_some, zcT (by omega), Option.bind_some, zbq (by omega), zrg]
   obtain ⟨out, c2, b2, ln2, he2, g1, g2, g3, g4⟩ := ih (i + 1) ⟨q.L ++ c, ln, q.More, b⟩ (acc ++ [s']) (by omega) (by simp; omega) (by omega) ⟨⟨by simp; omega, hq2, hq3⟩, by show 0 ≤ ln; omega, by show ln + _ ≤ _; omega⟩
   dsimp only at g1 g2
   refine ⟨out, c ++ c2, b2, ln2, he2.trans (by simp), by omega, by omega, by simp; omega, fun h0 => ?_⟩
   obtain ⟨g5, l', g6, gl, g7, n1, g8⟩ := g4 h0
   obtain ⟨h5, h6, n0, h7⟩ := h4 g5
   refine ⟨h5, s' :: l', by rw [g6]; simp, by simp; omega, fun r => by rw [List.append_assoc]; exact (h6 _).2, n0 + n1, fun m hm k acc r hk hr => ?_⟩
   obtain ⟨k, rfl⟩ : ∃ j, k = j + 1 := ⟨k - 1, by omega⟩
   show ifH 4 [ztw] (pu acc) (bd (sB m).2 fun s => zdo (sB m).2 k (acc ++ [s])) ((c ++ c2) ++ r) = _
   rw [List.append_assoc]
   unfold ifH
   rw [if_neg (by rw [(h6 _).1]; simp), zbz (h7 m (by omega) _ (g7 r) (by simp at hr ⊢; omega)), g8 m (by omega) k (acc ++ [s']) r (by simp at hk ⊢; omega) (by simp at hr ⊢; omega)]
   simp
  ·rw [if_neg (by simp; omega), zbJ (by show q.L.length ≤ _; omega), Option.bind_some]
   refine ⟨acc, [tkn 4 ztw q.Line], _, q.Line, rfl, Int.le_refl _, by omega, by simp, fun h0 => ⟨h0, [], by simp, by simp; omega, fun r => rfl, 0, fun m _ k acc r hk _ => ?_⟩⟩
   obtain ⟨k, rfl⟩ : ∃ j, k = j + 1 := ⟨k - 1, by omega⟩
   show some (Except.ok (acc, r)) = _
   rw [List.append_nil]
theorem zoW {rS : Ps Stm} {ln : Int} {c : List Tok} {v : Option (Rs (List Stm))} (h : zdo rS big [] c = v) : zg2 rS (tkn 4 ztm ln :: c) = v := by
 unfold zg2
 rw [zbz (x := ()) (r' := c) rfl]
 exact h
theorem zrR {n : Nat} {l : List Stm} (hl : zw l ≤ 1000000) (hS : ∀ s ∈ l, ∀ q, QQ q (20 * szS s) → zbP q (20 * szS s) Sx ((zbS n).2 q s)) {q : LY} (hq : QQ q (20 * zw l + 6)) : zbP q (20 * zw l + 2) Bk ((zbS (n + 1)).1 q l) := by
 show zbP q _ _ (zix (zbS n).1 (zbS n).2 q l)
 unfold zix
 obtain ⟨⟨hq1, hq2, hq3⟩, hq4, hq5⟩ := hq
 have hlen := zdW l
 rw [zbJ (by omega), Option.bind_some]
 obtain ⟨out, c, b, ln, he, h1, h2, h3, h4⟩ := zqa hl hS big 0 ⟨q.L ++ [tkn 4 ztm q.Line], q.Line, q.More, q.Failed⟩ [] (by omega) (by simp) (z7 (by omega)) ⟨⟨by simp; omega, hq2, hq3⟩, hq4, by show q.Line + _ ≤ _; rw [List.drop_zero]; omega⟩
 rw [List.drop_zero] at h2 h3
 dsimp only at h1 h2
 refine ⟨out, tkn 4 ztm q.Line :: c, b, ln, he.trans (by simp), h1, by omega, by simp; omega, fun h0 => ?_⟩
 obtain ⟨h5, l', h6, hl', h7, n0, h8⟩ := h4 h0
 rw [List.nil_append] at h6
 subst h6
 refine ⟨h5, ⟨_, _, rfl⟩, n0 + 1, fun m hm r hr => ?_⟩
 obtain ⟨m, rfl⟩ : ∃ j, m = j + 1 := ⟨m - 1, by omega⟩
 have h9 := h8 m (by omega) big [] r (z7 (by omega)) (by simp at hr ⊢; omega)
 exact zoW (ln := q.Line) h9
theorem zdv (q0 : LY) (s : Stm) {q : LY} (hq : q.L.length ≤ 900000000) (h0 : 0 ≤ q0.Line ∧ q0.Line ≤ 600000000) : zc7 q0 s q.L q.Line q.More q.Failed = some (⟨s.Kind, q0.Line + 1, s.Name, s.Field, s.Call, s.Type_, s.Kids, s.Body, s.Else⟩, ⟨q.L ++ [tkn 4 zta q.Line], q.Line, q.More, q.Failed⟩) := by
 unfold zc7
 rw [zbJ (by exact hq), Option.bind_some, zce (by omega)]
theorem zbP.of {α : Type} {q : LY} {N : Nat} {φ : α → List Tok → Prop} {X : Option (α × LY)} (s : α) (c : List Tok) (b : Bool) (ln : Int) {L : List Tok} (h : X = some (s, ⟨L, ln, q.More, b⟩)) (hL : L = q.L ++ c) (h1 : q.Line ≤ ln) (h2 : ln ≤ q.Line + N) (h3 : c.length ≤ N) (h4 : b = false → q.Failed = false ∧ φ s c) : zbP q N φ X := by
 subst hL
 exact ⟨s, c, b, ln, h, h1, h2, h3, h4⟩
theorem zoG {n : Nat} {s : Stm} (hs : szS s ≤ 20000) (hB : ∀ l : List Stm, zw l < szS s → ∀ q : LY, QQ q (20 * zw l + 6) → zbP q (20 * zw l + 2) Bk ((zbS n).1 q l)) {q : LY} (hq : QQ q (20 * szS s)) : zbP q (20 * szS s) Sx ((zbS (n + 1)).2 q s) := by
 obtain ⟨k, ln0, nm, fd, cl, ty, kids, body, els⟩ := s
 have hz : szS ⟨k, ln0, nm, fd, cl, ty, kids, body, els⟩ = 1 + zK kids + zw body + zw els := zcd _
 rw [hz] at hs hq hB ⊢
 obtain ⟨⟨hq1, hq2, hq3⟩, hq4, hq5⟩ := hq
 have hl : q.Line ≤ 600000000 := by omega
 show zbP q _ _ (zhC (zbS n).1 (zbS n).2 q _)
 unfold zhC
 dsimp only
 have hw : IntKind.i64.wrap (q.Line + 1) = q.Line + 1 := zce (by omega)
 obtain ⟨b, hb, hfit⟩ := zpT ⟨k, IntKind.i64.wrap (q.Line + 1), nm, fd, cl, ty, kids, body, els⟩
 have hb : zgt (⟨k, IntKind.i64.wrap (q.Line + 1), nm, fd, cl, (⟨ty.Kind, ty.N, ty.Name⟩ : zR), kids, body, els⟩ : Stm) = some b := hb
 rw [hb, Option.bind_some]
 cases b with
 | false =>
  rw [if_pos (by rfl)]
  exact zbP.of _ [] true (q.Line + 1) (by rw [hw]) (by rw [List.append_nil]) (by omega) (by omega) (by simp) fun h => nomatch h
 | true =>
  have f := hfit rfl
  clear hfit hb
  rw [if_neg (by simp)]
  unfold zft
  rw [hw]
  simp only [kb (k := k) 1 (i := 1) rfl, kb (k := k) 2 (i := 2) rfl, kb (k := k) 3 (i := 3) rfl, kb (k := k) 4 (i := 4) rfl, kb (k := k) 5 (i := 5) rfl, kb (k := k) 6 (i := 6) rfl, kb (k := k) 7 (i := 7) rfl, kb (k := k) 9 (i := 9) rfl]
  have fb := f.body
  have fe := f.els
  have fn := f.name
  have ff := f.field
  have fc := f.call
  have ft := f.ty
  have f3 := f.n3
  have f9 := f.n9
  have f1 := f.n1
  have fo := f.no
  have fr := f.rng
  try dsimp only at fb fe fn ff fc ft f3 f9 f1 fo fr
  clear f
  by_cases h1 : k = 1
  ·subst h1
   have fb := fb (by decide) (by decide)
   have fe := fe (by decide)
   have ff := ff (by decide)
   have fc := fc (by decide)
   have f1 := f1 (.inl rfl)
   subst fb; subst fe; subst ff; subst fc
   rw [if_pos (zJ rfl), zcL (by show q.L.length ≤ _; omega), Option.bind_some]
   obtain ⟨b1, e1, g1⟩ := zcz ⟨q.L ++ [tkn 3 ztn (q.Line + 1)], q.Line + 1, q.More, q.Failed⟩ nm (by simp; omega)
   rw [e1, Option.bind_some]
   obtain ⟨ct, b2, e2, l2, g2⟩ := ziI ⟨q.L ++ [tkn 3 ztn (q.Line + 1)] ++ [tkn 1 nm (q.Line + 1)], q.Line + 1, q.More, b1⟩ ty (by simp; omega)
   rw [e2, Option.bind_some]
   cases kids with
   | nil =>
    rw [if_neg (by simp), zdv q _ (by simp; omega) ⟨hq4, hl⟩]
    refine zbP.of _ (tkn 3 ztn (q.Line + 1) :: tkn 1 nm (q.Line + 1) :: (ct ++ [tkn 4 zta (q.Line + 1)])) b2 (q.Line + 1) rfl (by simp) (by omega) (by omega) (by simp; omega) fun h0 => ?_
    obtain ⟨h3, h4⟩ := g2 h0
    exact ⟨g1 h3, zqV h4⟩
   | cons x l =>
    obtain rfl : l = [] := List.eq_nil_of_length_eq_zero (by simpa using f1)
    have hy : zK [x] = szE x := rfl
    rw [hy] at hq1 hq5 hs ⊢
    rw [if_pos (by rfl), zbJ (by simp; omega), Option.bind_some, show zv [x] 0 = some x from rfl, Option.bind_some]
    obtain ⟨c, b3, e3, l3, g3⟩ := zdx (x := x) (q := ⟨q.L ++ [tkn 3 ztn (q.Line + 1)] ++ [tkn 1 nm (q.Line + 1)] ++ ct ++ [tkn 4 zs8 (q.Line + 1)], q.Line + 1, q.More, b2⟩) (by omega) ⟨by simp; omega, hq2, hq3⟩
    rw [e3, Option.bind_some, zdv q _ (by simp; omega) ⟨hq4, hl⟩]
    refine zbP.of _ (tkn 3 ztn (q.Line + 1) :: tkn 1 nm (q.Line + 1) :: (ct ++ tkn 4 zs8 (q.Line + 1) :: (c ++ [tkn 4 zta (q.Line + 1)]))) b3 (q.Line + 1) rfl (by simp) (by omega) (by omega) (by simp; omega) fun h0 => ?_
    obtain ⟨h5, h6⟩ := g3 h0
    obtain ⟨h3, h4⟩ := g2 h5
    exact ⟨g1 h3, zsJ h4 h6⟩
  rw [if_neg (by simpa using h1)]
  have ft := ft h1
  subst ft
  by_cases h2 : k = 2
  ·subst h2
   have fb := fb (by decide) (by decide)
   have fe := fe (by decide)
   have ff := ff (by decide)
   have fc := fc (by decide)
   have fo := fo (by decide) (by decide) (by decide) (by decide) (by decide)
   obtain ⟨x, rfl⟩ := List.length_eq_one_iff.1 fo
   subst fb; subst fe; subst ff; subst fc
   have hy : zK [x] = szE x := rfl
   rw [hy] at hq1 hq5 hs ⊢
   rw [if_pos (zJ rfl), if_pos (zJ rfl)]
   obtain ⟨b1, e1, g1⟩ := zcz ⟨q.L, q.Line + 1, q.More, q.Failed⟩ nm (by show q.L.length ≤ _; omega)
   rw [e1, Option.bind_some, if_neg (by simp)]
   unfold zeY
   rw [if_neg (by simp)]
   unfold zeS
   rw [zbJ (by simp; omega), Option.bind_some, if_neg (by simp), show zv [x] (IntKind.i64.wrap ((([x] : List zb).length : Int) - 1)) = some x from rfl, Option.bind_some]
   obtain ⟨c, b3, e3, l3, g3⟩ := zdx (x := x) (q := ⟨q.L ++ [tkn 1 nm (q.Line + 1)] ++ [tkn 4 zs8 (q.Line + 1)], q.Line + 1, q.More, b1⟩) (by omega) ⟨by simp; omega, hq2, hq3⟩
   rw [e3, Option.bind_some, zdv q _ (by simp; omega) ⟨hq4, hl⟩]
   refine zbP.of _ (tkn 1 nm (q.Line + 1) :: tkn 4 zs8 (q.Line + 1) :: (c ++ [tkn 4 zta (q.Line + 1)])) b3 (q.Line + 1) rfl (by simp) (by omega) (by omega) (by simp; omega) fun h0 => ?_
   obtain ⟨h5, h6⟩ := g3 h0
   exact ⟨g1 h5, zoa h6⟩
  rw [if_neg (by simpa using h2)]
  by_cases h3 : k = 3
  ·subst h3
   have fb := fb (by decide) (by decide)
   have fe := fe (by decide)
   have ff := ff (by decide)
   have fc := fc (by decide)
   obtain ⟨x, y, rfl⟩ : ∃ x y, kids = [x, y] := by
    have hl : kids.length = 2 := f3 rfl
    match kids, hl with
    | [y, z], _ => exact ⟨y, z, rfl⟩
   subst fb; subst fe; subst ff; subst fc
   have hy : zK [x, y] = szE x + szE y := rfl
   rw [hy] at hq1 hq5 hs ⊢
   rw [if_pos (zJ rfl), if_pos (zJ rfl)]
   obtain ⟨b1, e1, g1⟩ := zcz ⟨q.L, q.Line + 1, q.More, q.Failed⟩ nm (by show q.L.length ≤ _; omega)
   rw [e1, Option.bind_some, if_pos (by rfl), zbJ (by simp; omega), Option.bind_some, show zv [x, y] 0 = some x from rfl, Option.bind_some]
   obtain ⟨c, b3, e3, l3, g3⟩ := zdx (x := x) (q := ⟨q.L ++ [tkn 1 nm (q.Line + 1)] ++ [tkn 4 ztb (q.Line + 1)], q.Line + 1, q.More, b1⟩) (by omega) ⟨by simp; omega, hq2, hq3⟩
   rw [e3, Option.bind_some, zbJ (by simp; omega), Option.bind_some]
   unfold zeY
   rw [if_neg (by simp)]
   unfold zeS
   rw [zbJ (by simp; omega), Option.bind_some, if_neg (by simp), show zv [x, y] (IntKind.i64.wrap ((([x, y] : List zb).length : Int) - 1)) = some y from rfl, Option.bind_some]
   obtain ⟨c2, b4, e4, l4, g4⟩ := zdx (x := y) (q := ⟨q.L ++ [tkn 1 nm (q.Line + 1)] ++ [tkn 4 ztb (q.Line + 1)] ++ c ++ [tkn 4 ztj (q.Line + 1)] ++ [tkn 4 zs8 (q.Line + 1)], q.Line + 1, q.More, b3⟩) (by omega) ⟨by simp; omega, hq2, hq3⟩
   rw [e4, Option.bind_some, zdv q _ (by simp; omega) ⟨hq4, hl⟩]
   refine zbP.of _ (tkn 1 nm (q.Line + 1) :: tkn 4 ztb (q.Line + 1) :: (c ++ tkn 4 ztj (q.Line + 1) :: tkn 4 zs8 (q.Line + 1) :: (c2 ++ [tkn 4 zta (q.Line + 1)]))) b4 (q.Line + 1) rfl (by simp) (by omega) (by omega) (by simp; omega) fun h0 => ?_
   obtain ⟨h5, h6⟩ := g4 h0
   obtain ⟨h7, h8⟩ := g3 h5
   exact ⟨g1 h7, zqQ h8 h6⟩
  rw [if_neg (by simpa using h3)]
  by_cases h4 : k = 4
  ·subst h4
   have fb := fb (by decide) (by decide)
   have fe := fe (by decide)
   have fc := fc (by decide)
   have fo := fo (by decide) (by decide) (by decide) (by decide) (by decide)
   obtain ⟨x, rfl⟩ := List.length_eq_one_iff.1 fo
   subst fb; subst fe; subst fc
   have hy : zK [x] = szE x := rfl
   rw [hy] at hq1 hq5 hs ⊢
   rw [if_pos (zJ rfl), if_pos (zJ rfl)]
   obtain ⟨b1, e1, g1⟩ := zcz ⟨q.L, q.Line + 1, q.More, q.Failed⟩ nm (by show q.L.length ≤ _; omega)
   rw [e1, Option.bind_some, if_neg (by simp)]
   unfold zeY
   rw [if_pos (by rfl), zbJ (by simp; omega), Option.bind_some]
   obtain ⟨b2, e2, g2⟩ := zcz ⟨q.L ++ [tkn 1 nm (q.Line + 1)] ++ [tkn 4 ztv (q.Line + 1)], q.Line + 1, q.More, b1⟩ fd (by simp; omega)
   rw [e2, Option.bind_some]
   unfold zeS
   rw [zbJ (by simp; omega), Option.bind_some, if_neg (by simp), show zv [x] (IntKind.i64.wrap ((([x] : List zb).length : Int) - 1)) = some x from rfl, Option.bind_some]
   obtain ⟨c, b3, e3, l3, g3⟩ := zdx (x := x) (q := ⟨q.L ++ [tkn 1 nm (q.Line + 1)] ++ [tkn 4 ztv (q.Line + 1)] ++ [tkn 1 fd (q.Line + 1)] ++ [tkn 4 zs8 (q.Line + 1)], q.Line + 1, q.More, b2⟩) (by omega) ⟨by simp; omega, hq2, hq3⟩
   rw [e3, Option.bind_some, zdv q _ (by simp; omega) ⟨hq4, hl⟩]
   refine zbP.of _ (tkn 1 nm (q.Line + 1) :: tkn 4 ztv (q.Line + 1) :: tkn 1 fd (q.Line + 1) :: tkn 4 zs8 (q.Line + 1) :: (c ++ [tkn 4 zta (q.Line + 1)])) b3 (q.Line + 1) rfl (by simp) (by omega) (by omega) (by simp; omega) fun h0 => ?_
   obtain ⟨h5, h6⟩ := g3 h0
   exact ⟨g1 (g2 h5), zqI h6⟩
  rw [if_neg (by simpa using h4)]
  have ff := ff h4
  subst ff
  by_cases h9 : k = 9
  ·subst h9
   have fb := fb (by decide) (by decide)
   have fe := fe (by decide)
   have fc := fc (by decide)
   have f9 := f9 rfl
   obtain rfl := List.eq_nil_of_length_eq_zero f9
   subst fb; subst fe; subst fc
   rw [if_pos (zJ rfl)]
   obtain ⟨b1, e1, g1⟩ := zcz ⟨q.L, q.Line + 1, q.More, q.Failed⟩ nm (by show q.L.length ≤ _; omega)
   rw [e1, Option.bind_some, if_neg (by simp)]
   unfold zeY
   rw [if_neg (by simp)]
   unfold zeS
   rw [zbJ (by simp; omega), Option.bind_some, if_pos (by rfl), zcL (by simp; omega), Option.bind_some, zrO (by simp; omega), Option.bind_some, zdv q _ (by simp; omega) ⟨hq4, hl⟩]
   exact zbP.of _ [tkn 1 nm (q.Line + 1), tkn 4 zs8 (q.Line + 1), tkn 3 ztd (q.Line + 1), tkn 4 zs5 (q.Line + 1), tkn 4 zs4 (q.Line + 1), tkn 4 zta (q.Line + 1)] b1 (q.Line + 1) rfl (by simp) (by omega) (by omega) (by simp; omega) fun h0 => ⟨g1 h0, zpK⟩
  rw [if_neg (by simpa using h9)]
  by_cases h5 : k = 5
  ·subst h5
   have fb := fb (by decide) (by decide)
   have fe := fe (by decide)
   subst fb; subst fe
   rw [if_pos (zJ rfl), zcR]
   unfold ziu
   by_cases hn : nm = zs3
   ·subst hn
    rw [if_neg (by simp)]
    obtain ⟨b1, e1, g1⟩ := zcz ⟨q.L, q.Line + 1, q.More, q.Failed⟩ cl (by show q.L.length ≤ _; omega)
    rw [e1, Option.bind_some]
    obtain ⟨c, b2, e2, l2, g2⟩ := znC (l := kids) (by omega) (q := ⟨q.L ++ [tkn 1 cl (q.Line + 1)], q.Line + 1, q.More, b1⟩) ⟨by simp; omega, hq2, hq3⟩
    dsimp only
    rw [e2, Option.bind_some, zdv q _ (by simp; omega) ⟨hq4, hl⟩]
    refine zbP.of _ (tkn 1 cl (q.Line + 1) :: (c ++ [tkn 4 zta (q.Line + 1)])) b2 (q.Line + 1) rfl (by simp) (by omega) (by omega) (by simp; omega) fun h0 => ?_
    obtain ⟨h3, h4⟩ := g2 h0
    exact ⟨g1 h3, zrq h4⟩
   ·rw [if_pos (by simpa using hn)]
    obtain ⟨b0, e0, g0⟩ := zcz ⟨q.L, q.Line + 1, q.More, q.Failed⟩ nm (by show q.L.length ≤ _; omega)
    rw [e0, Option.bind_some, zbJ (by simp; omega), Option.bind_some]
    obtain ⟨b1, e1, g1⟩ := zcz ⟨q.L ++ [tkn 1 nm (q.Line + 1)] ++ [tkn 4 zs8 (q.Line + 1)], q.Line + 1, q.More, b0⟩ cl (by simp; omega)
    rw [e1, Option.bind_some]
    obtain ⟨c, b2, e2, l2, g2⟩ := znC (l := kids) (by omega) (q := ⟨q.L ++ [tkn 1 nm (q.Line + 1)] ++ [tkn 4 zs8 (q.Line + 1)] ++ [tkn 1 cl (q.Line + 1)], q.Line + 1, q.More, b1⟩) ⟨by simp; omega, hq2, hq3⟩
    dsimp only
    rw [e2, Option.bind_some, zdv q _ (by simp; omega) ⟨hq4, hl⟩]
    refine zbP.of _ (tkn 1 nm (q.Line + 1) :: tkn 4 zs8 (q.Line + 1) :: tkn 1 cl (q.Line + 1) :: (c ++ [tkn 4 zta (q.Line + 1)])) b2 (q.Line + 1) rfl (by simp) (by omega) (by omega) (by simp; omega) fun h0 => ?_
    obtain ⟨h3, h4⟩ := g2 h0
    exact ⟨g0 (g1 h3), zsv h4⟩
  rw [if_neg (by simpa using h5)]
  have fc := fc h5
  subst fc
  unfold zhM
  simp only [kb (k := k) 8 (i := 8) rfl, kb (k := k) 10 (i := 10) rfl, kb (k := k) 7 (i := 7) rfl]
  have hgt : 4 < k.toNat := by
   rcases Nat.lt_or_ge 4 k.toNat with h | h
   ·exact h
   ·have : k.toNat = 1 ∨ k.toNat = 2 ∨ k.toNat = 3 ∨ k.toNat = 4 := by omega
    rcases this with h | h | h | h
    ·exact absurd (u8k h (by decide)) h1
    ·exact absurd (u8k h (by decide)) h2
    ·exact absurd (u8k h (by decide)) h3
    ·exact absurd (u8k h (by decide)) h4
  have fn := fn hgt h9 h5
  subst fn
  by_cases h6 : k = 6
  ·subst h6
   have fo := fo (by decide) (by decide) (by decide) (by decide) (by decide)
   obtain ⟨x, rfl⟩ := List.length_eq_one_iff.1 fo
   have hy : zK [x] = szE x := rfl
   rw [hy] at hq1 hq5 hs hB ⊢
   have hxp := zeO x
   rw [if_pos (zJ rfl), if_pos (zJ rfl), if_neg (by simp)]
   unfold zgD
   rw [hw, zcL (by show q.L.length ≤ _; omega), Option.bind_some, show zv [x] 0 = some x from rfl, Option.bind_some]
   obtain ⟨c, b1, e1, l1, g1⟩ := zdx (x := x) (q := ⟨q.L ++ [tkn 3 ztE (q.Line + 1)], q.Line + 1, q.More, q.Failed⟩) (by omega) ⟨by simp; omega, hq2, hq3⟩
   rw [e1, Option.bind_some]
   obtain ⟨lb, cb, b2, ln2, e2, k1, k2, k3, g2⟩ := hB body (by omega) ⟨q.L ++ [tkn 3 ztE (q.Line + 1)] ++ c, q.Line + 1, q.More, b1⟩ ⟨⟨by simp; omega, hq2, hq3⟩, by show 0 ≤ q.Line + 1; omega, by show q.Line + 1 + _ ≤ _; omega⟩
   dsimp only at k1 k2
   rw [e2, Option.bind_some]
   dsimp only
   by_cases hel : els = []
   ·subst hel
    rw [if_neg (by simp)]
    refine zbP.of _ (tkn 3 ztE (q.Line + 1) :: (c ++ cb)) b2 ln2 rfl (by simp) (by omega) (by omega) (by simp; omega) fun h0 => ?_
    obtain ⟨h7, h8⟩ := g2 h0
    obtain ⟨h9, h10⟩ := g1 h7
    exact ⟨h9, zpl h10 h8⟩
   ·have hlen : 0 < els.length := List.length_pos_iff.2 hel
    rw [if_pos (zJ (by omega)), zcL (by simp; omega), Option.bind_some]
    obtain ⟨lb2, cb2, b3, ln3, e3, k4, k5, k6, g3⟩ := hB els (by omega) ⟨q.L ++ [tkn 3 ztE (q.Line + 1)] ++ c ++ cb ++ [tkn 3 zth ln2], ln2, q.More, b2⟩ ⟨⟨by simp; omega, hq2, hq3⟩, by show 0 ≤ ln2; omega, by show ln2 + _ ≤ _; omega⟩
    dsimp only at k4 k5
    rw [e3, Option.bind_some]
    refine zbP.of _ (tkn 3 ztE (q.Line + 1) :: (c ++ (cb ++ tkn 3 zth ln2 :: cb2))) b3 ln3 rfl (by simp) (by omega) (by omega) (by simp; omega) fun h0 => ?_
    obtain ⟨h11, h12⟩ := g3 h0
    obtain ⟨h7, h8⟩ := g2 h11
    obtain ⟨h9, h10⟩ := g1 h7
    exact ⟨h9, zqG h10 h8 h12 ln2⟩
  have fe := fe h6
  subst fe
  rw [if_neg (by simpa using h6)]
  by_cases h7 : k = 7
  ·subst h7
   have fo := fo (by decide) (by decide) (by decide) (by decide) (by decide)
   obtain ⟨x, rfl⟩ := List.length_eq_one_iff.1 fo
   have hy : zK [x] = szE x := rfl
   rw [hy] at hq1 hq5 hs hB ⊢
   have hxp := zeO x
   rw [if_pos (zJ rfl), if_pos (zJ rfl)]
   unfold zgD
   rw [hw, zcL (by show q.L.length ≤ _; omega), Option.bind_some, show zv [x] 0 = some x from rfl, Option.bind_some]
   obtain ⟨c, b1, e1, l1, g1⟩ := zdx (x := x) (q := ⟨q.L ++ [tkn 3 ztx (q.Line + 1)], q.Line + 1, q.More, q.Failed⟩) (by omega) ⟨by simp; omega, hq2, hq3⟩
   rw [e1, Option.bind_some]
   obtain ⟨lb, cb, b2, ln2, e2, k1, k2, k3, g2⟩ := hB body (by omega) ⟨q.L ++ [tkn 3 ztx (q.Line + 1)] ++ c, q.Line + 1, q.More, b1⟩ ⟨⟨by simp; omega, hq2, hq3⟩, by show 0 ≤ q.Line + 1; omega, by show q.Line + 1 + _ ≤ _; omega⟩
   dsimp only at k1 k2
   rw [e2, Option.bind_some]
   dsimp only
   rw [if_neg (by simp)]
   refine zbP.of _ (tkn 3 ztx (q.Line + 1) :: (c ++ cb)) b2 ln2 rfl (by simp) (by omega) (by omega) (by simp; omega) fun h0 => ?_
   obtain ⟨h7, h8⟩ := g2 h0
   obtain ⟨h9, h10⟩ := g1 h7
   exact ⟨h9, zpc h10 h8⟩
  have fb := fb h6 h7
  subst fb
  rw [if_neg (by simpa using h7)]
  by_cases h8 : k = 8
  ·subst h8
   have fo := fo (by decide) (by decide) (by decide) (by decide) (by decide)
   obtain ⟨x, rfl⟩ := List.length_eq_one_iff.1 fo
   have hy : zK [x] = szE x := rfl
   rw [hy] at hq1 hq5 hs hB ⊢
   rw [hw, if_pos (zJ rfl), zcL (by show q.L.length ≤ _; omega), Option.bind_some, zbJ (by simp; omega), Option.bind_some, show zv [x] 0 = some x from rfl, Option.bind_some]
   obtain ⟨c, b1, e1, l1, g1⟩ := zdx (x := x) (q := ⟨q.L ++ [tkn 3 ztg (q.Line + 1)] ++ [tkn 4 zs5 (q.Line + 1)], q.Line + 1, q.More, q.Failed⟩) (by omega) ⟨by simp; omega, hq2, hq3⟩
   rw [e1, Option.bind_some, zbJ (by simp; omega), Option.bind_some, zdv q _ (by simp; omega) ⟨hq4, hl⟩]
   refine zbP.of _ (tkn 3 ztg (q.Line + 1) :: tkn 4 zs5 (q.Line + 1) :: (c ++ [tkn 4 zs4 (q.Line + 1), tkn 4 zta (q.Line + 1)])) b1 (q.Line + 1) rfl (by simp) (by omega) (by omega) (by simp; omega) fun h0 => ?_
   obtain ⟨h5, h6⟩ := g1 h0
   exact ⟨h5, zp0 h6⟩
  rw [if_neg (by simpa using h8)]
  have h10 : k = 10 := by
   obtain ⟨r1, r2⟩ := fr
   have r1 : 1 ≤ k.toNat := r1
   have r2 : k.toNat ≤ 10 := r2
   have : k.toNat = 5 ∨ k.toNat = 6 ∨ k.toNat = 7 ∨ k.toNat = 8 ∨ k.toNat = 9 ∨ k.toNat = 10 := by omega
   rcases this with h | h | h | h | h | h
   ·exact absurd (u8k h (by decide)) h5
   ·exact absurd (u8k h (by decide)) h6
   ·exact absurd (u8k h (by decide)) h7
   ·exact absurd (u8k h (by decide)) h8
   ·exact absurd (u8k h (by decide)) h9
   ·exact u8k h (by decide)
  subst h10
  have f1 := f1 (.inr rfl)
  rw [hw, if_pos (zJ rfl), zcL (by show q.L.length ≤ _; omega), Option.bind_some]
  cases kids with
  | nil =>
   rw [if_neg (by simp), zdv q _ (by simp; omega) ⟨hq4, hl⟩]
   exact zbP.of _ [tkn 3 zs9 (q.Line + 1), tkn 4 zta (q.Line + 1)] q.Failed (q.Line + 1) rfl (by simp) (by omega) (by omega) (by simp; omega) fun h0 => ⟨h0, zrZ⟩
  | cons x l =>
   obtain rfl : l = [] := List.eq_nil_of_length_eq_zero (by simpa using f1)
   have hy : zK [x] = szE x := rfl
   rw [hy] at hq1 hq5 hs ⊢
   rw [if_pos (by rfl), show zv [x] 0 = some x from rfl, Option.bind_some]
   obtain ⟨c, b3, e3, l3, g3⟩ := zdx (x := x) (q := ⟨q.L ++ [tkn 3 zs9 (q.Line + 1)], q.Line + 1, q.More, q.Failed⟩) (by omega) ⟨by simp; omega, hq2, hq3⟩
   rw [e3, Option.bind_some, zdv q _ (by simp; omega) ⟨hq4, hl⟩]
   refine zbP.of _ (tkn 3 zs9 (q.Line + 1) :: (c ++ [tkn 4 zta (q.Line + 1)])) b3 (q.Line + 1) rfl (by simp) (by omega) (by omega) (by simp; omega) fun h0 => ?_
   obtain ⟨h5, h6⟩ := g3 h0
   exact ⟨h5, zq9 h6⟩
theorem zmU : ∀ n : Nat, (∀ l : List Stm, zw l ≤ 20000 → 2 * zw l + 1 ≤ n → ∀ q : LY, QQ q (20 * zw l + 6) → zbP q (20 * zw l + 2) Bk ((zbS n).1 q l)) ∧ (∀ s : Stm, szS s ≤ 20000 → 2 * szS s ≤ n → ∀ q : LY, QQ q (20 * szS s) → zbP q (20 * szS s) Sx ((zbS n).2 q s))
 | 0 => ⟨fun x _ h => by omega, fun x _ h => by have := zm3 x; omega⟩
 | n + 1 => by
  obtain ⟨h1, h2⟩ := zmU n
  refine ⟨fun l hs hn q hq => zrR (by omega) (fun s hm q hq => ?_) hq, fun s hs hn q hq => zoG hs (fun l hl q hq => h1 l (by omega) (by omega) q hq) hq⟩
  have := zeB hm
  exact h2 s (by omega) (by omega) q hq
theorem zm4 {l : List Stm} (hl : zw l ≤ 20000) {q : LY} (hq : QQ q (20 * zw l + 6)) : zbP q (20 * zw l + 2) Bk (zj7 q l) := (zmU big).1 l hl (Nat.le_of_lt (z7 (by omega))) q hq
end Go.Proofs.Ytnhboaaikehpoaa
