import Derived.Test.YtnhboaaikehpoaaP_12p
import Derived.KernelRfl
namespace Go.Proofs.Ytnhboaaikehpoaa
open Go.Ab Go.RowKit
set_option linter.unusedVariables false
set_option linter.unusedSimpArgs false
abbrev LY := zk
abbrev tkn (k : UInt8) (s : BA) (ln : Int) : Tok := ⟨k, s, 0, ln⟩
theorem zqw {k : UInt8} {kk : Int} (hk : kk = (k.toNat : Int)) {q : LY} {l : List BA} (hl : l.length ≤ 1000) : ∀ (n j : Nat) (L : List Tok), j ≤ l.length → l.length - j < n → L.length + (l.length - j) ≤ 1000000000 → zhr q kk l n L (j : Int) = some ⟨L ++ (l.drop j).map (fun s => tkn k s q.Line), q.Line, q.More, q.Failed⟩ := by
 intro n
 induction n with
 | zero => intro j L _ h; omega
 | succ n ih =>
  intro j L hj hn hL
  show zhS _ q kk l L (j : Int) = _
  unfold zhS
  by_cases h : j < l.length
  ·have hu : u8o kk = some k := by rw [hk, zqd k.toNat_lt, UInt8.ofNat_toNat]
   rw [if_pos (zJ (by omega)), zbv h, Option.bind_some, hu, Option.bind_some, zcT (by simp; omega), Option.bind_some, zbq (by omega), ih (j + 1) _ (by omega) (by omega) (by simp; omega), List.drop_eq_getElem_cons h, List.map_cons, List.append_assoc]
   rfl
  ·rw [if_neg (by simp; omega), List.drop_of_length_le (by omega)]
   simp
theorem zjv {q : LY} {k : UInt8} {kk : Int} (hk : kk = (k.toNat : Int)) {l : List BA} (hl : l.length ≤ 1000) (hq : q.L.length ≤ 900000000) : zbf q kk l = some ⟨q.L ++ l.map (fun s => tkn k s q.Line), q.Line, q.More, q.Failed⟩ :=
 zqw hk hl big 0 q.L (by omega) (z7 (by omega)) (by omega)
section
variable {q : LY} {s s2 : BA} (hq : q.L.length ≤ 900000000)
theorem znd (hq : q.L.length ≤ 900000000) : zbf q 1 [s] = some ⟨q.L ++ [tkn 1 s q.Line], q.Line, q.More, q.Failed⟩ := zjv (k := 1) rfl (by simp) hq
theorem zcL (hq : q.L.length ≤ 900000000) : zbf q 3 [s] = some ⟨q.L ++ [tkn 3 s q.Line], q.Line, q.More, q.Failed⟩ := zjv (k := 3) rfl (by simp) hq
theorem zbJ (hq : q.L.length ≤ 900000000) : zbf q 4 [s] = some ⟨q.L ++ [tkn 4 s q.Line], q.Line, q.More, q.Failed⟩ := zjv (k := 4) rfl (by simp) hq
theorem zrO (hq : q.L.length ≤ 900000000) : zbf q 4 [s, s2] = some ⟨q.L ++ [tkn 4 s q.Line, tkn 4 s2 q.Line], q.Line, q.More, q.Failed⟩ := zjv (k := 4) rfl (by simp) hq
end
theorem kb {k : UInt8} (l : UInt8) {i : Int} (hi : i = (l.toNat : Int)) : ((k.toNat : Int) == i) = decide (k = l) := by
 subst hi
 rw [Bool.eq_iff_iff, beq_iff_eq, decide_eq_true_eq]
 exact znX
theorem zoR (s : BA) : ∃ b, zhB s = some b := by
 have hs : ∃ v, zeA s.data.toList = some v := by
  by_cases h : s.data.toList.length ≤ 16384
  ·obtain ⟨v, hv, _⟩ := zn6 h
   exact ⟨v, hv⟩
  ·unfold zeA
   exact ⟨_, if_pos (zJ (by omega))⟩
 obtain ⟨v, hv⟩ := hs
 unfold zhB
 rw [hv, Option.bind_some]
 by_cases h : ((v.2.2 == 0) && ((v.1.length : Int) == 1)) = true
 ·rw [if_pos h]
  have h1 : v.1.length = 1 := by
   have := (Bool.and_eq_true_iff.1 h).2
   have := eq_of_beq this
   omega
  have hg : zv v.1 0 = some v.1[0] := zbv (k := 0) (by omega)
  rw [hg, Option.bind_some, Option.bind_some]
  split
  ·rw [Option.bind_some, Option.bind_some]; exact ⟨_, rfl⟩
  ·exact ⟨_, rfl⟩
 ·rw [if_neg h]
  exact ⟨_, rfl⟩
theorem zcz (q : LY) (s : BA) (hq : q.L.length ≤ 900000000) : ∃ b, zcv q s = some ⟨q.L ++ [tkn 1 s q.Line], q.Line, q.More, b⟩ ∧ (b = false → q.Failed = false) := by
 unfold zcv
 obtain ⟨c, hc⟩ := zoR s
 cases hf : q.Failed with
 | true =>
  rw [if_pos rfl, Option.bind_some, znd (by exact hq)]
  exact ⟨true, rfl, fun h => nomatch h⟩
 | false =>
  rw [if_neg (by simp), hc, Option.bind_some, Option.bind_some, znd (by exact hq)]
  exact ⟨!c, rfl, fun _ => rfl⟩
theorem zmm : ∀ (n : Nat) (x : Int) (s : BA) (m : Nat), x < 10 ^ n → x ≤ 9223372036854775807 → s.size + n ≤ 1000 → n < m → ∃ v, zhc m x s = some v := by
 intro n
 induction n with
 | zero =>
  intro x s m hx h1 h2 hm
  obtain ⟨m, rfl⟩ : ∃ k, m = k + 1 := ⟨m - 1, by omega⟩
  show ∃ v, zej _ x s = some v
  unfold zej
  have hx : x < 1 := by simpa using hx
  rw [if_neg (by simp; omega), ziD, Option.bind_some]
  unfold zeg
  rw [if_neg (by rw [show IntKind.i64.max = 9223372036854775807 from rfl, show (ByteArray.mk ([UInt8.ofNat ((IntKind.i64.wrap (48 + x)) % 256).toNat] : List UInt8).toArray).size = 1 from rfl]; omega)]
  exact ⟨_, rfl⟩
 | succ n ih =>
  intro x s m hx h1 h2 hm
  obtain ⟨m, rfl⟩ : ∃ k, m = k + 1 := ⟨m - 1, by omega⟩
  show ∃ v, zej _ x s = some v
  unfold zej
  by_cases h : x ≥ 10
  ·rw [if_pos (zJ h), ziD, Option.bind_some]
   have hc : ∀ z : UInt8, zeg (⟨([z] : List UInt8).toArray⟩ : ByteArray) s = some (⟨([z] : List UInt8).toArray⟩ ++ s) := fun z => by
    unfold zeg
    exact if_neg (by rw [show IntKind.i64.max = 9223372036854775807 from rfl, show (ByteArray.mk ([z] : List UInt8).toArray).size = 1 from rfl]; omega)
   rw [hc, Option.bind_some]
   have e : Int.tdiv x 10 = x / 10 := Int.tdiv_eq_ediv_of_nonneg (by omega)
   rw [e, zce (by omega)]
   refine ih (x / 10) _ m ?_ (by omega) ?_ (by omega)
   ·rw [Int.pow_succ] at hx
    omega
   ·rw [ByteArray.size_append, show (ByteArray.mk ([UInt8.ofNat ((IntKind.i64.wrap (48 + Int.tmod x 10)) % 256).toNat] : List UInt8).toArray).size = 1 from rfl]
    omega
  ·rw [if_neg (by simp; omega), ziD, Option.bind_some]
   unfold zeg
   rw [if_neg (by rw [show IntKind.i64.max = 9223372036854775807 from rfl, show (ByteArray.mk ([UInt8.ofNat ((IntKind.i64.wrap (48 + x)) % 256).toNat] : List UInt8).toArray).size = 1 from rfl]; omega)]
   exact ⟨_, rfl⟩
theorem zmk (x : Int) : IntKind.i64.wrap x ≤ 9223372036854775807 := by
 rw [zr0]
 omega
theorem zo1 (x : Int) : ∃ v, zg0 x = some v := by
 unfold zg0
 have hb : ∃ k, big = k + 1 ∧ 20 < k := ⟨big - 1, by have := z7 (n := 30) (by omega); omega, by have := z7 (n := 30) (by omega); omega⟩
 obtain ⟨k, hk, hk2⟩ := hb
 by_cases h : x ≤ 9223372036854775807
 ·exact zmm 19 x _ big (by omega) h (by decide) (by omega)
 ·rw [hk]
  show ∃ v, zej _ x _ = some v
  unfold zej
  have hc : ∀ z : UInt8, zeg (⟨([z] : List UInt8).toArray⟩ : ByteArray) zs3 = some (⟨([z] : List UInt8).toArray⟩ ++ zs3) := fun z => rfl
  rw [if_pos (zJ (by omega)), ziD, Option.bind_some, hc, Option.bind_some]
  exact zmm 19 _ _ k (by have := zmk (Int.tdiv x 10); omega) (zmk _) (by rw [ByteArray.size_append]; show 1 + 0 + 19 ≤ 1000; omega) (by omega)
theorem zmJ (q : LY) (n : Int) (hq : q.L.length ≤ 900000000) : ∃ s, zfU q n = some ⟨q.L ++ [⟨2, s, n, q.Line⟩], q.Line, q.More, (q.Failed || decide (n < 0))⟩ := by
 unfold zfU
 obtain ⟨s, hs⟩ := zo1 (zcy n 0)
 rw [hs, Option.bind_some, zcT (by simp; omega)]
 exact ⟨s, rfl⟩
def Kt (t : zR) (c : List Tok) : Prop := ∀ m r, zcN m (c ++ r) = some (.ok (t, r))
theorem ziI (q : LY) (t : zR) (hq : q.L.length ≤ 800000000) : ∃ c b, zfq q t = some ⟨q.L ++ c, q.Line, q.More, b⟩ ∧ c.length ≤ 4 ∧ (b = false → q.Failed = false ∧ Kt t c) := by
 obtain ⟨k, n, nm⟩ := t
 unfold zfq
 dsimp only
 by_cases h1 : k = 1
 ·rw [if_pos (show ((k.toNat : Int) == 1) = true by rw [h1]; rfl), zcL (by omega), Option.bind_some]
  refine ⟨_, _, rfl, by simp, fun hb => ?_⟩
  rw [Bool.or_eq_false_iff, Bool.not_eq_false', Bool.and_eq_true_iff, zcR, decide_eq_true_eq, beq_iff_eq] at hb
  obtain ⟨h5, rfl, rfl⟩ := hb
  subst h1
  exact ⟨h5, fun m r => rfl⟩
 rw [if_neg (show ¬ ((k.toNat : Int) == 1) = true by rw [kb (k := k) 1 (i := 1) rfl]; simpa using h1)]
 by_cases h2 : k = 2
 ·rw [if_pos (show ((k.toNat : Int) == 2) = true by rw [h2]; rfl), zcL (by omega), Option.bind_some]
  refine ⟨_, _, rfl, by simp, fun hb => ?_⟩
  rw [Bool.or_eq_false_iff, Bool.not_eq_false', Bool.and_eq_true_iff, zcR, decide_eq_true_eq, beq_iff_eq] at hb
  obtain ⟨h5, rfl, rfl⟩ := hb
  subst h2
  exact ⟨h5, fun m r => rfl⟩
 rw [if_neg (show ¬ ((k.toNat : Int) == 2) = true by rw [kb (k := k) 2 (i := 2) rfl]; simpa using h2)]
 by_cases h3 : k = 3
 ·rw [if_pos (show ((k.toNat : Int) == 3) = true by rw [h3]; rfl), zbJ (by omega), Option.bind_some]
  obtain ⟨s, hs⟩ := zmJ ⟨q.L ++ [tkn 4 ztb q.Line], q.Line, q.More, q.Failed⟩ n (by simp; omega)
  dsimp only [List.map_cons, List.map_nil] at hs ⊢
  rw [hs, Option.bind_some, zbJ (by simp; omega), Option.bind_some, zcL (by simp; omega), Option.bind_some]
  refine ⟨[tkn 4 ztb q.Line, ⟨2, s, n, q.Line⟩, tkn 4 ztj q.Line, tkn 3 zs6 q.Line], (q.Failed || decide (n < 0) || !zV nm zs3), by unfold zer; simp, by simp, fun hb => ?_⟩
  rw [Bool.or_eq_false_iff, Bool.or_eq_false_iff, Bool.not_eq_false', zcR, decide_eq_true_eq] at hb
  obtain ⟨⟨h5, _⟩, rfl⟩ := hb
  subst h3
  exact ⟨h5, fun m r => rfl⟩
 rw [if_neg (show ¬ ((k.toNat : Int) == 3) = true by rw [kb (k := k) 3 (i := 3) rfl]; simpa using h3)]
 by_cases h4 : k = 4
 ·obtain ⟨b, hb, hb2⟩ := zcz q nm (by omega)
  rw [if_pos (show ((k.toNat : Int) == 4) = true by rw [h4]; rfl), hb, Option.bind_some]
  refine ⟨_, _, rfl, by simp, fun hb => ?_⟩
  rw [Bool.or_eq_false_iff, Bool.not_eq_false', beq_iff_eq] at hb
  obtain ⟨h5, rfl⟩ := hb
  subst h4
  exact ⟨hb2 h5, fun m r => by cases m <;> rfl⟩
 rw [if_neg (show ¬ ((k.toNat : Int) == 4) = true by rw [kb (k := k) 4 (i := 4) rfl]; simpa using h4)]
 refine ⟨[], _, by unfold zer; rw [List.append_nil], by simp, fun hb => ?_⟩
 simp at hb
def okU (r : List Tok) : Prop := zbg 4 [ztb] r = false ∧ zbg 4 [ztv] r = false
def okE (r : List Tok) : Prop := okU r ∧ ∀ lv ∈ lvls, zbg 4 lv r = false
theorem zf5 {r : List Tok} (h : okU r) (h1 : zbg 4 [ztk] r = false) (h2 : zbg 4 [zto] r = false) (h3 : zbg 4 [ztp, ztq, ztz, ztr, ztA, zts] r = false) (h4 : zbg 4 [ztB, ztf] r = false) (h5 : zbg 4 [zty, ztC, ztD] r = false) : okE r := by
 refine ⟨h, fun lv hm => ?_⟩
 simp only [lvls, List.mem_cons, List.not_mem_nil, or_false] at hm
 rcases hm with rfl | rfl | rfl | rfl | rfl
 ·exact h1
 ·exact h2
 ·exact h3
 ·exact h4
 ·exact h5
def Ux (x : zb) (c : List Tok) : Prop := ∃ n0, ∀ n, n0 ≤ n → ∀ r, okU r → (sG n).2.2.1 (c ++ r) = some (.ok (x, r))
def Bx (ls : List (List BA)) (x : zb) (c : List Tok) : Prop := ∃ n0, ∀ n, n0 ≤ n → ∀ r, okU r → (∀ lv ∈ ls, zbg 4 lv r = false) → (sG n).2.1 ls (c ++ r) = some (.ok (x, r))
def Xx (x : zb) (c : List Tok) : Prop := ∃ n0, ∀ n, n0 ≤ n → ∀ r, okE r → (sG n).1 (c ++ r) = some (.ok (x, r))
theorem zkt : ∃ k, big = k + 1 ∧ 1000000 ≤ k := ⟨big - 1, by have := zdH; omega, by have := zdH; omega⟩
theorem zla {Bf : List (List BA) → Ps zb} {lv : List BA} {ls : List (List BA)} {x : zb} {r : List Tok} {n : Nat} (hn : 0 < n) (h : zbg 4 lv r = false) : bL Bf lv ls n x r = some (.ok (x, r)) := by
 obtain ⟨k, rfl⟩ : ∃ k, n = k + 1 := ⟨n - 1, by omega⟩
 show ifS 4 lv _ _ r = _
 unfold ifS
 rw [h]
 rfl
theorem Ux.b {x : zb} {c : List Tok} (h : Ux x c) : ∀ ls, Bx ls x c
 | [] => by
  obtain ⟨n0, h⟩ := h
  refine ⟨n0 + 1, fun n hn r hr _ => ?_⟩
  obtain ⟨k, rfl⟩ : ∃ k, n = k + 1 := ⟨n - 1, by omega⟩
  exact h k (by omega) r hr
 | lv :: ls => by
  obtain ⟨n0, h⟩ := Ux.b h ls
  refine ⟨n0 + 1, fun n hn r hr hl => ?_⟩
  obtain ⟨k, rfl⟩ : ∃ k, n = k + 1 := ⟨n - 1, by omega⟩
  show bd ((sG k).2.1 ls) (fun x => bL (sG k).2.1 lv ls big x) (c ++ r) = _
  rw [zbz (h k (by omega) r hr fun l hm => hl l (List.mem_cons_of_mem _ hm))]
  exact zla (z7 (by omega)) (hl lv (List.mem_cons_self ..))
theorem Bx.x {x : zb} {c : List Tok} (h : Bx lvls x c) : Xx x c := by
 obtain ⟨n0, h⟩ := h
 refine ⟨n0 + 1, fun n hn r hr => ?_⟩
 obtain ⟨k, rfl⟩ : ∃ k, n = k + 1 := ⟨n - 1, by omega⟩
 exact h k (by omega) r hr.1 hr.2
theorem Ux.x {x : zb} {c : List Tok} (h : Ux x c) : Xx x c := (h.b lvls).x
theorem Xx.par {x : zb} {c : List Tok} (h : Xx x c) (ln ln' : Int) : Ux x (tkn 4 zs5 ln :: (c ++ [tkn 4 zs4 ln'])) := by
 obtain ⟨n0, h⟩ := h
 refine ⟨n0 + 1, fun n hn r hr => ?_⟩
 obtain ⟨k, rfl⟩ : ∃ k, n = k + 1 := ⟨n - 1, by omega⟩
 show bd (sG k).1 (fun x => bd (zbO [zs4]) fun _ => pu x) ((c ++ [tkn 4 zs4 ln']) ++ r) = _
 rw [List.append_assoc, zbz (h k (by omega) ([tkn 4 zs4 ln'] ++ r) (zf5 ⟨rfl, rfl⟩ rfl rfl rfl rfl rfl))]
 rfl
theorem Ux.pars {x : zb} {c : List Tok} (h : Ux x c) (ln : Int) : ∀ k : Nat, Ux x (List.replicate k (tkn 4 zs5 ln) ++ c ++ List.replicate k (tkn 4 zs4 ln))
 | 0 => by simpa using h
 | k + 1 => by
  have := (Ux.pars h ln k).x.par ln ln
  rw [List.replicate_succ, List.replicate_succ']
  simpa using this
theorem Xx.pars {x : zb} {c : List Tok} (h : Xx x c) (ln : Int) (k : Nat) : Ux x (List.replicate (k + 1) (tkn 4 zs5 ln) ++ c ++ List.replicate (k + 1) (tkn 4 zs4 ln)) := by
 have := (h.par ln ln).pars ln k
 rw [List.replicate_succ', List.replicate_succ]
 simpa using this
theorem zkK {op : BA} {lv : List BA} (hl : lv ≠ []) {ln : Int} {r : List Tok} (h : inB op lv = false) : zbg 4 lv (tkn 4 op ln :: r) = false := by
 unfold zbg
 dsimp only
 rw [h, zc9 hl]
 rfl
theorem zp3 {op : BA} {lv : List BA} {ln : Int} {r : List Tok} (h : inB op lv = true) : zbg 4 lv (tkn 4 op ln :: r) = true := by
 unfold zbg
 dsimp only
 rw [h]
 simp
theorem znH {a b : zb} {ca cb : List Tok} (ha : Ux a ca) (hb : Ux b cb) (op : BA) (ln : Int) (h1 : op ≠ ztb) (h2 : op ≠ ztv) : ∀ ls : List (List BA), (∀ l ∈ ls, l ≠ []) → ls.Pairwise (fun l l' => ¬ (inB op l = true ∧ inB op l' = true)) → (∃ lv ∈ ls, inB op lv = true) → Bx ls ⟨7, 0, zs3, zs3, op, [a, b]⟩ (ca ++ tkn 4 op ln :: cb)
 | [], _, _, h => by obtain ⟨lv, hm, _⟩ := h; cases hm
 | lv :: ls, hne, hp, h => by
  have okop : ∀ r, okU (tkn 4 op ln :: r) := fun r => ⟨zkK (by simp) (by simpa [inB] using h1.symm), zkK (by simp) (by simpa [inB] using h2.symm)⟩
  obtain ⟨hp1, hp2⟩ := List.pairwise_cons.1 hp
  by_cases hop : inB op lv = true
  ·obtain ⟨na, ha⟩ := ha.b ls
   obtain ⟨nb, hb⟩ := hb.b ls
   refine ⟨na + nb + 1, fun n hn r hr hl => ?_⟩
   obtain ⟨k, rfl⟩ : ∃ k, n = k + 1 := ⟨n - 1, by omega⟩
   show bd ((sG k).2.1 ls) (fun x => bL (sG k).2.1 lv ls big x) (ca ++ tkn 4 op ln :: cb ++ r) = _
   rw [List.append_assoc, zbz (ha k (by omega) (tkn 4 op ln :: cb ++ r) (okop _) fun l hm => zkK (hne l (List.mem_cons_of_mem _ hm)) (by
    have := hp1 l hm
    cases hx : inB op l with
    | true => exact absurd ⟨hop, hx⟩ this
    | false => rfl))]
   obtain ⟨j, hj, hj2⟩ := zkt
   rw [hj]
   show ifS 4 lv (bd (tk 4 []) fun t => bd ((sG k).2.1 ls) fun y => bL (sG k).2.1 lv ls j ⟨7, 0, zs3, zs3, t.Text, [a, y]⟩) (pu a) (tkn 4 op ln :: (cb ++ r)) = _
   unfold ifS
   rw [if_pos (zp3 hop)]
   show bd ((sG k).2.1 ls) (fun y => bL (sG k).2.1 lv ls j ⟨7, 0, zs3, zs3, op, [a, y]⟩) (cb ++ r) = _
   rw [zbz (hb k (by omega) r hr fun l hm => hl l (List.mem_cons_of_mem _ hm))]
   exact zla (by omega) (hl lv (List.mem_cons_self ..))
  ·obtain ⟨l, hm, hl⟩ := h
   have hm : l ∈ ls := by
    rcases List.mem_cons.1 hm with rfl | hm
    ·exact absurd hl hop
    ·exact hm
   obtain ⟨n0, ih⟩ := znH ha hb op ln h1 h2 ls (fun l hm => hne l (List.mem_cons_of_mem _ hm)) hp2 ⟨l, hm, hl⟩
   refine ⟨n0 + 1, fun n hn r hr hl => ?_⟩
   obtain ⟨k, rfl⟩ : ∃ k, n = k + 1 := ⟨n - 1, by omega⟩
   show bd ((sG k).2.1 ls) (fun x => bL (sG k).2.1 lv ls big x) (ca ++ tkn 4 op ln :: cb ++ r) = _
   rw [zbz (ih k (by omega) r hr fun l hm => hl l (List.mem_cons_of_mem _ hm))]
   exact zla (z7 (by omega)) (hl lv (List.mem_cons_self ..))
def binop (op : BA) : Prop := ∃ lv ∈ lvls, inB op lv = true
theorem binop.ne {op : BA} (h : binop op) : op ≠ ztb ∧ op ≠ ztv ∧ lvls.Pairwise (fun l l' => ¬ (inB op l = true ∧ inB op l' = true)) := by
 obtain ⟨lv, hm, hl⟩ := h
 rw [zkd] at hl
 simp only [lvls, List.mem_cons, List.not_mem_nil, or_false] at hm
 have h2 : op ∈ ([ztk, zto, ztp, ztq, ztz, ztr, ztA, zts, ztB, ztf, zty, ztC, ztD] : List BA) := by
  rcases hm with rfl | rfl | rfl | rfl | rfl <;> simp only [List.mem_cons, List.not_mem_nil, or_false] at hl ⊢
  ·simp [hl]
  ·simp [hl]
  ·rcases hl with h | h | h | h | h | h <;> simp [h]
  ·rcases hl with h | h <;> simp [h]
  ·rcases hl with h | h | h <;> simp [h]
 simp only [List.mem_cons, List.not_mem_nil, or_false] at h2
 rcases h2 with rfl | rfl | rfl | rfl | rfl | rfl | rfl | rfl | rfl | rfl | rfl | rfl | rfl <;> exact ⟨by decide, by decide, by decide⟩
theorem zsR {a b : zb} {ca cb : List Tok} (ha : Ux a ca) (hb : Ux b cb) {op : BA} (ln : Int) (h : binop op) : Xx ⟨7, 0, zs3, zs3, op, [a, b]⟩ (ca ++ tkn 4 op ln :: cb) :=
 (znH ha hb op ln h.ne.1 h.ne.2.1 lvls (by decide) h.ne.2.2 h).x
end Go.Proofs.Ytnhboaaikehpoaa
