import Derived.Test.YtckcngkkofemjaaAd
import Derived.Test.YtckcngkkofemjaaF
import Derived.Test.YtckcngkkofemjaaPL
import Derived.Test.YtckcngkkofemjaaP_02
import Derived.Test.YtckcngkkofemjaaP_01
import Derived.Test.YtckcngkkofemjaaP_06
import Derived.Test.YtckcngkkofemjaaP_06b
import Derived.Test.YtckcngkkofemjaaP_06c
import Derived.Test.YtckcngkkofemjaaP_07
import Derived.Test.YtckcngkkofemjaaP_07b
import Derived.Test.YtckcngkkofemjaaP_09
import Derived.Test.YtckcngkkofemjaaP_09c
import Derived.Test.YtckcngkkofemjaaP_09d
import Derived.Test.YtckcngkkofemjaaP_09e
import Derived.Test.YtckcngkkofemjaaP_09f
import Derived.Test.YtckcngkkofemjaaP_09g
import Derived.Test.YtckcngkkofemjaaP_09h
import Derived.Test.YtckcngkkofemjaaP_09i
import Derived.Test.YtckcngkkofemjaaP_09j
import Derived.Test.YtckcngkkofemjaaP_09k
import Derived.Test.YtckcngkkofemjaaP_09l
namespace Go.Proofs.Ytckcngkkofemjaa
open Go.Ab Go.RowKit
set_option linter.unusedVariables false
set_option linter.unusedSimpArgs false
theorem wtext {b : List UInt8} {s : ByteArray} (hs : s.size ≤ 255) (hb : b.length ≤ 100000000000) : zM ⟨b⟩ s = some ⟨b ++ txE s⟩ := by
  unfold zM
  simp only
  rw [zfw (by omega), if_neg (by omega), Option.bind_some]
  simp only [txE, List.append_assoc, List.cons_append, List.nil_append]
theorem wnum {b : List UInt8} {x : Int} (h0 : 0 ≤ x) (hx : x ≤ 1000000000) (hb : b.length ≤ 100000000000) : zy ⟨b⟩ x = some ⟨b ++ numE x⟩ := by
  obtain ⟨n, rfl⟩ : ∃ n : Nat, x = n := ⟨x.toNat, by omega⟩
  unfold zy
  simp only
  rw [wu64 (by omega), zX (by omega) (by omega), Option.bind_some]
  unfold numE
  rw [Int.toNat_natCast]
theorem wk9 {b : List UInt8} {s : List Sp} (hs : spV s) (hb : b.length ≤ 80000000000) : zV s b = some ⟨b ++ encSp s⟩ := by
  unfold zV
  rw [zei (St_small9 hs.1) hs.2 hb, if_pos hs.1, Option.bind_some]
theorem wvar_loop (v : Vr) (s : List Sp) (hs : spV s) (hl : v.Fields.length ≤ 8) (hf : ∀ x ∈ v.Fields, x.size ≤ 255) : ∀ (n i : Nat) (b : List UInt8), i ≤ v.Fields.length → v.Fields.length - i < n → (b ++ (v.Fields.drop i).flatMap txE).length ≤ 80000000000 → zca v s n b (i : Int) = some ⟨b ++ (v.Fields.drop i).flatMap txE ++ encSp s⟩
  | 0, i, _, _, h, _ => by omega
  | n + 1, i, b, hi, hn, hb => by
    show zcd _ v s b (i : Int) = _
    unfold zcd
    have hb2 := hb
    rw [List.length_append] at hb2
    by_cases hlt : i < v.Fields.length
    · rw [List.drop_eq_getElem_cons hlt, List.flatMap_cons, ← List.append_assoc] at hb ⊢
      rw [decT (by omega), if_pos rfl, getI_lt hlt, Option.bind_some, wtext (hf _ (List.getElem_mem hlt)) (by omega), Option.bind_some, i64_succ (by omega)]
      exact wvar_loop v s hs hl hf n (i + 1) _ (by omega) (by omega) hb
    · rw [decF (by omega), if_neg (by simp), wk9 hs (by omega), List.drop_of_length_le (by omega), List.flatMap_nil, List.append_nil]
theorem wvar {b : List UInt8} {v : Vr} {s : List Sp} (hv : vaV v) (hs : spV s) (hb : (b ++ (vaE v ++ encSp s)).length ≤ 80000000000) : zbg ⟨b⟩ v s = some ⟨b ++ (vaE v ++ encSp s)⟩ := by
  have hv8 := (vaV_sm hv).2
  obtain ⟨h1, h2⟩ := hv
  unfold zbg
  unfold vaE at hb ⊢
  have hb2 := hb
  simp only [List.length_append, List.length_cons] at hb2
  simp only
  rw [wtext h1 (by omega), Option.bind_some]
  simp only
  rw [room_ok (by simp only [List.length_append, List.length_cons, List.length_nil]; omega), Option.bind_some]
  by_cases k3 : v.Type_.Kind.toNat = 3
  · simp only [k3, if_true] at h2 hb2 ⊢
    rw [beqT (by omega), if_pos rfl, wnum (by omega) (by omega) (by simp only [List.length_append, List.length_cons, List.length_nil]; omega), Option.bind_some, wk9 hs (by simp only [List.length_append, List.length_cons, List.length_nil]; omega)]
    simp
  · by_cases k4 : v.Type_.Kind.toNat = 4
    · simp only [k4, if_true, show ¬ (4 = 3) by omega, if_false] at h2 hb2 ⊢
      obtain ⟨a1, a2, a3, a4⟩ := h2
      have hN : numE (v.Fields.length : Int) = encU v.Fields.length := by unfold numE; rw [Int.toNat_natCast]
      simp only [lsE, List.length_append] at hb2
      rw [beqF (by omega), if_neg (by simp), beqT (by omega), if_pos rfl, wtext a2 (by simp only [List.length_append, List.length_cons, List.length_nil]; omega), Option.bind_some, wnum (by omega) (by omega) (by simp only [List.length_append, List.length_cons, List.length_nil]; omega), Option.bind_some, hN]
      have h := wvar_loop v s hs hv8 a3.2 big 0 (b ++ txE v.Name ++ [v.Type_.Kind] ++ txE v.Type_.Name ++ encU v.Fields.length) (by omega) (big_gt (by omega)) (by simp only [List.drop_zero, List.length_append, List.length_cons, List.length_nil]; omega)
      rw [List.drop_zero] at h
      refine Eq.trans h ?_
      simp [lsE]
    · simp only [k3, k4, if_false] at h2 hb2 ⊢
      rw [beqF (by omega), if_neg (by simp), beqF (by omega), if_neg (by simp), wk9 hs (by simp only [List.length_append, List.length_cons, List.length_nil]; omega)]
      simp
theorem wplace_loop (p : Pl) (h6 : p.Spans.length = p.Vars.length) (h5 : p.Vars.length ≤ 64) (h7 : ∀ v ∈ p.Vars, vaV v) (h8 : ∀ s ∈ p.Spans, spV s) : ∀ (n i : Nat) (b : List UInt8), i ≤ p.Vars.length → p.Vars.length - i < n → (b ++ encVS (p.Vars.drop i) (p.Spans.drop i)).length ≤ 80000000000 → zcC p n b (i : Int) = some ⟨b ++ encVS (p.Vars.drop i) (p.Spans.drop i)⟩
  | 0, i, _, _, h, _ => by omega
  | n + 1, i, b, hi, hn, hb => by
    show zc7 _ p b (i : Int) = _
    unfold zc7
    by_cases hlt : i < p.Vars.length
    · have hlt2 : i < p.Spans.length := by omega
      rw [List.drop_eq_getElem_cons hlt, List.drop_eq_getElem_cons hlt2, encVS, ← List.append_assoc] at hb ⊢
      have hb2 := hb
      rw [List.length_append] at hb2
      rw [decT (by omega), if_pos rfl, getI_lt hlt, Option.bind_some, getI_lt hlt2, Option.bind_some, show zbg _ _ _ = _ from wvar (h7 _ (List.getElem_mem hlt)) (h8 _ (List.getElem_mem hlt2)) (by omega), Option.bind_some, i64_succ (by omega)]
      exact wplace_loop p h6 h5 h7 h8 n (i + 1) _ (by omega) (by omega) hb
    · rw [decF (by omega), if_neg (by simp), List.drop_of_length_le (by omega), encVS, List.append_nil]
theorem wplace {b : List UInt8} {x : Pl} {last : Int} (hx : plV last x) (h0 : 0 ≤ last) (hb : (b ++ plE last x).length ≤ 80000000000) : zbj ⟨b⟩ x last = some ⟨b ++ plE last x⟩ := by
  obtain ⟨h1, h2, h3, h4, h5, h6, h7, h8⟩ := hx
  have hb2 := hb
  simp only [plE, List.length_append] at hb2
  have hN : numE (x.Vars.length : Int) = encU x.Vars.length := by unfold numE; rw [Int.toNat_natCast]
  unfold zbj
  simp only
  rw [wtext h1 (by omega), Option.bind_some, wi64 (by omega), wnum (by omega) (by omega) (by simp only [List.length_append]; omega), Option.bind_some, wi64 (by omega), wnum (by omega) (by omega) (by simp only [List.length_append]; omega), Option.bind_some, wnum (by omega) (by omega) (by simp only [List.length_append]; omega), Option.bind_some, hN]
  have h := wplace_loop x h6 (by omega) h7 h8 big 0 (b ++ txE x.Name ++ numE (x.From - last) ++ numE (x.To - x.From) ++ encU x.Vars.length) (by omega) (big_gt (by omega)) (by simp only [List.drop_zero, List.length_append]; omega)
  rw [List.drop_zero, List.drop_zero] at h
  refine Eq.trans h ?_
  simp [plE]
theorem Put_l51 (rec50 : List UInt8 → Int → Option (List UInt8 × Int)) (k : Int) (x : Pt) (hx : ptV x) : ∀ (n i : Nat) (b : List UInt8), i ≤ x.Scope.length → x.Scope.length - i < n → (b ++ (x.Scope.drop i).flatMap numE).length ≤ 80000000000 → zcm rec50 k x n b (i : Int) = rec50 (b ++ (x.Scope.drop i).flatMap numE) (IntKind.i64.wrap (k + 1))
  | 0, i, _, _, h, _ => by omega
  | n + 1, i, b, hi, hn, hb => by
    show zbp _ rec50 k x b (i : Int) = _
    unfold zbp
    have h1 := hx.2.2.1
    by_cases hlt : i < x.Scope.length
    · have hy := hx.2.2.2 _ (List.getElem_mem hlt)
      rw [List.drop_eq_getElem_cons hlt, List.flatMap_cons, ← List.append_assoc] at hb ⊢
      have hb2 := hb
      simp only [List.length_append] at hb2
      rw [decT (by omega), if_pos rfl, getI_lt hlt, Option.bind_some, wnum (by omega) (by omega) (by omega), Option.bind_some, i64_succ (by omega)]
      exact Put_l51 rec50 k x hx n (i + 1) _ (by omega) (by omega) hb
    · rw [decF (by omega), if_neg (by simp), List.drop_of_length_le (by omega), List.flatMap_nil, List.append_nil]
theorem Put_l49 (q : List Pt) (hl : q.length ≤ 1000) (hq : ∀ x ∈ q, ptV x) : ∀ (n i : Nat) (b : List UInt8), i ≤ q.length → q.length - i < n → (b ++ (q.drop i).flatMap ptE).length ≤ 80000000000 → zF q n b (i : Int) = some (b ++ (q.drop i).flatMap ptE, 0)
  | 0, i, _, _, h, _ => by omega
  | n + 1, i, b, hi, hn, hb => by
    show zcz _ q b (i : Int) = _
    unfold zcz
    by_cases hlt : i < q.length
    · have hx := hq _ (List.getElem_mem hlt)
      obtain ⟨v1, v2, v3, v4⟩ := hx
      have hN : numE (q[i].Scope.length : Int) = encU q[i].Scope.length := by unfold numE; rw [Int.toNat_natCast]
      rw [List.drop_eq_getElem_cons hlt, List.flatMap_cons, ← List.append_assoc] at hb ⊢
      have hb2 := hb
      simp only [ptE, lsE, List.length_append] at hb2
      rw [decT (by omega), if_pos rfl, getI_lt hlt, Option.bind_some, wnum (by omega) (by omega) (by omega), Option.bind_some, wnum (by omega) (by omega) (by simp only [List.length_append]; omega), Option.bind_some, wnum (by omega) (by omega) (by simp only [List.length_append]; omega), Option.bind_some, hN]
      have h := Put_l51 (zF q n) (i : Int) q[i] ⟨v1, v2, v3, v4⟩ big 0 (b ++ numE q[i].Func ++ numE q[i].Line ++ encU q[i].Scope.length) (by omega) (big_gt (by omega)) (by simp only [List.drop_zero, List.length_append]; omega)
      rw [List.drop_zero, i64_succ (by omega)] at h
      have e : b ++ numE q[i].Func ++ numE q[i].Line ++ encU q[i].Scope.length ++ q[i].Scope.flatMap numE = b ++ ptE q[i] := by simp [ptE, lsE]
      rw [e] at h
      exact Eq.trans h (Put_l49 q hl hq n (i + 1) _ (by omega) (by omega) hb)
    · rw [decF (by omega), if_neg (by simp), List.drop_of_length_le (by omega), List.flatMap_nil, List.append_nil]
theorem Put_l43 (l : List Pl) (q : List Pt) (hl : l.length ≤ 64) (hq1 : q.length ≤ 1000) (hq : ∀ x ∈ q, ptV x) : ∀ (n i : Nat) (b : List UInt8) (last : Int), i ≤ l.length → l.length - i < n → 0 ≤ last → plsV last (l.drop i) → (b ++ encPls last (l.drop i) ++ lsE ptE q).length ≤ 80000000000 → zcb l q n b last (i : Int) = some (b ++ encPls last (l.drop i) ++ lsE ptE q, 0)
  | 0, i, _, _, _, h, _, _, _ => by omega
  | n + 1, i, b, last, hi, hn, h0, hv, hb => by
    show zbJ _ l q b last (i : Int) = _
    unfold zbJ
    by_cases hlt : i < l.length
    · rw [List.drop_eq_getElem_cons hlt] at hv hb ⊢
      rw [encPls, ← List.append_assoc] at hb ⊢
      have hb2 := hb
      rw [List.length_append, List.length_append] at hb2
      have hx := hv.1
      rw [decT (by omega), if_pos rfl, getI_lt hlt, Option.bind_some, show zbj _ _ _ = _ from wplace hx h0 (by omega), Option.bind_some, i64_succ (by omega)]
      exact Put_l43 l q hl hq1 hq n (i + 1) _ _ (by omega) (by omega) (by have := hx.2.1; have := hx.2.2.1; omega) hv.2 hb
    · have hN : numE (q.length : Int) = encU q.length := by unfold numE; rw [Int.toNat_natCast]
      rw [List.drop_of_length_le (by omega), encPls, List.append_nil] at hb ⊢
      have hb2 := hb
      simp only [lsE, List.length_append] at hb2
      rw [decF (by omega), if_neg (by simp), wnum (by omega) (by omega) (by omega), Option.bind_some, hN]
      have h := Put_l49 q hq1 hq big 0 (b ++ encU q.length) (by omega) (big_gt (by omega)) (by simp only [List.drop_zero, List.length_append]; omega)
      rw [List.drop_zero] at h
      refine Eq.trans h ?_
      simp [lsE]
theorem zd3 {b : List UInt8} {l : List Pl} {q : List Pt} (hl : smT l) (hw : ∀ x ∈ l, smW x) (hq : smQ q) (hi : ∀ x ∈ l, inP x) (hb : b.length ≤ 10000000000) : zT b l q = some (if RB l q = true then (b ++ encTab l q, 0) else ([], 1)) := by
  unfold zT
  rw [zb4 hl hw hq, Option.bind_some]
  cases h : RB l q
  · rw [Bool.not_false, if_pos rfl, if_neg (by simp)]
  · have hv := RB_V h hi
    have hlen := encTab_len hv
    obtain ⟨⟨h1, h2⟩, h3, h4⟩ := hv
    have hb2 := hlen.2
    simp only [encTab, plsE, List.length_append] at hb2
    rw [Bool.not_true, if_neg (by simp), if_pos rfl, wu64 (by omega), zX (by omega) (by omega), Option.bind_some]
    have h := Put_l43 l q (by omega) (by omega) h4 big 0 (b ++ encU l.length) 0 (by omega) (big_gt (by omega)) (by omega) h2 (by simp only [List.drop_zero, List.length_append]; omega)
    rw [List.drop_zero] at h
    refine Eq.trans h ?_
    simp [encTab, plsE]
def tabAt (b : List UInt8) (a : Int) (r : List Pl × List Pt × Int × Int) : Prop :=
  ∃ (l : List Pl) (q : List Pt) (i : Nat), a = i ∧ r = (l, q, ((i + (encTab l q).length : Nat) : Int), 0) ∧ LiesL b i (encTab l q) ∧ RB l q = true ∧ tbV l q
theorem zfB {b : List UInt8} (hb : b.length ≤ 100000000000) (a : Int) : ∃ r, zH b a = some r ∧ ((r = ([], [], 0, 1) ∨ r = ([], [], 0, 5)) ∨ tabAt b a r) := by
  unfold zH
  by_cases ha : a < 0 ∨ a > b.length
  · rw [if_pos (by simpa using ha)]
    exact ⟨_, rfl, .inl (.inl rfl)⟩
  · rw [if_neg (by simpa using ha)]
    obtain ⟨l, ⟨qb, qa, qf⟩, e1, hqb, a0, a1, g1⟩ := pls_S hb a false (by omega) (by omega)
    simp only at e1 hqb a0 a1 g1
    subst hqb
    obtain ⟨⟨l', q', st⟩, e1', e1''⟩ := Option.map_eq_some_iff.1 e1
    injection e1'' with e2 e3
    simp only at e2 e3
    subst e2; subst e3
    rw [e1', Option.bind_some]
    simp only
    obtain ⟨q, ⟨ub, ua, uf⟩, e4, hub, b0, b1, g2⟩ := pts_S hb qa qf a0 a1
    simp only at e4 hub b0 b1 g2
    subst hub
    rw [e4, Option.bind_some]
    simp only
    rcases g2 with g2 | ⟨f2, w2, v2, i2, p2, L2, q2⟩
    · subst g2
      rw [if_pos rfl, Option.bind_some, if_pos rfl]
      exact ⟨_, rfl, .inl (.inr rfl)⟩
    · rcases g1 with g1 | ⟨f1, w1, v1, i1, p1, L1, q1⟩
      · rw [g1] at f2; cases f2
      subst w2
      have hv : tbV l' q := ⟨v1, v2⟩
      obtain ⟨s1, s2, s3, s4⟩ := tbV_sm hv
      rw [if_neg (by simp), zb4 s1 s2 s3, Option.bind_some, Option.bind_some]
      cases hB : RB l' q
      · rw [Bool.not_false, if_pos rfl]
        exact ⟨_, rfl, .inl (.inr rfl)⟩
      · rw [Bool.not_true, if_neg (by simp)]
        obtain rfl : i2 = i1 + (plsE l').length := by omega
        refine ⟨_, rfl, .inr ⟨l', q, i1, p1, ?_, L1.app L2, hB, hv⟩⟩
        rw [q2, encTab, List.length_append, Nat.add_assoc]
theorem zfE {p r : List UInt8} {l : List Pl} {q : List Pt} (hv : tbV l q) (hB : RB l q = true) (hlen : (p ++ encTab l q ++ r).length ≤ 100000000000) : zH (p ++ encTab l q ++ r) (p.length : Int) = some (l, q, (((p ++ encTab l q).length : Nat) : Int), 0) := by
  have hv' := hv
  obtain ⟨h1, h2⟩ := hv'
  obtain ⟨s1, s2, s3, s4⟩ := tbV_sm hv
  have q1 : p ++ encTab l q ++ r = p ++ plsE l ++ (lsE ptE q ++ r) := by simp [encTab]
  have q2 : p ++ encTab l q ++ r = (p ++ plsE l) ++ lsE ptE q ++ r := by simp [encTab]
  have g1 := pls_P p (lsE ptE q ++ r) l h1 (by rw [← q1]; exact hlen)
  rw [← q1] at g1
  have g2 := pts_P (p ++ plsE l) r q h2 (by rw [← q2]; exact hlen)
  rw [← q2] at g2
  obtain ⟨⟨l', q', st⟩, e1', e1''⟩ := Option.map_eq_some_iff.1 g1
  injection e1'' with e2 e3
  simp only at e2 e3
  subst e2; subst e3
  simp only at g2
  unfold zH
  rw [if_neg (by simp; omega), e1', Option.bind_some]
  simp only
  rw [g2, Option.bind_some]
  simp only
  rw [if_neg (by simp), zb4 s1 s2 s3, hB, Option.bind_some, Option.bind_some, Bool.not_true, if_neg (by simp)]
  simp [encTab]
end Go.Proofs.Ytckcngkkofemjaa
