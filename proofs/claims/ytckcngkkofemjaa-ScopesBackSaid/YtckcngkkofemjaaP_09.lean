import Derived.Test.YtckcngkkofemjaaAd
import Derived.Test.YtckcngkkofemjaaF
import Derived.Test.YtckcngkkofemjaaPL
import Derived.Test.YtckcngkkofemjaaP_02
import Derived.Test.YtckcngkkofemjaaP_06
import Derived.Test.YtckcngkkofemjaaP_06b
import Derived.Test.YtckcngkkofemjaaP_06c
import Derived.Test.YtckcngkkofemjaaP_07
import Derived.KernelRfl
namespace Go.Proofs.Ytckcngkkofemjaa
open Go.Ab Go.RowKit
set_option linter.unusedVariables false
set_option linter.unusedSimpArgs false
theorem zcT : zbb = some true := by kernel_rfl
abbrev Pl := zc
abbrev Pt := zi
abbrev Vr := zh
def smP (x : Pl) : Prop := x.Vars.length ≤ 1000 ∧ x.Spans.length ≤ 1000 ∧ (∀ v ∈ x.Vars, v.Fields.length ≤ 1000000) ∧ ∀ s ∈ x.Spans, smS s
def smT (l : List Pl) : Prop := l.length ≤ 1000 ∧ ∀ x ∈ l, smP x
def smQ (l : List Pt) : Prop := l.length ≤ 100000 ∧ ∀ x ∈ l, x.Scope.length ≤ 1000000
theorem SameVar_loop (v : Vr) (h : v.Fields.length ≤ 1000000) : ∀ (n i : Nat), i ≤ v.Fields.length → v.Fields.length - i < n → zc0 v v n (i : Int) = some true
  | 0, i, _, h => by omega
  | n + 1, i, hi, hn => by
    show zbS _ v v (i : Int) = _
    unfold zbS
    by_cases hlt : i < v.Fields.length
    · rw [decT (by omega), if_pos rfl, getI_lt hlt, Option.bind_some, Option.bind_some, strEq_eq, decT rfl, Bool.not_true, if_neg (by simp), i64_succ (by omega)]
      exact SameVar_loop v h n (i + 1) (by omega) (by omega)
    · rw [decF (by omega), if_neg (by simp)]
theorem zeE {v : Vr} (h : v.Fields.length ≤ 1000000) : zbc v v = some true := by
  unfold zbc
  rw [if_neg (by simp [strEq_eq])]
  exact SameVar_loop v h big 0 (by omega) (big_gt (by omega))
theorem Same9_l51 (rec44 : Int → Option Bool) (p : List Pl) (i : Nat) (hi : i < p.length) (hs : smP p[i]) (hr : rec44 (IntKind.i64.wrap ((i : Int) + 1)) = some true) : ∀ (n j : Nat), j ≤ p[i].Spans.length → p[i].Spans.length - j < n → zcM rec44 p p (i : Int) n (j : Int) = some true
  | 0, j, _, h => by omega
  | n + 1, j, hj, hn => by
    show zcy _ _ _ _ _ _ = _
    unfold zcy
    have hl := hs.2.1
    rw [getI_lt hi, Option.bind_some]
    by_cases hlt : j < p[i].Spans.length
    · rw [decT (by omega), if_pos rfl]
      simp only [Option.bind_some, getI_lt hlt]
      rw [zfz (hs.2.2.2 _ (List.getElem_mem hlt)), decT rfl, Option.bind_some, Bool.not_true, if_neg (by simp), i64_succ (by omega)]
      exact Same9_l51 rec44 p i hi hs hr n (j + 1) (by omega) (by omega)
    · rw [decF (by omega), if_neg (by simp)]
      exact hr
theorem Same9_l49 (rec44 : Int → Option Bool) (p : List Pl) (i : Nat) (hi : i < p.length) (hs : smP p[i]) (hr : rec44 (IntKind.i64.wrap ((i : Int) + 1)) = some true) : ∀ (n j : Nat), j ≤ p[i].Vars.length → p[i].Vars.length - j < n → zbI rec44 p p (i : Int) n (j : Int) = some true
  | 0, j, _, h => by omega
  | n + 1, j, hj, hn => by
    show zbu _ _ _ _ _ _ = _
    unfold zbu
    have hl := hs.1
    have hl2 := hs.2.1
    rw [getI_lt hi, Option.bind_some]
    by_cases hlt : j < p[i].Vars.length
    · rw [decT (by omega), if_pos rfl]
      simp only [Option.bind_some, getI_lt hlt]
      rw [show zbc _ _ = some true from zeE (v := p[i].Vars[j]) (hs.2.2.1 _ (List.getElem_mem hlt)), Option.bind_some, Bool.not_true, if_neg (by simp), i64_succ (by omega)]
      exact Same9_l49 rec44 p i hi hs hr n (j + 1) (by omega) (by omega)
    · rw [decF (by omega), if_neg (by simp)]
      exact Same9_l51 rec44 p i hi hs hr big 0 (by omega) (big_gt (by omega))
theorem Same9_l43 (p : List Pl) (hp : smT p) : ∀ (n i : Nat), i ≤ p.length → p.length - i < n → zz p p n (i : Int) = some true
  | 0, i, _, h => by omega
  | n + 1, i, hi, hn => by
    show zc2 _ _ _ _ = _
    unfold zc2
    have hl := hp.1
    by_cases hlt : i < p.length
    · have hs := hp.2 _ (List.getElem_mem hlt)
      have h1 := hs.1
      rw [decT (by omega), if_pos rfl, getI_lt hlt]
      simp only [Option.bind_some, strEq_eq, decide_true, Bool.not_true, Bool.false_eq_true, if_false, bne_self_eq_false]
      exact Same9_l49 (zz p p n) p i hlt hs (by rw [i64_succ (by omega)]; exact Same9_l43 p hp n (i + 1) (by omega) (by omega)) big 0 (by omega) (big_gt (by omega))
    · rw [decF (by omega), if_neg (by simp)]
theorem zeI {p : List Pl} (hp : smT p) : zbh p p = some true := by
  unfold zbh
  rw [bneF rfl, if_neg (by simp)]
  exact Same9_l43 p hp big 0 (by omega) (big_gt (by have := hp.1; omega))
theorem SameP_l15 (rec14 : Int → Option Bool) (p : List Pt) (i : Nat) (hi : i < p.length) (hs : p[i].Scope.length ≤ 1000000) (hr : rec14 (IntKind.i64.wrap ((i : Int) + 1)) = some true) : ∀ (n j : Nat), j ≤ p[i].Scope.length → p[i].Scope.length - j < n → zb5 rec14 p p (i : Int) n (j : Int) = some true
  | 0, j, _, h => by omega
  | n + 1, j, hj, hn => by
    show zc4 _ _ _ _ _ _ = _
    unfold zc4
    rw [getI_lt hi, Option.bind_some]
    by_cases hlt : j < p[i].Scope.length
    · rw [decT (by omega), if_pos rfl]
      simp only [Option.bind_some, getI_lt hlt]
      rw [bneF rfl, if_neg (by simp), i64_succ (by omega)]
      exact SameP_l15 rec14 p i hi hs hr n (j + 1) (by omega) (by omega)
    · rw [decF (by omega), if_neg (by simp)]
      exact hr
theorem SameP_l13 (p : List Pt) (hp : smQ p) : ∀ (n i : Nat), i ≤ p.length → p.length - i < n → zI p p n (i : Int) = some true
  | 0, i, _, h => by omega
  | n + 1, i, hi, hn => by
    show zb0 _ _ _ _ = _
    unfold zb0
    have hl := hp.1
    by_cases hlt : i < p.length
    · have hs := hp.2 _ (List.getElem_mem hlt)
      rw [decT (by omega), if_pos rfl, getI_lt hlt]
      simp only [Option.bind_some, Bool.false_eq_true, if_false, bne_self_eq_false]
      exact SameP_l15 (zI p p n) p i hlt hs (by rw [i64_succ (by omega)]; exact SameP_l13 p hp n (i + 1) (by omega) (by omega)) big 0 (by omega) (big_gt (by omega))
    · rw [decF (by omega), if_neg (by simp)]
theorem ze0 {p : List Pt} (hp : smQ p) : zbd p p = some true := by
  unfold zbd
  rw [bneF rfl, if_neg (by simp)]
  exact SameP_l13 p hp big 0 (by omega) (big_gt (by have := hp.1; omega))
theorem Twin9_l51 (rec44 : List Pl → Int → Option (List Pl)) (p : List Pl) (i : Nat) (hi : i < p.length) (hs : smP p[i]) (acc : List Pl) (ha : acc.length ≤ 1000000) (vs : List Vr) : ∀ (n j : Nat) (ss : List (List Sp)), j ≤ p[i].Spans.length → p[i].Spans.length - j < n → ss.length ≤ j →
    zcg rec44 p (i : Int) p[i] p[i] p[i] n acc vs ss (j : Int) = rec44 (acc ++ [⟨p[i].Name, p[i].From, p[i].To, vs, ss ++ p[i].Spans.drop j⟩]) (IntKind.i64.wrap ((i : Int) + 1))
  | 0, j, _, _, h, _ => by omega
  | n + 1, j, ss, hj, hn, hss => by
    show zb8 _ _ _ _ _ _ _ _ _ _ _ = _
    unfold zb8
    have hl := hs.2.1
    rw [getI_lt hi, Option.bind_some]
    by_cases hlt : j < p[i].Spans.length
    · rw [decT (by omega), if_pos rfl]
      simp only [Option.bind_some, getI_lt hlt]
      rw [zep (hs.2.2.2 _ (List.getElem_mem hlt)), Option.bind_some, room_ok (by simp; omega), Option.bind_some, i64_succ (by omega), Twin9_l51 rec44 p i hi hs acc ha vs n (j + 1) _ (by omega) (by omega) (by simp; omega), List.drop_eq_getElem_cons hlt]
      simp
    · rw [decF (by omega), if_neg (by simp), room_ok (by omega), Option.bind_some, List.drop_of_length_le (by omega), List.append_nil]
theorem Twin9_l49 (rec44 : List Pl → Int → Option (List Pl)) (p : List Pl) (i : Nat) (hi : i < p.length) (hs : smP p[i]) (acc : List Pl) (ha : acc.length ≤ 1000000) : ∀ (n j : Nat) (vs : List Vr), j ≤ p[i].Vars.length → p[i].Vars.length - j < n → vs.length ≤ j →
    zcE rec44 p (i : Int) p[i] p[i] p[i] n acc vs (j : Int) = rec44 (acc ++ [⟨p[i].Name, p[i].From, p[i].To, vs ++ p[i].Vars.drop j, p[i].Spans⟩]) (IntKind.i64.wrap ((i : Int) + 1))
  | 0, j, _, _, h, _ => by omega
  | n + 1, j, vs, hj, hn, hvs => by
    show zcv _ _ _ _ _ _ _ _ _ _ = _
    unfold zcv
    have hl := hs.1
    have hl2 := hs.2.1
    rw [getI_lt hi, Option.bind_some]
    by_cases hlt : j < p[i].Vars.length
    · have hf := hs.2.2.1 _ (List.getElem_mem hlt)
      rw [decT (by omega), if_pos rfl]
      simp only [Option.bind_some, getI_lt hlt]
      rw [room_ok (by simp; omega), Option.bind_some, room_ok (by omega), Option.bind_some, i64_succ (by omega), List.nil_append, Twin9_l49 rec44 p i hi hs acc ha n (j + 1) _ (by omega) (by omega) (by simp; omega), List.drop_eq_getElem_cons hlt]
      have e : ∀ (v : Vr) (d : List Vr), vs ++ [v] ++ d = vs ++ v :: d := fun v d => by rw [List.append_assoc]; rfl
      rw [e]
    · rw [decF (by omega), if_neg (by simp), List.drop_of_length_le (by omega), List.append_nil]
      have := Twin9_l51 rec44 p i hi hs acc ha vs big 0 [] (by omega) (big_gt (by omega)) (by simp)
      simpa using this
theorem Twin9_l43 (p : List Pl) (hp : smT p) : ∀ (n i : Nat) (acc : List Pl), i ≤ p.length → p.length - i < n → acc.length ≤ i → zA p n acc (i : Int) = some (acc ++ p.drop i)
  | 0, i, _, _, h, _ => by omega
  | n + 1, i, acc, hi, hn, ha => by
    show zc5 _ _ _ _ = _
    unfold zc5
    have hl := hp.1
    by_cases hlt : i < p.length
    · have hs := hp.2 _ (List.getElem_mem hlt)
      have h1 := hs.1
      rw [decT (by omega), if_pos rfl, getI_lt hlt]
      simp only [Option.bind_some]
      refine Eq.trans (Twin9_l49 (zA p n) p i hlt hs acc (by omega) big 0 [] (by omega) (big_gt (by omega)) (by simp)) ?_
      rw [i64_succ (by omega), List.nil_append, List.drop_zero, Twin9_l43 p hp n (i + 1) _ (by omega) (by omega) (by simp; omega), List.drop_eq_getElem_cons hlt, List.append_assoc]
      rfl
    · rw [decF (by omega), if_neg (by simp), List.drop_of_length_le (by omega), List.append_nil]
theorem zeC {p : List Pl} (hp : smT p) : zdk p = some p := Twin9_l43 p hp big 0 [] (by omega) (big_gt (by have := hp.1; omega)) (by simp)
theorem TwinP_l3 (p : List Pt) (hp : smQ p) : ∀ (n i : Nat) (acc : List Pt), i ≤ p.length → p.length - i < n → acc.length ≤ i → zci p n acc (i : Int) = some (acc ++ p.drop i)
  | 0, i, _, _, h, _ => by omega
  | n + 1, i, acc, hi, hn, ha => by
    show zcf _ _ _ _ = _
    unfold zcf
    have hl := hp.1
    by_cases hlt : i < p.length
    · have hs := hp.2 _ (List.getElem_mem hlt)
      rw [decT (by omega), if_pos rfl, getI_lt hlt]
      simp only [Option.bind_some]
      rw [room_ok (by simp; omega), Option.bind_some, room_ok (by omega), Option.bind_some, i64_succ (by omega), List.nil_append, TwinP_l3 p hp n (i + 1) _ (by omega) (by omega) (by simp; omega), List.drop_eq_getElem_cons hlt, List.append_assoc]
      rfl
    · rw [decF (by omega), if_neg (by simp), List.drop_of_length_le (by omega), List.append_nil]
theorem zeU {p : List Pt} (hp : smQ p) : zdz p = some p := TwinP_l3 p hp big 0 [] (by omega) (big_gt (by have := hp.1; omega)) (by simp)
def Fin (o : Option Bool) (G : Prop) : Prop := ∃ r, o = some r ∧ (r = false → G)
theorem Fin.t {G : Prop} : Fin (some true) G := ⟨true, rfl, fun h => by cases h⟩
theorem Fin.mono {o : Option Bool} {G H : Prop} (h : Fin o G) (hg : G → H) : Fin o H := by
  obtain ⟨r, h1, h2⟩ := h
  exact ⟨r, h1, fun e => hg (h2 e)⟩
theorem min_rng {a : Nat} {b : Int} (hb : 0 ≤ b) : 0 ≤ minI (a : Int) b ∧ minI (a : Int) b ≤ b ∧ (minI (a : Int) b = a ∨ minI (a : Int) b = b) := by
  have : minI (a : Int) b = if b < (a : Int) then b else a := rfl
  split at this <;> omega
theorem vast_l99 (t : zu) (hp : t.Points.length ≤ 1100) : ∀ (n i : Nat) (s : Int), i ≤ t.Points.length → t.Points.length - i < n → 0 ≤ s ∧ s ≤ 2000 + 32768 * i → Fin (zcG t n s (i : Int)) (s ≤ 20000 ∧ ∀ k, i ≤ k → ∀ h : k < t.Points.length, (t.Points[k]'h).Scope.length ≤ 1000000)
  | 0, i, _, _, h, _ => by omega
  | n + 1, i, s, hi, hn, hs => by
    show Fin (zbT _ _ _ _) _
    unfold zbT
    by_cases hlt : i < t.Points.length
    · have hm := min_rng (a := t.Points[i].Scope.length) (b := 32768) (by omega)
      rw [decT (by omega), if_pos rfl, getI_lt hlt, Option.bind_some, wi64 (x := s + _) (by omega), i64_succ (by omega)]
      refine (vast_l99 t hp n (i + 1) _ (by omega) (by omega) (by omega)).mono fun ⟨h1, h2⟩ => ⟨by omega, fun k hk hkl => ?_⟩
      by_cases he : k = i
      · subst he; omega
      · exact h2 k (by omega) hkl
    · rw [decF (by omega), if_neg (by simp)]
      refine ⟨_, rfl, fun h => ⟨?_, fun k hk hkl => by omega⟩⟩
      have := of_decide_eq_false h
      omega
theorem vast_l97 {G : Prop} (rec84 : Int → Int → Option Bool) (i : Nat) (y : Pl) (hy : y.Spans.length ≤ 100) (hr : ∀ s : Int, 0 ≤ s ∧ s ≤ 2000 → Fin (rec84 s (IntKind.i64.wrap ((i : Int) + 1))) G) : ∀ (n j : Nat) (s : Int), j ≤ y.Spans.length → y.Spans.length - j < n → 0 ≤ s ∧ s ≤ 2000 → Fin (zcD rec84 (i : Int) y n s (j : Int)) (G ∧ ∀ k, j ≤ k → ∀ h : k < y.Spans.length, smS (y.Spans[k]'h))
  | 0, j, _, _, h, _ => by omega
  | n + 1, j, s, hj, hn, hs => by
    show Fin (zcU _ _ _ _ _ _) _
    unfold zcU
    by_cases hlt : j < y.Spans.length
    · have hm := min_rng (a := y.Spans[j].length) (b := 32768) (by omega)
      rw [decT (by omega), if_pos rfl, getI_lt hlt, Option.bind_some, wi64 (x := s + _) (by omega), i64_succ (by omega)]
      by_cases hc : s + minI (y.Spans[j].length : Int) 32768 > 2000
      · rw [decT hc, if_pos rfl, Option.bind_some, if_pos rfl]
        exact Fin.t
      · have hmx : 32768 ≤ maxLen := by decide
        obtain ⟨v, hv, hv2⟩ := zfc (l := y.Spans[j]) (by omega)
        rw [decF hc, if_neg (by simp), Option.bind_some, hv, Option.bind_some, Option.bind_some]
        cases v
        · obtain ⟨h5, h6⟩ := hv2 rfl
          rw [if_neg (by simp)]
          refine (vast_l97 rec84 i y hy hr n (j + 1) _ (by omega) (by omega) (by omega)).mono fun ⟨h1, h2⟩ => ⟨h1, fun k hk hkl => ?_⟩
          by_cases he : k = j
          · subst he
            exact ⟨by omega, fun x hx => by have := h6 x hx; omega⟩
          · exact h2 k (by omega) hkl
        · rw [if_pos rfl]
          exact Fin.t
    · rw [decF (by omega), if_neg (by simp)]
      exact (hr s hs).mono fun g => ⟨g, fun k hk hkl => by omega⟩
theorem vast_l95 {G : Prop} (rec94 : Int → Int → Option Bool) (y : Pl) (s : Int) (j : Nat) (hj : j < y.Vars.length) (hf : y.Vars[j].Fields.length ≤ 2000) (hr : Fin (rec94 (IntKind.i64.wrap (s + minI (y.Vars[j].Fields.length : Int) 32768)) (IntKind.i64.wrap ((j : Int) + 1))) G) : ∀ (n k : Nat), k ≤ y.Vars[j].Fields.length → y.Vars[j].Fields.length - k < n → Fin (zc8 rec94 y s (j : Int) y.Vars[j] n (k : Int)) G
  | 0, k, _, h => by omega
  | n + 1, k, hk, hn => by
    show Fin (zb2 _ _ _ _ _ _ _) _
    unfold zb2
    rw [getI_lt hj, Option.bind_some]
    by_cases hlt : k < y.Vars[j].Fields.length
    · rw [decT (by omega), if_pos rfl, Option.bind_some, getI_lt hlt, Option.bind_some, i64_succ (by omega)]
      split
      · exact Fin.t
      · exact vast_l95 rec94 y s j hj hf hr n (k + 1) (by omega) (by omega)
    · rw [decF (by omega), if_neg (by simp)]
      exact hr
theorem vast_l93 {G : Prop} (rec84 : Int → Int → Option Bool) (i : Nat) (y : Pl) (hy : y.Spans.length ≤ 100) (hy2 : y.Vars.length ≤ 100) (hr : ∀ s : Int, 0 ≤ s ∧ s ≤ 2000 → Fin (rec84 s (IntKind.i64.wrap ((i : Int) + 1))) G) : ∀ (n j : Nat) (s : Int), j ≤ y.Vars.length → y.Vars.length - j < n → 0 ≤ s ∧ s ≤ 2000 → Fin (zL rec84 (i : Int) y n s (j : Int)) (G ∧ (∀ k, 0 ≤ k → ∀ h : k < y.Spans.length, smS (y.Spans[k]'h)) ∧ ∀ k, j ≤ k → ∀ h : k < y.Vars.length, (y.Vars[k]'h).Fields.length ≤ 1000000)
  | 0, j, _, _, h, _ => by omega
  | n + 1, j, s, hj, hn, hs => by
    show Fin (zbA _ _ _ _ _ _) _
    unfold zbA
    by_cases hlt : j < y.Vars.length
    · have hm := min_rng (a := y.Vars[j].Fields.length) (b := 32768) (by omega)
      rw [decT (by omega), if_pos rfl, getI_lt hlt]
      simp only [Option.bind_some]
      have e : ∃ c : Bool, ((if decide ((y.Vars[j].Name.size : Int) > 1000) = true then some true else some (decide ((y.Vars[j].Type_.Name.size : Int) > 1000))) : Option Bool) = some c := by split <;> exact ⟨_, rfl⟩
      obtain ⟨c, hc⟩ := e
      rw [hc, Option.bind_some]
      split
      · exact Fin.t
      · rename_i hcc
        have hw : IntKind.i64.wrap (s + minI (y.Vars[j].Fields.length : Int) 32768) = s + minI (y.Vars[j].Fields.length : Int) 32768 := wi64 (by omega)
        rw [hw] at hcc
        simp only [Bool.or_eq_true, decide_eq_true_eq, not_or] at hcc
        refine vast_l95 (zL rec84 (i : Int) y n) y s j hlt (by omega) ?_ big 0 (by omega) (big_gt (by omega))
        rw [hw, i64_succ (by omega)]
        refine (vast_l93 rec84 i y hy hy2 hr n (j + 1) _ (by omega) (by omega) (by omega)).mono fun ⟨h1, h2, h3⟩ => ⟨h1, h2, fun k hk hkl => ?_⟩
        by_cases he : k = j
        · subst he; omega
        · exact h3 k (by omega) hkl
    · rw [decF (by omega), if_neg (by simp)]
      exact (vast_l97 rec84 i y hy hr big 0 s (by omega) (big_gt (by omega)) hs).mono fun ⟨h1, h2⟩ => ⟨h1, h2, fun k hk hkl => by omega⟩
theorem vast_l83 (t : zu) (hp : t.Points.length ≤ 1100) (hl : t.L.length ≤ 100) : ∀ (n i : Nat) (s : Int), i ≤ t.L.length → t.L.length - i < n → 0 ≤ s ∧ s ≤ 2000 → Fin (zx t n s (i : Int)) ((∀ k, i ≤ k → ∀ h : k < t.L.length, smP (t.L[k]'h)) ∧ smQ t.Points)
  | 0, i, _, _, h, _ => by omega
  | n + 1, i, s, hi, hn, hs => by
    show Fin (zbz _ _ _ _) _
    unfold zbz
    by_cases hlt : i < t.L.length
    · rw [decT (by omega), if_pos rfl, getI_lt hlt, Option.bind_some]
      split
      · exact Fin.t
      · rename_i hcc
        simp only [Bool.or_eq_true, decide_eq_true_eq, not_or] at hcc
        refine (vast_l93 (G := (∀ k, i + 1 ≤ k → ∀ h : k < t.L.length, smP (t.L[k]'h)) ∧ smQ t.Points) (zx t n) i t.L[i] (by omega) (by omega) (fun s' hs' => by rw [i64_succ (by omega)]; exact vast_l83 t hp hl n (i + 1) s' (by omega) (by omega) hs') big 0 s (by omega) (big_gt (by omega)) hs).mono fun ⟨⟨h1, h0⟩, h2, h3⟩ => ⟨fun k hk hkl => ?_, h0⟩
        by_cases he : k = i
        · subst he
          refine ⟨by omega, by omega, fun v hv => ?_, fun z hz => ?_⟩
          · obtain ⟨q, hq, rfl⟩ := List.getElem_of_mem hv
            exact h3 q (by omega) hq
          · obtain ⟨q, hq, rfl⟩ := List.getElem_of_mem hz
            exact h2 q (by omega) hq
        · exact h1 k (by omega) hkl
    · rw [decF (by omega), if_neg (by simp)]
      refine (vast_l99 t hp big 0 s (by omega) (big_gt (by omega)) (by omega)).mono fun ⟨h1, h2⟩ => ⟨fun k hk hkl => by omega, by omega, fun x hx => ?_⟩
      obtain ⟨q, hq, rfl⟩ := List.getElem_of_mem hx
      exact h2 q (by omega) hq
theorem zew (t : zu) : ∃ r, zbi t = some r ∧ (r = false → smT t.L ∧ smQ t.Points) := by
  unfold zbi
  by_cases hc : (t.L.length : Int) > 100 ∨ (t.Points.length : Int) > 1100
  · rw [if_pos (by simpa using hc)]
    exact ⟨true, rfl, fun h => by cases h⟩
  · rw [if_neg (by simpa using hc)]
    obtain ⟨r, h1, h2⟩ := vast_l83 t (by omega) (by omega) big 0 0 (by omega) (big_gt (by omega)) (by omega)
    refine ⟨r, h1, fun hf => ?_⟩
    obtain ⟨h3, h4⟩ := h2 hf
    refine ⟨⟨by omega, fun x hx => ?_⟩, h4⟩
    obtain ⟨q, hq, rfl⟩ := List.getElem_of_mem hx
    exact h3 q (by omega) hq
end Go.Proofs.Ytckcngkkofemjaa
