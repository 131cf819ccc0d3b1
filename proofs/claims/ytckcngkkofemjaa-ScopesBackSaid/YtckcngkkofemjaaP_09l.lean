import Derived.Test.YtckcngkkofemjaaAd
import Derived.Test.YtckcngkkofemjaaF
import Derived.Test.YtckcngkkofemjaaPL
import Derived.Test.YtckcngkkofemjaaP_02
import Derived.Test.YtckcngkkofemjaaP_01
import Derived.Test.YtckcngkkofemjaaP_06
import Derived.Test.YtckcngkkofemjaaP_06b
import Derived.Test.YtckcngkkofemjaaP_06c
import Derived.Test.YtckcngkkofemjaaP_07
import Derived.Test.YtckcngkkofemjaaP_07b
import Derived.Test.YtckcngkkofemjaaP_09
import Derived.Test.YtckcngkkofemjaaP_09c
import Derived.Test.YtckcngkkofemjaaP_09d
import Derived.Test.YtckcngkkofemjaaP_09e
import Derived.Test.YtckcngkkofemjaaP_09f
import Derived.Test.YtckcngkkofemjaaP_09g
import Derived.Test.YtckcngkkofemjaaP_09h
import Derived.Test.YtckcngkkofemjaaP_09i
import Derived.Test.YtckcngkkofemjaaP_09j
import Derived.Test.YtckcngkkofemjaaP_09k
namespace Go.Proofs.Ytckcngkkofemjaa
open Go.Ab Go.RowKit
set_option linter.unusedVariables false
set_option linter.unusedSimpArgs false
theorem rtS_Rt9 : ∀ {l : List Sp} {last : Int}, rtS last l = true → ∀ x ∈ l, Rt x.At = true
  | [], _, _, _, h => (nomatch h)
  | y :: l, last, h, x, hx => by
    obtain ⟨h1, h2, h3⟩ := rtS_cons h
    rcases List.mem_cons.1 hx with rfl | hx
    · exact h2
    · exact rtS_Rt9 h3 x hx
theorem St_small9 {l : List Sp} (h : St l = true) : smS l := by
  have h' := h
  unfold St at h'
  simp only [Bool.and_eq_true, decide_eq_true_eq] at h'
  exact ⟨by omega, fun x hx => by have := (Rt_ok (rtS_Rt9 h'.1 x hx)).2.1; omega⟩
theorem encSp_len9 {l : List Sp} (h : spV l) : (encSp l).length ≤ 880010 := by
  obtain ⟨h, hr⟩ := h
  unfold St at h
  simp only [Bool.and_eq_true, decide_eq_true_eq] at h
  have h1 := encSs_len h.1 (by omega) hr
  have h2 := encU_le10 (x := l.length) (by omega)
  simp only [encSp, List.length_append]
  omega
theorem rvB_V {v : Vr} (h : rvB v = true) : vaV v := by
  unfold rvB at h
  rw [Bool.and_eq_true] at h
  obtain ⟨h1, h2⟩ := h
  have hn := nmB_len h1
  refine ⟨by omega, ?_⟩
  have hk : vk v = (v.Type_.Kind.toNat : Int) := rfl
  by_cases k3 : v.Type_.Kind.toNat = 3
  · rw [if_pos k3]
    rw [if_neg (by omega), if_pos (by omega)] at h2
    simp only [strEq_eq, Bool.and_eq_true, decide_eq_true_eq, beq_iff_eq] at h2
    obtain ⟨⟨⟨⟨a1, a2⟩, a3⟩, a4⟩, a5⟩ := h2
    exact ⟨by omega, a4, a5, a1, List.length_eq_zero_iff.1 (by omega)⟩
  · rw [if_neg k3]
    by_cases k4 : v.Type_.Kind.toNat = 4
    · rw [if_pos k4]
      rw [if_neg (by omega), if_neg (by omega), if_pos (by omega)] at h2
      simp only [Bool.and_eq_true, decide_eq_true_eq, beq_iff_eq, List.all_eq_true] at h2
      obtain ⟨⟨⟨⟨⟨a1, a2⟩, a3⟩, a4⟩, a5⟩, a6⟩ := h2
      have := nmB_len a1
      exact ⟨a2, by omega, ⟨by omega, fun x hx => by have := nmB_len (a6 x hx); omega⟩, a3⟩
    · rw [if_neg k4]
      by_cases k12 : vk v = 1 ∨ vk v = 2
      · rw [if_pos k12] at h2
        simp only [strEq_eq, Bool.and_eq_true, decide_eq_true_eq, beq_iff_eq] at h2
        obtain ⟨⟨⟨a1, a2⟩, a3⟩, a4⟩ := h2
        exact ⟨a3, a1, List.length_eq_zero_iff.1 (by omega), a4⟩
      · rw [if_neg k12, if_neg (by omega), if_neg (by omega)] at h2
        cases h2
theorem vsB_V (p : Pl) : ∀ (l : List Vr) (ss : List (List Sp)), ss.length = l.length → vsB p l ss = true → (∀ v ∈ l, vaV v) ∧ ∀ s ∈ ss, St s = true
  | [], ss, h, _ => by
    obtain rfl := List.length_eq_zero_iff.1 h
    exact ⟨by simp, by simp⟩
  | v :: l, [], h, _ => by simp at h
  | v :: l, s :: ss, h, hB => by
    rw [vsB, Bool.and_eq_true, Bool.and_eq_true] at hB
    obtain ⟨⟨h1, h2⟩, h3⟩ := hB
    obtain ⟨g1, g2⟩ := vsB_V p l ss (by simpa using h) h3
    unfold spB at h2
    rw [Bool.and_eq_true] at h2
    refine ⟨fun x hx => ?_, fun x hx => ?_⟩
    · rcases List.mem_cons.1 hx with rfl | hx
      · exact rvB_V h1
      · exact g1 x hx
    · rcases List.mem_cons.1 hx with rfl | hx
      · exact h2.1
      · exact g2 x hx
def inP (x : Pl) : Prop := ∀ s ∈ x.Spans, ∀ y ∈ s, inr y.At
theorem rpB_V {last : Int} {p : Pl} (h : rpB last p = true) (h0 : 0 ≤ last) (hi : inP p) : plV last p ∧ 0 ≤ p.To := by
  unfold rpB at h
  simp only [Bool.and_eq_true, decide_eq_true_eq] at h
  obtain ⟨⟨⟨⟨⟨⟨h1, h2⟩, h3⟩, h4⟩, h5⟩, h6⟩, h7⟩ := h
  have hn := nmB_len h1
  obtain ⟨g1, g2⟩ := vsB_V p _ _ h6 h7
  exact ⟨⟨by omega, by omega, by omega, h4, h5, h6, g1, fun s hs => ⟨g2 s hs, hi s hs⟩⟩, by omega⟩
theorem plB_V : ∀ (l : List Pl) (last : Int), plB last l = true → 0 ≤ last → (∀ x ∈ l, inP x) → plsV last l
  | [], _, _, _, _ => trivial
  | x :: l, last, h, h0, hi => by
    rw [plB, Bool.and_eq_true] at h
    obtain ⟨g1, g2⟩ := rpB_V h.1 h0 (hi x (by simp))
    exact ⟨g1, plB_V l x.To h.2 g2 fun y hy => hi y (List.mem_cons_of_mem _ hy)⟩
theorem scB_V (m : Int) (hm : m ≤ 64) : ∀ (l : List Int) (last : Int), scB m last l = true → -1 ≤ last → (∀ y ∈ l, 0 ≤ y ∧ y ≤ 64) ∧ (l.length = 0 ∨ (l.length : Int) ≤ m - last - 1)
  | [], _, _, _ => ⟨by simp, .inl rfl⟩
  | y :: l, last, h, h0 => by
    rw [scB] at h
    simp only [Bool.and_eq_true, decide_eq_true_eq] at h
    obtain ⟨⟨h1, h2⟩, h3⟩ := h
    obtain ⟨g1, g2⟩ := scB_V m hm l y h3 (by omega)
    refine ⟨fun z hz => ?_, .inr ?_⟩
    · rcases List.mem_cons.1 hz with rfl | hz
      · omega
      · exact g1 z hz
    · simp only [List.length_cons]
      omega
theorem vn_le {l : List Pl} {last : Int} (h : plsV last l) : ∀ k, vn l k ≤ 64 := by
  have : ∀ (l : List Pl) (last : Int), plsV last l → ∀ x ∈ l, (x.Vars.length : Int) ≤ 64 := by
    intro l
    induction l with
    | nil => intro _ _ x hx; cases hx
    | cons y l ih =>
      intro last h x hx
      rcases List.mem_cons.1 hx with rfl | hx
      · exact h.1.2.2.2.2.1
      · exact ih _ h.2 x hx
  intro k
  unfold vn
  by_cases hk : k < l.length
  · have h1 := this l last h _ (List.getElem_mem hk)
    rw [List.getElem?_eq_getElem hk]
    exact h1
  · rw [List.getElem?_eq_none (by omega)]
    simp
def tbV (l : List Pl) (q : List Pt) : Prop := ((l.length : Int) ≤ 64 ∧ plsV 0 l) ∧ (q.length : Int) ≤ 1000 ∧ ∀ x ∈ q, ptV x
theorem RB_V {l : List Pl} {q : List Pt} (h : RB l q = true) (hi : ∀ x ∈ l, inP x) : tbV l q := by
  unfold RB at h
  simp only [Bool.and_eq_true, decide_eq_true_eq, List.all_eq_true] at h
  obtain ⟨⟨h1, h2⟩, h3, h4⟩ := h
  have hv := plB_V l 0 h1 (by omega) hi
  refine ⟨⟨h3, hv⟩, h4, fun x hx => ?_⟩
  have hx := h2 x hx
  unfold ptB at hx
  rw [Bool.and_eq_true, decide_eq_true_eq] at hx
  obtain ⟨⟨a1, a2, a3, a4⟩, a5⟩ := hx
  obtain ⟨g1, g2⟩ := scB_V _ (vn_le hv x.Func.toNat) _ _ a5 (by omega)
  have := vn_le hv x.Func.toNat
  exact ⟨by omega, by omega, by omega, g1⟩
theorem vaV_sm {v : Vr} (h : vaV v) : smV v ∧ v.Fields.length ≤ 8 := by
  obtain ⟨h1, h2⟩ := h
  by_cases k3 : v.Type_.Kind.toNat = 3
  · rw [if_pos k3] at h2
    obtain ⟨a1, a2, a3, a4, a5⟩ := h2
    rw [smV, a4, a5]
    exact ⟨⟨by omega, Nat.zero_le _, by simp, by simp⟩, by simp⟩
  · rw [if_neg k3] at h2
    by_cases k4 : v.Type_.Kind.toNat = 4
    · rw [if_pos k4] at h2
      obtain ⟨a1, a2, a3, a4⟩ := h2
      exact ⟨⟨by omega, by omega, by omega, fun x hx => by have := a3.2 x hx; omega⟩, by omega⟩
    · rw [if_neg k4] at h2
      obtain ⟨a1, a2, a3, a4⟩ := h2
      rw [smV, a2, a3]
      exact ⟨⟨by omega, Nat.zero_le _, by simp, by simp⟩, by simp⟩
theorem plV_sm {last : Int} {x : Pl} (h : plV last x) : smP x ∧ smW x := by
  obtain ⟨h1, h2, h3, h4, h5, h6, h7, h8⟩ := h
  exact ⟨⟨by omega, by omega, fun v hv => by have := (vaV_sm (h7 v hv)).2; omega, fun s hs => St_small9 (h8 s hs).1⟩, by omega, fun v hv => (vaV_sm (h7 v hv)).1⟩
theorem plsV_sm : ∀ {l : List Pl} {last : Int}, plsV last l → ∀ x ∈ l, smP x ∧ smW x ∧ inP x
  | [], _, _, _, h => (nomatch h)
  | y :: l, last, h, x, hx => by
    rcases List.mem_cons.1 hx with rfl | hx
    · exact ⟨(plV_sm h.1).1, (plV_sm h.1).2, fun s hs y hy => (h.1.2.2.2.2.2.2.2 s hs).2 y hy⟩
    · exact plsV_sm h.2 x hx
theorem tbV_sm {l : List Pl} {q : List Pt} (h : tbV l q) : smT l ∧ (∀ x ∈ l, smW x) ∧ smQ q ∧ ∀ x ∈ l, inP x := by
  obtain ⟨⟨h1, h2⟩, h3, h4⟩ := h
  exact ⟨⟨by omega, fun x hx => (plsV_sm h2 x hx).1⟩, fun x hx => (plsV_sm h2 x hx).2.1, ⟨by omega, fun x hx => by have := (h4 x hx).2.2.1; omega⟩, fun x hx => (plsV_sm h2 x hx).2.2⟩
theorem txE_len {s : ByteArray} (h : s.size ≤ 255) : (txE s).length ≤ 256 := by
  have : s.data.toList.length = s.size := rfl
  simp only [txE, List.length_cons]
  omega
theorem numE_len {x : Int} (h : x ≤ 1000000000) : 1 ≤ (numE x).length ∧ (numE x).length ≤ 10 := ⟨encU_pos _, encU_le10 (by omega)⟩
theorem flat_len {α : Type} {E : α → List UInt8} {m : Nat} : ∀ {l : List α}, (∀ x ∈ l, (E x).length ≤ m) → (l.flatMap E).length ≤ m * l.length
  | [], _ => by simp
  | x :: l, h => by
    have h1 := h x (by simp)
    have h2 := flat_len (l := l) fun y hy => h y (List.mem_cons_of_mem _ hy)
    rw [List.flatMap_cons, List.length_append, List.length_cons, Nat.mul_succ]
    omega
theorem vaE_len {v : Vr} (h : vaV v) : (vaE v).length ≤ 2600 := by
  obtain ⟨h1, h2⟩ := h
  have := txE_len h1
  unfold vaE
  by_cases k3 : v.Type_.Kind.toNat = 3
  · rw [if_pos k3] at h2 ⊢
    have := numE_len (x := v.Type_.N) (by omega)
    simp only [List.length_append, List.length_cons]
    omega
  · rw [if_neg k3] at h2 ⊢
    by_cases k4 : v.Type_.Kind.toNat = 4
    · rw [if_pos k4] at h2 ⊢
      obtain ⟨a1, a2, a3, a4⟩ := h2
      have := txE_len a2
      have h3 := flat_len (E := txE) (m := 256) (l := v.Fields) fun x hx => txE_len (a3.2 x hx)
      have := encU_le10 (x := v.Fields.length) (by omega)
      simp only [List.length_append, List.length_cons, lsE]
      omega
    · rw [if_neg k4]
      simp only [List.length_append, List.length_cons, List.length_nil]
      omega
theorem encVS_len : ∀ (l : List Vr) (ss : List (List Sp)), (∀ v ∈ l, vaV v) → (∀ s ∈ ss, spV s) → (encVS l ss).length ≤ 883000 * l.length
  | [], _, _, _ => by simp [encVS]
  | v :: l, [], _, _ => by simp [encVS]
  | v :: l, s :: ss, hv, hs => by
    have h1 := vaE_len (hv v (by simp))
    have h2 := encSp_len9 (hs s (by simp))
    have h3 := encVS_len l ss (fun y hy => hv y (List.mem_cons_of_mem _ hy)) fun y hy => hs y (List.mem_cons_of_mem _ hy)
    rw [encVS]
    simp only [List.length_append, List.length_cons]
    omega
theorem plE_len {last : Int} {x : Pl} (h : plV last x) : (plE last x).length ≤ 57000000 := by
  obtain ⟨h1, h2, h3, h4, h5, h6, h7, h8⟩ := h
  have := txE_len h1
  have := numE_len (x := x.From - last) (by omega)
  have := numE_len (x := x.To - x.From) (by omega)
  have := encU_le10 (x := x.Vars.length) (by omega)
  have := encVS_len _ _ h7 h8
  simp only [plE, List.length_append]
  omega
theorem encPls_len : ∀ {l : List Pl} {last : Int}, plsV last l → (encPls last l).length ≤ 57000000 * l.length
  | [], _, _ => by simp [encPls]
  | x :: l, last, h => by
    have h1 := plE_len h.1
    have h2 := encPls_len h.2
    rw [encPls, List.length_append, List.length_cons]
    omega
theorem ptE_len {x : Pt} (h : ptV x) : (ptE x).length ≤ 700 := by
  obtain ⟨h1, h2, h3, h4⟩ := h
  have := numE_len (x := x.Func) (by omega)
  have := numE_len (x := x.Line) (by omega)
  have := encU_le10 (x := x.Scope.length) (by omega)
  have := flat_len (E := numE) (m := 10) (l := x.Scope) fun y hy => (numE_len (by have := h4 y hy; omega)).2
  simp only [ptE, lsE, List.length_append]
  omega
def encTab (l : List Pl) (q : List Pt) : List UInt8 := plsE l ++ lsE ptE q
theorem encTab_len {l : List Pl} {q : List Pt} (h : tbV l q) : 2 ≤ (encTab l q).length ∧ (encTab l q).length ≤ 4000000000 := by
  obtain ⟨⟨h1, h2⟩, h3, h4⟩ := h
  have := encU_pos l.length
  have := encU_le10 (x := l.length) (by omega)
  have := encU_pos q.length
  have := encU_le10 (x := q.length) (by omega)
  have := encPls_len h2
  have := flat_len (E := ptE) (m := 700) (l := q) fun x hx => ptE_len (h4 x hx)
  simp only [encTab, plsE, lsE, List.length_append]
  omega
end Go.Proofs.Ytckcngkkofemjaa
