import Derived.Test.YtnaafaopdefigaaAd
import Derived.Test.YtnaafaopdefigaaF
import Derived.Test.YtnaafaopdefigaaPL
import Derived.Test.YtnaafaopdefigaaP_02
import Derived.Test.YtnaafaopdefigaaP_01
import Derived.Test.YtnaafaopdefigaaP_03
import Derived.Test.YtnaafaopdefigaaP_03b
import Derived.Test.YtnaafaopdefigaaP_03c
import Derived.KernelRfl
namespace Go.Proofs.Ytnaafaopdefigaa
open Go.Ab Go.RowKit
set_option linter.unusedVariables false
set_option linter.unusedSimpArgs false
def wx3 : Ins := ⟨8, 0, 1, 2, 3, -2, 4⟩
theorem P_works03 : F_law03_works = some true := by
  have hi : rgI wx3 := by unfold rgI wx3; simp
  have hR : Rti wx3 = true := by decide
  have he : encI wx3 = [8, 18, 3, 126, 4] := by
    have h1 : encS (-2) = [126] := by rw [encS_small (by omega)]; rfl
    have h2 : encU 4 = [4] := by rw [encU_small (by omega)]; rfl
    have hp : prts ((wx3.Kind.toNat : Int)) = some [.c_both_1, .c_third_1, .c_within, .c_bound_1] := rfl
    unfold encI bdy
    rw [hp]
    simp only [puAll, List.flatMap_cons, List.flatMap_nil, enP]
    have e1 : encS wx3.N = [126] := h1
    have e2 : encU wx3.M.toNat = [4] := h2
    rw [e1, e2]
    rfl
  have h1 := P_IPut (b := [255]) hi (by simp)
  rw [if_pos hR, he] at h1
  have h2 := P_IGet_put hi hR (q := [255]) (r := []) (by rw [he]; simp)
  rw [he] at h2
  have h2 : F_isa_Get [255, 8, 18, 3, 126, 4] 1 = some (wx3, 6, 0) := h2
  have h3 := P_IRight hi
  rw [hR] at h3
  have h4 : F_isa_Right ⟨0, 0, 0, 0, 0, 0, 0⟩ = some false := by rw [P_IRight (by unfold rgI; simp)]; rfl
  have h5 : F_isa_Size wx3 = some 5 := by
    unfold F_isa_Size
    have := P_IPut (b := []) hi (by simp)
    rw [if_pos hR, he] at this
    have this : F_isa_Put [] ⟨wx3.Kind, wx3.Op, wx3.R, wx3.S, wx3.T, wx3.N, wx3.M⟩ = _ := this
    rw [this]
    rfl
  unfold F_law03_works
  have h1 : F_isa_Put [255] ⟨8, 0, 1, 2, 3, -2, 4⟩ = some [255, 8, 18, 3, 126, 4] := h1
  have h3 : F_isa_Right ⟨8, 0, 1, 2, 3, -2, 4⟩ = some true := h3
  have h5 : F_isa_Size ⟨8, 0, 1, 2, 3, -2, 4⟩ = some 5 := h5
  rw [h1, Option.bind_some, h2, Option.bind_some, h3, Option.bind_some, h4, h5]
  rfl
theorem P_Size {i : Ins} (hi : rgI i) : F_isa_Size i = some (if Rti i = true then ((encI i).length : Int) else 0) := by
  unfold F_isa_Size
  have := P_IPut (b := []) hi (by simp)
  have this : F_isa_Put [] ⟨i.Kind, i.Op, i.R, i.S, i.T, i.N, i.M⟩ = _ := this
  rw [this, Option.bind_some]
  cases Rti i <;> simp
theorem enP12 {p : Dp} {i : Ins} (hp : rtP p i = true) (hi : rgI i) : (enP p i).length ≤ match p with | .c_parts_1 => 10 | .c_within => 3 | .c_bound_1 => 3 | .c_to_1 => 3 | _ => 1 := by
  cases p <;> unfold rtP at hp <;> simp only [decide_eq_true_eq] at hp <;> unfold enP <;> simp only
  all_goals first | (simp; done) | skip
  · exact encU_len 2 _ (by omega)
  · exact Nat.le_refl _
  · exact encS_le10 hi.1 hi.2
  · exact encS_len 2 _ (by omega) (by omega)
theorem encI_12 {i : Ins} (hi : rgI i) (h : Rti i = true) : 1 ≤ (encI i).length ∧ (encI i).length ≤ 12 := by
  obtain ⟨l, hp, hr, _, hb⟩ := Rti_some h
  unfold encI
  rw [hb, List.length_cons]
  have hl : (puAll l i).length ≤ 11 := by
    have q := fun p hp => enP12 (p := p) (i := i) hp hi
    rcases k_cases (i.Kind.toNat : Int) with h | h | h | h | h | h | h | h | h | h | h | h | h | h | h | h | h | h | h
    case inr.inr.inr.inr.inr.inr.inr.inr.inr.inr.inr.inr.inr.inr.inr.inr.inr.inr => rw [prts_none h] at hp; cases hp
    all_goals
      rw [h] at hp
      injection hp with hp
      subst hp
      simp only [rtAll, List.all_cons, List.all_nil, Bool.and_true, Bool.and_eq_true] at hr
      simp only [puAll, List.flatMap_cons, List.flatMap_nil, List.length_append, List.length_nil]
    · omega
    · have := q _ hr.1; have := q _ hr.2; simp only at *; omega
    · have := q _ hr; simp only at *; omega
    · have := q _ hr.1; have := q _ hr.2.1; have := q _ hr.2.2; simp only at *; omega
    · have := q _ hr.1; have := q _ hr.2; simp only at *; omega
    · have := q _ hr.1; have := q _ hr.2; simp only at *; omega
    · have := q _ hr.1; have := q _ hr.2; simp only at *; omega
    · have := q _ hr.1; have := q _ hr.2.1; have := q _ hr.2.2.1; have := q _ hr.2.2.2; simp only at *; omega
    · have := q _ hr.1; have := q _ hr.2.1; have := q _ hr.2.2.1; have := q _ hr.2.2.2; simp only at *; omega
    · have := q _ hr; simp only at *; omega
    · have := q _ hr.1; have := q _ hr.2; simp only at *; omega
    · have := q _ hr; simp only at *; omega
    · omega
    · have := q _ hr; simp only at *; omega
    · have := q _ hr; simp only at *; omega
    · have := q _ hr; simp only at *; omega
    · have := q _ hr; simp only at *; omega
    · have := q _ hr; simp only at *; omega
  omega
theorem Lies_take {b x : List UInt8} {i m : Nat} (h : LiesI (b.take m) i x) : LiesI b i x := by
  obtain ⟨h1, h2⟩ := h
  have hl : (b.take m).length ≤ b.length := by simp; omega
  refine ⟨by omega, ?_⟩
  rw [List.drop_take, List.take_take] at h2
  rw [List.length_take] at h1
  rw [show min x.length (m - i) = x.length by omega] at h2
  exact h2
theorem IBack_loop {q i r : List UInt8} {x : Ins} (hx : rgI x) (hR : Rti x = true) (rec0 : Option Bool) (behind : List UInt8) (hb : (q ++ encI x).length ≤ 1000000) :
    ∀ (n k : Nat), q.length ≤ k → k ≤ (q ++ encI x).length → (q ++ encI x).length - k < n → F_law03_IsaBack_l3 q behind (q ++ encI x) n (k : Int) = F_law03_IsaBack_l3B (fun _ => none) q behind (q ++ encI x) (((q ++ encI x).length : Nat) : Int)
  | 0, k, _, _, h => by omega
  | n + 1, k, hq, hk, h => by
    show F_law03_IsaBack_l3B _ q behind (q ++ encI x) (k : Int) = _
    by_cases hlt : k < (q ++ encI x).length
    · have hcut := cutI_ok (l := q ++ encI x) (a := 0) (b := k) (by omega) (by omega)
      rw [show ((0 : Nat) : Int) = 0 from rfl, List.drop_zero] at hcut
      obtain ⟨s, hs, hg⟩ := P_IGet (b := (q ++ encI x).take k) (a := (q.length : Int)) (by rw [List.length_take]; omega)
      have hne : s.2.2 ≠ 0 := by
        rcases hg with ⟨_, rfl⟩ | ⟨_, rfl | ⟨y, m, hm, rfl, hL, hy, hyr⟩⟩
        · simp
        · simp
        · exfalso
          obtain rfl : m = q.length := by omega
          have hle := hL.1
          have hL2 := Lies_take hL
          have g1 := P_IGet_lies hyr hy (by omega) hL2
          have g2 := P_IGet_put hx hR (q := q) (r := []) (by rw [List.append_nil]; omega)
          rw [List.append_nil, g1] at g2
          injection g2 with g2
          injection g2 with g2 g3
          injection g3 with g3 g4
          rw [List.length_take] at hle
          simp only [List.length_append] at g3 hlt hle
          omega
      unfold F_law03_IsaBack_l3B
      rw [decT (by omega), if_pos rfl, hcut, Option.bind_some, hs, Option.bind_some, beqF hne, if_neg (by simp), i64_succ (by omega), IBack_loop (i := i) (r := r) hx hR rec0 behind hb n (k + 1) (by omega) (by omega) (by omega)]
      unfold F_law03_IsaBack_l3B
      rfl
    · obtain rfl : k = (q ++ encI x).length := by omega
      unfold F_law03_IsaBack_l3B
      rw [decF (by omega), if_neg (by simp)]
      rfl
theorem IBack_end {q b behind : List UInt8} (hb : behind.length ≤ 4096) (rec : Int → Option Bool) : F_law03_IsaBack_l3B rec q behind b (b.length : Int) = some true := by
  unfold F_law03_IsaBack_l3B
  rw [decF (by omega), if_neg (by simp)]
  obtain ⟨s, hs, hg⟩ := P_IGet (b := behind) (a := 0) (by omega)
  have hs : F_isa_Get behind 0 = some s := hs
  rw [hs, Option.bind_some]
  have err : s.2.2 ≠ 0 → s.1 = bse 0 → s.2.1 = 0 → (s.2.2 == 0) = false ∧ (((s.1.Kind.toNat : Int) == 0) && (((s.1.Op.toNat : Int) == 0) && ((s.1.R == 0) && ((s.1.S == 0) && ((s.1.T == 0) && ((s.1.N == 0) && ((s.1.M == 0) && true))))))) = true := fun h1 h2 _ => ⟨beqF h1, by rw [h2]; rfl⟩
  rcases hg with ⟨_, rfl⟩ | ⟨_, rfl | ⟨y, m, hm, rfl, hL, hy, hyr⟩⟩
  · simp only [Int.reduceBEq, Bool.false_eq_true, if_false, Option.bind_some, bse, P_works03]
    rfl
  · simp only [Int.reduceBEq, Bool.false_eq_true, if_false, Option.bind_some, bse, P_works03]
    rfl
  · obtain rfl : m = 0 := by omega
    have hlen := encI_len hyr hy
    have hle := hL.1
    have hRy : F_isa_Right ⟨y.Kind, y.Op, y.R, y.S, y.T, y.N, y.M⟩ = _ := P_IRight hyr
    have hPy : F_isa_Put [] ⟨y.Kind, y.Op, y.R, y.S, y.T, y.N, y.M⟩ = _ := P_IPut (b := []) hyr (by simp)
    rw [hy, if_pos rfl, List.nil_append] at hPy
    have hcut := cutI_ok (l := behind) (a := 0) (b := 0 + (encI y).length) (by omega) (by omega)
    rw [show ((0 : Nat) : Int) = 0 from rfl, Nat.zero_add, List.drop_zero] at hcut
    have htk : behind.take (encI y).length = encI y := by have := hL.2; rwa [List.drop_zero] at this
    rw [htk] at hcut
    have hE : F_ref00_EqBytes (encI y) (encI y) = some true := by
      unfold F_ref00_EqBytes
      rw [if_pos ⟨by omega, by omega⟩, decide_eq_true rfl]
    simp only [Nat.zero_add]
    rw [beqT rfl, if_pos rfl, hRy, hy, Option.bind_some, Bool.not_true, if_neg (by simp), decF (show ¬ ((encI y).length : Int) < 1 by omega), if_neg (by simp), decF (show ¬ ((encI y).length : Int) > behind.length by omega), if_neg (by simp), hcut, Option.bind_some, hPy, Option.bind_some, hE, Option.bind_some, Option.bind_some]
    simp only [Bool.not_true, Bool.false_eq_true, if_false, if_true, Option.bind_some, P_works03]
theorem P_IsaBack (p0 : List UInt8) (p1 : Ins) (p2 : List UInt8) (hi : rgI p1) : F_law03_IsaBack p0 p1 p2 = some true := by
  unfold F_law03_IsaBack
  by_cases hb : (p0.length : Int) > 1024 ∨ (p2.length : Int) > 1024
  · rw [if_pos (by simpa using hb), P_works03]; rfl
  have hP : F_isa_Put p0 ⟨p1.Kind, p1.Op, p1.R, p1.S, p1.T, p1.N, p1.M⟩ = _ := P_IPut (b := p0) hi (by omega)
  have hR : F_isa_Right ⟨p1.Kind, p1.Op, p1.R, p1.S, p1.T, p1.N, p1.M⟩ = _ := P_IRight hi
  have hS : F_isa_Size ⟨p1.Kind, p1.Op, p1.R, p1.S, p1.T, p1.N, p1.M⟩ = _ := P_Size hi
  rw [if_neg (by simpa using hb), hP, Option.bind_some, hR, Option.bind_some]
  cases h : Rti p1
  · have hE : F_ref00_EqBytes p0 p0 = some true := by
      unfold F_ref00_EqBytes
      rw [if_pos ⟨by omega, by omega⟩, decide_eq_true rfl]
    rw [Bool.not_false, if_pos rfl, if_neg (by simp), hE, Option.bind_some, if_pos rfl, hS, h, P_works03]
    rfl
  · have h12 := encI_12 hi h
    have hlen : (p0 ++ encI p1).length = p0.length + (encI p1).length := List.length_append
    rw [Bool.not_true, if_neg (by simp), if_pos rfl, P_cb (l := p0 ++ encI p1) (by omega), Option.bind_some, room_ok (by rw [hlen]; omega), Option.bind_some, P_IGet_put hi h (by rw [List.length_append]; omega), Option.bind_some, ins_eq, hS, h]
    simp only [decide_true, Bool.not_true, bne_self_eq_false, Bool.or_self, Bool.false_eq_true, if_false, if_true, Option.bind_some]
    have hw : IntKind.i64.wrap (((p0 ++ encI p1).length : Int) - (p0.length : Int)) = ((encI p1).length : Int) := by rw [wi64 (by omega)]; omega
    rw [hw, bneF rfl, decF (show ¬ ((encI p1).length : Int) < 1 by omega), decF (show ¬ ((encI p1).length : Int) > 12 by omega), Bool.or_self, Bool.or_self, if_neg (by simp), IBack_loop (i := []) (r := []) hi h none p2 (by omega) big p0.length (by omega) (by omega) (big_gt (by omega))]
    exact IBack_end (by omega) _
end Go.Proofs.Ytnaafaopdefigaa
