import Derived.Test.YtckcngkkofemjaaF
import Derived.Test.YtckcngkkofemjaaAc0
import Derived.Test.YtckcngkkofemjaaM00
import Derived.Test.YtckcngkkofemjaaM01
import Derived.Test.YtckcngkkofemjaaG2
namespace Go.Proofs.Ytckcngkkofemjaa
open Go.Ab Go.RowKit
set_option linter.unusedVariables false
set_option linter.unusedSimpArgs false
set_option maxRecDepth 10000
set_option maxHeartbeats 1000000
theorem zeV {τ : Hp} {v0 : Value} {p0 : (List ze)} (r0 : RdT zk τ v0 p0) {rr : (List ze)} (hF : zdi p0 = some rr) :
    Ctr Try.prog 23 #[v0] τ [] (fun v τ' vs' => ∃ (v0 : Value) (o0 : Ob), v = v0 ∧ vs' = [o0] ∧ OwnO zk 55 τ' v0 rr o0) := by
  obtain ⟨A0, c0, rfl, -⟩ := r0.form
  refine ctr_of (args := [.slice A0 p0.length c0]) hm Try.func23 s23 rfl fun w0 σ hO Q hQ => ?_
  unfold zdi at hF
  have hL := Hp.le.refl τ
  show wpn _ _ a23.body _ _ _
  unfold a23
  dsimp only
  refine wpn_qa hO [] [(0, .slice A0 p0.length c0)] (ar trivial) fun j => ?_
  refine wpn_qa hO [] [(0, .slice A0 p0.length c0), (3, .slice none 0 0)] (ar (ar trivial)) fun j => ?_
  refine wpn_assoc ?_
  refine wpn_qa hO [] [(0, .slice A0 p0.length c0), (3, .slice none 0 0), (4, .int .i64 0)] (ar (ar (ar trivial))) fun j => ?_
  refine wpn_bl ?_
  have hO := hO.no
  have hO : Obs _ _ [_] := hO
  refine wpn_lp (fun (n : Nat) e' σ' => ∃ (A49 : Option Addr) (c50 : Nat) (o51 : Ob) (x52 : List ze) (x54 : Int) (τ' : Hp), agr [(0, .slice A0 p0.length c0), (3, .slice A49 x52.length c50), (4, .int .i64 x54)] e' ∧ Obs τ' σ' [o51] ∧ Hp.le τ τ' ∧ RdT zk τ' (.slice A0 p0.length c0) p0 ∧ OwnO zk 55 τ' (.slice A49 x52.length c50) x52 o51 ∧ zcY p0 n x52 x54 = some rr) big ⟨none, 0, none, [], 0, _, ar (ar (ar trivial)), hO, hL, r0, OwnO.nil _ _ _, hF⟩ ?_
  clear hF hO hL
  rintro n99 e σ ⟨A49, c50, o51, x52, x54, _, hA, hO, hL, r48, w53, hF⟩
  rw [← sets_agr _ _ hA]
  cases n99 with
  | zero => exact nomatch (show none = some rr from hF)
  | succ n99 =>
    replace hF : zb6 (zcY p0 n99) p0 x52 x54 = some rr := hF
    unfold zb6 at hF
    refine wpn_assoc ?_
    refine wpn_qa hO [] [(0, .slice A0 p0.length c0), (3, .slice A49 x52.length c50), (4, .int .i64 x54), (8, .bool (decide (x54 < (p0.length : Int))))] (ar (ar (ar (ar trivial)))) fun j => ?_
    rcases ite_some hF with ⟨hb100, hF⟩ | ⟨hb100, hF⟩
    · refine wpn_cT (congrArg Value.bool hb100) ?_
      refine wpn_sk ?_
      refine wpn_bl ?_
      refine wpn_plast ?_
      refine wpn_q hO 3 [] [(0, .slice A0 p0.length c0), (4, .int .i64 x54), (11, .slice A49 x52.length c50), (12, .slice A0 p0.length c0), (13, .int .i64 x54)] (ar (ar (ar (ar (ar trivial))))) fun j => ?_
      obtain ⟨y101, g102, hF⟩ := bind_some hF
      refine wpn_idx (T := zk) r48 hO.base rfl rfl g102 (by decide) fun a103 _ k104 m105 => ?_
      obtain ⟨v106, rfl, r107⟩ := k104
      obtain ⟨A108, c109, rfl, -⟩ := r107.form
      refine wpn_q hO 1 [] [(0, .slice A0 p0.length c0), (4, .int .i64 x54), (11, .slice A49 x52.length c50), (15, .pointer (some a103))] (ar (ar (ar (ar trivial)))) fun j => ?_
      refine wpn_ld rfl (m105.le hO.base).fst ?_
      refine wpn_q hO 2 [] [(0, .slice A0 p0.length c0), (4, .int .i64 x54), (11, .slice A49 x52.length c50), (15, .pointer (some a103)), (16, .int .i64 y101.From), (17, .slice A0 p0.length c0), (18, .int .i64 x54)] (ar (ar (ar (ar (ar (ar (ar trivial))))))) fun j => ?_
      obtain ⟨y110, g111, hF⟩ := bind_some hF
      refine wpn_idx (T := zk) r48 hO.base rfl rfl g111 (by decide) fun a112 _ k113 m114 => ?_
      obtain ⟨v115, rfl, r116⟩ := k113
      obtain ⟨A117, c118, rfl, -⟩ := r116.form
      refine wpn_q hO 1 [] [(0, .slice A0 p0.length c0), (4, .int .i64 x54), (11, .slice A49 x52.length c50), (15, .pointer (some a103)), (16, .int .i64 y101.From), (20, .pointer (some (a112.add 1)))] (ar (ar (ar (ar (ar (ar trivial)))))) fun j => ?_
      refine wpn_ld rfl ((m114.le hO.base).one 1 rfl) ?_
      refine wpn_q hO 2 [] [(0, .slice A0 p0.length c0), (4, .int .i64 x54), (11, .slice A49 x52.length c50), (15, .pointer (some a103)), (16, .int .i64 y101.From), (20, .pointer (some (a112.add 1))), (21, .int .i64 y110.To), (22, .slice A0 p0.length c0), (23, .int .i64 x54)] (ar (ar (ar (ar (ar (ar (ar (ar (ar trivial))))))))) fun j => ?_
      obtain ⟨y119, g120, hF⟩ := bind_some hF
      refine wpn_idx (T := zk) r48 hO.base rfl rfl g120 (by decide) fun a121 _ k122 m123 => ?_
      obtain ⟨v124, rfl, r125⟩ := k122
      obtain ⟨A126, c127, rfl, -⟩ := r125.form
      refine wpn_q hO 1 [] [(0, .slice A0 p0.length c0), (4, .int .i64 x54), (11, .slice A49 x52.length c50), (15, .pointer (some a103)), (16, .int .i64 y101.From), (20, .pointer (some (a112.add 1))), (21, .int .i64 y110.To), (25, .pointer (some (a121.add 2)))] (ar (ar (ar (ar (ar (ar (ar (ar trivial)))))))) fun j => ?_
      refine wpn_ld rfl ((m123.le hO.base).one 2 rfl) ?_
      refine wpn_late ?_
      obtain ⟨c128, h129, hF⟩ := bind_some hF
      refine wpn_c0 hO (zfs r125 h129) rfl fun _ σ _ _ hO h130 h131 => ?_
      have hL := hL.trans h130
      have r48 := r48.le h130
      have w53 := w53.le h130
      have m105 := m105.le h130
      have r107 := r107.le h130
      have m114 := m114.le h130
      have r116 := r116.le h130
      have m123 := m123.le h130
      have r125 := r125.le h130
      obtain ⟨v132, o135, rfl, rfl, w136⟩ := h131
      obtain ⟨A133, c134, rfl, -⟩ := w136.form
      have hO : Obs _ _ [_, _] := hO
      refine wpn_nil ?_
      refine wpn_ag ⟨(again_ld rfl ((m114.le hO.base).one 1 rfl) rfl), (again_ld rfl (m105.le hO.base).fst rfl), trivial⟩ ?_
      refine wpn_q hO 1 [] [(0, .slice A0 p0.length c0), (4, .int .i64 x54), (11, .slice A49 x52.length c50), (28, .agg #[(.int .i64 y101.From), (.int .i64 y110.To), (.slice A133 c128.length c134)])] (ar (ar (ar (ar trivial)))) fun j => ?_
      obtain ⟨_, h138, r137, hO⟩ := w136.share hO (i := 1) rfl
      have hL := hL.trans h138
      have r48 := r48.le h138
      have w53 := w53.le h138
      have hO : Obs _ _ [_, _] := hO
      obtain ⟨_, hr143, hF⟩ := bind_some hF
      refine wpn_ap1 (T := zk) (y := (⟨y101.From, y110.To, c128⟩ : ze)) hO w53 (i := 0) rfl rfl (fun _ => rfl) rfl ⟨_, rfl, r137⟩ rfl hr143 (by decide) fun u _ σ o141 w142 hO => ?_
      obtain ⟨A139, c140, rfl, -⟩ := w142.form
      have hO : Obs _ _ [_, _] := hO
      refine wpn_qa hO [] [(0, .slice A0 p0.length c0), (3, .slice A139 (x52 ++ [(⟨y101.From, y110.To, c128⟩ : ze)]).length c140), (4, .int .i64 x54)] (ar (ar (ar trivial))) fun j => ?_
      refine wpn_end ?_
      refine inb_i ?_
      refine thn_i ?_
      refine wpn_rlast ?_
      refine wpn_qa hO [] [(0, .slice A0 p0.length c0), (3, .slice A139 (x52 ++ [(⟨y101.From, y110.To, c128⟩ : ze)]).length c140), (4, .int .i64 (IntKind.i64.wrap (x54 + 1)))] (ar (ar (ar trivial))) fun j => ?_
      refine wpn_end ?_
      refine thn_i ?_
      have hO := hO.sel [0] (by decide)
      exact ⟨n99, Nat.lt_succ_self _, A139, c140, o141, (x52 ++ [(⟨y101.From, y110.To, c128⟩ : ze)]), (IntKind.i64.wrap (x54 + 1)), _, ar (ar (ar trivial)), hO, hL, r48, w142, hF⟩
    · refine wpn_cF (congrArg Value.bool hb100) ?_
      refine wpn_ex ?_
      refine thn_x ?_
      refine inb_x ?_
      refine thn_i ?_
      refine wpn_qa hO [] [(2, .slice A49 x52.length c50)] (ar trivial) fun j => ?_
      refine wpn_r1 ?_
      injection hF with hF
      subst hF
      exact hQ _ _ _ _ _ rfl hO hL ⟨_, _, rfl, rfl, w53⟩
theorem zfl {τ : Hp} {v0 : Value} {p0 : (List zc)} (r0 : RdT zj τ v0 p0) {rr : (List zc)} (hF : zdk p0 = some rr) :
    Ctr Try.prog 8 #[v0] τ [] (fun v τ' vs' => ∃ (v0 : Value) (o0 : Ob), v = v0 ∧ vs' = [o0] ∧ OwnO zj 50 τ' v0 rr o0) := by
  obtain ⟨A0, c0, rfl, -⟩ := r0.form
  refine ctr_of (args := [.slice A0 p0.length c0]) hm Try.func8 s8 rfl fun w0 σ hO Q hQ => ?_
  unfold zdk at hF
  have hL := Hp.le.refl τ
  show wpn _ _ a8.body _ _ _
  unfold a8
  dsimp only
  refine wpn_qa hO [] [(0, .slice A0 p0.length c0)] (ar trivial) fun j => ?_
  refine wpn_qa hO [] [(0, .slice A0 p0.length c0), (3, .slice none 0 0)] (ar (ar trivial)) fun j => ?_
  refine wpn_assoc ?_
  refine wpn_qa hO [] [(0, .slice A0 p0.length c0), (3, .slice none 0 0), (4, .int .i64 0)] (ar (ar (ar trivial))) fun j => ?_
  refine wpn_bl ?_
  have hO := hO.no
  have hO : Obs _ _ [_] := hO
  refine wpn_lp (fun (n : Nat) e' σ' => ∃ (A864 : Option Addr) (c865 : Nat) (o866 : Ob) (x867 : List zc) (x869 : Int) (τ' : Hp), agr [(0, .slice A0 p0.length c0), (3, .slice A864 x867.length c865), (4, .int .i64 x869)] e' ∧ Obs τ' σ' [o866] ∧ Hp.le τ τ' ∧ RdT zj τ' (.slice A0 p0.length c0) p0 ∧ OwnO zj 50 τ' (.slice A864 x867.length c865) x867 o866 ∧ zA p0 n x867 x869 = some rr) big ⟨none, 0, none, [], 0, _, ar (ar (ar trivial)), hO, hL, r0, OwnO.nil _ _ _, hF⟩ ?_
  clear hF hO hL
  rintro n1761 e σ ⟨A864, c865, o866, x867, x869, _, hA, hO, hL, r863, w868, hF⟩
  rw [← sets_agr _ _ hA]
  cases n1761 with
  | zero => exact nomatch (show none = some rr from hF)
  | succ n1761 =>
    replace hF : zc5 (zA p0 n1761) p0 x867 x869 = some rr := hF
    unfold zc5 at hF
    refine wpn_assoc ?_
    refine wpn_qa hO [] [(0, .slice A0 p0.length c0), (3, .slice A864 x867.length c865), (4, .int .i64 x869), (12, .bool (decide (x869 < (p0.length : Int))))] (ar (ar (ar (ar trivial)))) fun j => ?_
    rcases ite_some hF with ⟨hb1762, hF⟩ | ⟨hb1762, hF⟩
    · refine wpn_cT (congrArg Value.bool hb1762) ?_
      refine wpn_sk ?_
      refine wpn_bl ?_
      refine wpn_p2r ?_
      refine wpn_q hO 2 [] [(0, .slice A0 p0.length c0), (3, .slice A864 x867.length c865), (4, .int .i64 x869), (15, .slice A0 p0.length c0), (16, .int .i64 x869)] (ar (ar (ar (ar (ar trivial))))) fun j => ?_
      obtain ⟨y1763, g1764, hF⟩ := bind_some hF
      refine wpn_idx (T := zj) r863 hO.base rfl rfl g1764 (by decide) fun a1765 _ k1766 m1767 => ?_
      obtain ⟨v1768, v1772, rfl, r1769, r1773⟩ := k1766
      obtain ⟨A1770, c1771, rfl, -⟩ := r1769.form
      obtain ⟨A1774, c1775, rfl, -⟩ := r1773.form
      refine wpn_q hO 1 [] [(0, .slice A0 p0.length c0), (3, .slice A864 x867.length c865), (4, .int .i64 x869), (18, .pointer (some a1765))] (ar (ar (ar (ar trivial)))) fun j => ?_
      refine wpn_ld rfl (m1767.le hO.base).fst ?_
      refine wpn_q hO 2 [] [(0, .slice A0 p0.length c0), (3, .slice A864 x867.length c865), (4, .int .i64 x869), (18, .pointer (some a1765)), (19, .string y1763.Name), (20, .slice A0 p0.length c0), (21, .int .i64 x869)] (ar (ar (ar (ar (ar (ar (ar trivial))))))) fun j => ?_
      obtain ⟨y1776, g1777, hF⟩ := bind_some hF
      refine wpn_idx (T := zj) r863 hO.base rfl rfl g1777 (by decide) fun a1778 _ k1779 m1780 => ?_
      obtain ⟨v1781, v1785, rfl, r1782, r1786⟩ := k1779
      obtain ⟨A1783, c1784, rfl, -⟩ := r1782.form
      obtain ⟨A1787, c1788, rfl, -⟩ := r1786.form
      refine wpn_q hO 1 [] [(0, .slice A0 p0.length c0), (3, .slice A864 x867.length c865), (4, .int .i64 x869), (18, .pointer (some a1765)), (19, .string y1763.Name), (23, .pointer (some (a1778.add 1)))] (ar (ar (ar (ar (ar (ar trivial)))))) fun j => ?_
      refine wpn_ld rfl ((m1780.le hO.base).one 1 rfl) ?_
      refine wpn_q hO 2 [] [(0, .slice A0 p0.length c0), (3, .slice A864 x867.length c865), (4, .int .i64 x869), (18, .pointer (some a1765)), (19, .string y1763.Name), (23, .pointer (some (a1778.add 1))), (24, .int .i64 y1776.From), (25, .slice A0 p0.length c0), (26, .int .i64 x869)] (ar (ar (ar (ar (ar (ar (ar (ar (ar trivial))))))))) fun j => ?_
      obtain ⟨y1789, g1790, hF⟩ := bind_some hF
      refine wpn_idx (T := zj) r863 hO.base rfl rfl g1790 (by decide) fun a1791 _ k1792 m1793 => ?_
      obtain ⟨v1794, v1798, rfl, r1795, r1799⟩ := k1792
      obtain ⟨A1796, c1797, rfl, -⟩ := r1795.form
      obtain ⟨A1800, c1801, rfl, -⟩ := r1799.form
      refine wpn_q hO 1 [] [(0, .slice A0 p0.length c0), (3, .slice A864 x867.length c865), (4, .int .i64 x869), (18, .pointer (some a1765)), (19, .string y1763.Name), (23, .pointer (some (a1778.add 1))), (24, .int .i64 y1776.From), (28, .pointer (some (a1791.add 2)))] (ar (ar (ar (ar (ar (ar (ar (ar trivial)))))))) fun j => ?_
      refine wpn_ld rfl ((m1793.le hO.base).one 2 rfl) ?_
      refine wpn_q hO 1 [] [(0, .slice A0 p0.length c0), (3, .slice A864 x867.length c865), (4, .int .i64 x869), (18, .pointer (some a1765)), (19, .string y1763.Name), (23, .pointer (some (a1778.add 1))), (24, .int .i64 y1776.From), (28, .pointer (some (a1791.add 2))), (29, .int .i64 y1789.To), (30, .agg #[(.string y1763.Name), (.int .i64 y1776.From), (.int .i64 y1789.To), (.slice none 0 0), (.slice none 0 0)])] (ar (ar (ar (ar (ar (ar (ar (ar (ar (ar trivial)))))))))) fun j => ?_
      refine wpn_late ?_
      refine wpn_al hO fun b1802 σ hO => ?_
      have hO : Obs _ _ [_, _] := hO
      refine wpn_nil ?_
      refine wpn_ag ⟨(again_ld rfl ((m1793.le hO.base).one 2 rfl) rfl), (again_ld rfl ((m1780.le hO.base).one 1 rfl) rfl), (again_ld rfl (m1767.le hO.base).fst rfl), trivial⟩ ?_
      refine wpn_st hO (i := 1) rfl (off := 0) rfl rfl rfl rfl (Nat.le_of_ble_eq_true rfl) rfl fun σ hO => ?_
      have hO : Obs _ _ [_, _] := hO
      refine wpn_nil ?_
      refine wpn_assoc ?_
      refine wpn_qa hO [] [(0, .slice A0 p0.length c0), (3, .slice A864 x867.length c865), (4, .int .i64 x869), (5, .pointer (some ⟨b1802, 0, none⟩)), (6, .int .i64 0)] (ar (ar (ar (ar (ar trivial))))) fun j => ?_
      refine wpn_bl ?_
      have hO := hO.no
      have hO : Obs _ _ [_, _, _] := hO
      refine wpn_lp (fun (n : Nat) e' σ' => ∃ (A2077 : Option Addr) (c2078 : Nat) (o2079 : Ob) (x2080 : List zc) (A2082 : Option Addr) (c2083 : Nat) (o2084 : Ob) (x2085 : List zh) (x2087 : Int) (τ' : Hp), agr [(0, .slice A0 p0.length c0), (3, .slice A2077 x2080.length c2078), (4, .int .i64 x869), (5, .pointer (some ⟨b1802, 0, none⟩)), (6, .int .i64 x2087)] e' ∧ Obs τ' σ' [o2079, some (b1802, ⟨[.string y1763.Name, .int .i64 y1776.From, .int .i64 y1789.To, .slice A2082 x2085.length c2083, .slice none 0 0], 50, 5, true⟩), o2084] ∧ Hp.le τ τ' ∧ RdT zj τ' (.slice A0 p0.length c0) p0 ∧ OwnO zj 50 τ' (.slice A2077 x2080.length c2078) x2080 o2079 ∧ OwnO zn 64 τ' (.slice A2082 x2085.length c2083) x2085 o2084 ∧ zcE (zA p0 n1761) p0 x869 y1763 y1776 y1789 n x2080 x2085 x2087 = some rr) big ⟨A864, c865, o866, x867, none, 0, none, [], 0, _, ar (ar (ar (ar (ar trivial)))), hO, hL, r863, w868, OwnO.nil _ _ _, hF⟩ ?_
      clear hF hO hL
      rintro n2370 e σ ⟨A2077, c2078, o2079, x2080, A2082, c2083, o2084, x2085, x2087, _, hA, hO, hL, r2076, w2081, w2086, hF⟩
      rw [← sets_agr _ _ hA]
      cases n2370 with
      | zero => exact nomatch (show none = some rr from hF)
      | succ n2370 =>
        replace hF : zcv (zcE (zA p0 n1761) p0 x869 y1763 y1776 y1789 n2370) (zA p0 n1761) p0 x869 y1763 y1776 y1789 x2080 x2085 x2087 = some rr := hF
        unfold zcv at hF
        refine wpn_assoc ?_
        refine wpn_q hO 3 [] [(0, .slice A0 p0.length c0), (3, .slice A2077 x2080.length c2078), (4, .int .i64 x869), (5, .pointer (some ⟨b1802, 0, none⟩)), (6, .int .i64 x2087), (31, .int .i64 x2087), (32, .slice A0 p0.length c0), (33, .int .i64 x869)] (ar (ar (ar (ar (ar (ar (ar (ar trivial)))))))) fun j => ?_
        obtain ⟨y2371, g2372, hF⟩ := bind_some hF
        refine wpn_idx (T := zj) r2076 hO.base rfl rfl g2372 (by decide) fun a2373 _ k2374 m2375 => ?_
        obtain ⟨v2376, v2380, rfl, r2377, r2381⟩ := k2374
        obtain ⟨A2378, c2379, rfl, -⟩ := r2377.form
        obtain ⟨A2382, c2383, rfl, -⟩ := r2381.form
        refine wpn_q hO 1 [] [(0, .slice A0 p0.length c0), (3, .slice A2077 x2080.length c2078), (4, .int .i64 x869), (5, .pointer (some ⟨b1802, 0, none⟩)), (6, .int .i64 x2087), (31, .int .i64 x2087), (35, .pointer (some (a2373.add 3)))] (ar (ar (ar (ar (ar (ar (ar trivial))))))) fun j => ?_
        refine wpn_ld rfl ((m2375.le hO.base).one 3 rfl) ?_
        refine wpn_qa hO [] [(0, .slice A0 p0.length c0), (3, .slice A2077 x2080.length c2078), (4, .int .i64 x869), (5, .pointer (some ⟨b1802, 0, none⟩)), (6, .int .i64 x2087), (38, .bool (decide (x2087 < (y2371.Vars.length : Int))))] (ar (ar (ar (ar (ar (ar trivial)))))) fun j => ?_
        rcases ite_some hF with ⟨hb2384, hF⟩ | ⟨hb2384, hF⟩
        · refine wpn_cT (congrArg Value.bool hb2384) ?_
          refine wpn_sk ?_
          refine wpn_bl ?_
          refine wpn_q hO 2 [] [(0, .slice A0 p0.length c0), (3, .slice A2077 x2080.length c2078), (4, .int .i64 x869), (5, .pointer (some ⟨b1802, 0, none⟩)), (6, .int .i64 x2087), (41, .slice A0 p0.length c0), (42, .int .i64 x869)] (ar (ar (ar (ar (ar (ar (ar trivial))))))) fun j => ?_
          obtain ⟨y2385, g2386, hF⟩ := bind_some hF
          refine wpn_idx (T := zj) r2076 hO.base rfl rfl g2386 (by decide) fun a2387 _ k2388 m2389 => ?_
          obtain ⟨v2390, v2394, rfl, r2391, r2395⟩ := k2388
          obtain ⟨A2392, c2393, rfl, -⟩ := r2391.form
          obtain ⟨A2396, c2397, rfl, -⟩ := r2395.form
          refine wpn_q hO 1 [] [(0, .slice A0 p0.length c0), (3, .slice A2077 x2080.length c2078), (4, .int .i64 x869), (5, .pointer (some ⟨b1802, 0, none⟩)), (6, .int .i64 x2087), (44, .pointer (some (a2387.add 3)))] (ar (ar (ar (ar (ar (ar trivial)))))) fun j => ?_
          refine wpn_ld rfl ((m2389.le hO.base).one 3 rfl) ?_
          refine wpn_q hO 1 [] [(0, .slice A0 p0.length c0), (3, .slice A2077 x2080.length c2078), (4, .int .i64 x869), (5, .pointer (some ⟨b1802, 0, none⟩)), (6, .int .i64 x2087), (45, .slice A2392 y2385.Vars.length c2393), (46, .int .i64 x2087)] (ar (ar (ar (ar (ar (ar (ar trivial))))))) fun j => ?_
          obtain ⟨y2398, g2399, hF⟩ := bind_some hF
          refine wpn_idx (T := zn) r2391 hO.base rfl rfl g2399 (by decide) fun a2400 _ k2401 m2402 => ?_
          obtain ⟨v2403, rfl, r2404⟩ := k2401
          obtain ⟨A2405, c2406, rfl, -⟩ := r2404.form
          refine wpn_ld rfl ((m2402.le hO.base).all rfl) ?_
          refine wpn_al hO fun b2407 σ hO => ?_
          have hO : Obs _ _ [_, _, _, _] := hO
          refine wpn_st hO (i := 3) rfl (off := 0) rfl rfl rfl rfl (Nat.le_of_ble_eq_true rfl) rfl fun σ hO => ?_
          have hO : Obs _ _ [_, _, _, _] := hO
          refine wpn_nil ?_
          refine wpn_lit (T := Ty.str) (l := ([] : List ByteArray)) (cs := []) hO rfl rfl rfl (by decide) fun _ σ o2410 w2411 hO => ?_
          obtain ⟨A2408, c2409, rfl, -⟩ := w2411.form
          have hO : Obs _ _ [_, _, _, _, _] := hO
          refine wpn_q hO 2 [3] [(0, .slice A0 p0.length c0), (3, .slice A2077 x2080.length c2078), (4, .int .i64 x869), (5, .pointer (some ⟨b1802, 0, none⟩)), (6, .int .i64 x2087), (7, .pointer (some ⟨b2407, 0, none⟩)), (49, .slice A2408 ([] : List ByteArray).length c2409), (51, .slice A2405 y2398.Fields.length c2406)] (And.intro (And.intro rfl rfl) (ar (ar (ar (ar (ar (ar (ar (ar trivial))))))))) fun j => ?_
          obtain ⟨_, hr2416, hF⟩ := bind_some hF
          refine wpn_apl (T := Ty.str) hO w2411 (i := 4) rfl rfl rfl r2404 hr2416 (by decide) fun _ σ o2414 w2415 hO => ?_
          obtain ⟨A2412, c2413, rfl, -⟩ := w2415.form
          have hO : Obs _ _ [_, _, _, _, _] := hO
          refine wpn_q hO 1 [] [(0, .slice A0 p0.length c0), (3, .slice A2077 x2080.length c2078), (4, .int .i64 x869), (5, .pointer (some ⟨b1802, 0, none⟩)), (6, .int .i64 x2087), (7, .pointer (some ⟨b2407, 0, none⟩)), (52, .slice A2412 (([] : List ByteArray) ++ y2398.Fields).length c2413), (53, .pointer (some ⟨b2407, 5, none⟩))] (ar (ar (ar (ar (ar (ar (ar (ar trivial)))))))) fun j => ?_
          refine wpn_st hO (i := 3) rfl (off := 5) rfl rfl rfl rfl (Nat.le_of_ble_eq_true rfl) rfl fun σ hO => ?_
          have hO : Obs _ _ [_, _, _, _, _] := hO
          refine wpn_nil ?_
          refine wpn_rlast ?_
          refine wpn_q hO 3 [1, 3] [(0, .slice A0 p0.length c0), (3, .slice A2077 x2080.length c2078), (4, .int .i64 x869), (5, .pointer (some ⟨b1802, 0, none⟩)), (6, .int .i64 x2087), (55, .slice A2082 x2085.length c2083), (56, .agg #[(.string y2398.Name), (.int .u8 (y2398.Type_.Kind.toNat : Int)), (.int .i64 y2398.Type_.N), (.string y2398.Type_.Name), (.int .i64 y2398.Words), (.slice A2412 (([] : List ByteArray) ++ y2398.Fields).length c2413)])] (And.intro (And.intro rfl rfl) (And.intro (And.intro rfl rfl) (ar (ar (ar (ar (ar (ar (ar trivial))))))))) fun j => ?_
          obtain ⟨_, h2418, r2417, hO⟩ := w2415.share hO (i := 4) rfl
          have hL := hL.trans h2418
          have r2076 := r2076.le h2418
          have w2081 := w2081.le h2418
          have w2086 := w2086.le h2418
          have hO : Obs _ _ [_, _, _, _, _] := hO
          obtain ⟨_, hr2423, hF⟩ := bind_some hF
          refine wpn_ap1 (T := zn) (y := (⟨y2398.Name, (⟨y2398.Type_.Kind, y2398.Type_.N, y2398.Type_.Name⟩ : zp), y2398.Words, (([] : List ByteArray) ++ y2398.Fields)⟩ : zh)) hO w2086 (i := 2) rfl rfl (fun _ => rfl) rfl ⟨_, rfl, r2417⟩ rfl hr2423 (by decide) fun u _ σ o2421 w2422 hO => ?_
          obtain ⟨A2419, c2420, rfl, -⟩ := w2422.form
          have hO : Obs _ _ [_, _, _, _, _] := hO
          refine wpn_q hO 1 [] [(0, .slice A0 p0.length c0), (3, .slice A2077 x2080.length c2078), (4, .int .i64 x869), (5, .pointer (some ⟨b1802, 0, none⟩)), (6, .int .i64 x2087), (58, .slice A2419 (x2085 ++ [(⟨y2398.Name, (⟨y2398.Type_.Kind, y2398.Type_.N, y2398.Type_.Name⟩ : zp), y2398.Words, (([] : List ByteArray) ++ y2398.Fields)⟩ : zh)]).length c2420), (59, .pointer (some ⟨b1802, 3, none⟩))] (ar (ar (ar (ar (ar (ar (ar trivial))))))) fun j => ?_
          refine wpn_st hO (i := 1) rfl (off := 3) rfl rfl rfl rfl (Nat.le_of_ble_eq_true rfl) rfl fun σ hO => ?_
          have hO : Obs _ _ [_, _, _, _, _] := hO
          refine wpn_nil ?_
          refine wpn_end ?_
          refine inb_i ?_
          refine thn_i ?_
          refine wpn_rlast ?_
          refine wpn_qa hO [] [(0, .slice A0 p0.length c0), (3, .slice A2077 x2080.length c2078), (4, .int .i64 x869), (5, .pointer (some ⟨b1802, 0, none⟩)), (6, .int .i64 (IntKind.i64.wrap (x2087 + 1)))] (ar (ar (ar (ar (ar trivial))))) fun j => ?_
          refine wpn_end ?_
          refine thn_i ?_
          have hO := hO.sel [0, 1, 2] (by decide)
          exact ⟨n2370, Nat.lt_succ_self _, A2077, c2078, o2079, x2080, A2419, c2420, o2421, (x2085 ++ [(⟨y2398.Name, (⟨y2398.Type_.Kind, y2398.Type_.N, y2398.Type_.Name⟩ : zp), y2398.Words, (([] : List ByteArray) ++ y2398.Fields)⟩ : zh)]), (IntKind.i64.wrap (x2087 + 1)), _, ar (ar (ar (ar (ar trivial)))), hO, hL, r2076, w2081, w2422, hF⟩
        · refine wpn_cF (congrArg Value.bool hb2384) ?_
          refine wpn_ex ?_
          refine thn_x ?_
          refine inb_x ?_
          refine thn_i ?_
          refine wpn_assoc ?_
          refine wpn_qa hO [] [(0, .slice A0 p0.length c0), (3, .slice A2077 x2080.length c2078), (4, .int .i64 x869), (5, .pointer (some ⟨b1802, 0, none⟩)), (8, .int .i64 0)] (ar (ar (ar (ar (ar trivial))))) fun j => ?_
          refine wpn_bl ?_
          have hO := hO.no
          have hO : Obs _ _ [_, _, _, _] := hO
          refine wpn_lp (fun (n : Nat) e' σ' => ∃ (A2502 : Option Addr) (c2503 : Nat) (o2504 : Ob) (x2505 : List zc) (A2507 : Option Addr) (c2508 : Nat) (o2509 : Ob) (x2510 : List zh) (A2512 : Option Addr) (c2513 : Nat) (o2514 : Ob) (x2515 : List (List ze)) (x2517 : Int) (τ' : Hp), agr [(0, .slice A0 p0.length c0), (3, .slice A2502 x2505.length c2503), (4, .int .i64 x869), (5, .pointer (some ⟨b1802, 0, none⟩)), (8, .int .i64 x2517)] e' ∧ Obs τ' σ' [o2504, some (b1802, ⟨[.string y1763.Name, .int .i64 y1776.From, .int .i64 y1789.To, .slice A2507 x2510.length c2508, .slice A2512 x2515.length c2513], 50, 5, true⟩), o2509, o2514] ∧ Hp.le τ τ' ∧ RdT zj τ' (.slice A0 p0.length c0) p0 ∧ OwnO zj 50 τ' (.slice A2502 x2505.length c2503) x2505 o2504 ∧ OwnO zn 64 τ' (.slice A2507 x2510.length c2508) x2510 o2509 ∧ OwnO (Ty.slice zk) 56 τ' (.slice A2512 x2515.length c2513) x2515 o2514 ∧ zcg (zA p0 n1761) p0 x869 y1763 y1776 y1789 n x2505 x2510 x2515 x2517 = some rr) big ⟨A2077, c2078, o2079, x2080, A2082, c2083, o2084, x2085, none, 0, none, [], 0, _, ar (ar (ar (ar (ar trivial)))), hO, hL, r2076, w2081, w2086, OwnO.nil _ _ _, hF⟩ ?_
          clear hF hO hL
          rintro n2585 e σ ⟨A2502, c2503, o2504, x2505, A2507, c2508, o2509, x2510, A2512, c2513, o2514, x2515, x2517, _, hA, hO, hL, r2501, w2506, w2511, w2516, hF⟩
          rw [← sets_agr _ _ hA]
          cases n2585 with
          | zero => exact nomatch (show none = some rr from hF)
          | succ n2585 =>
            replace hF : zb8 (zcg (zA p0 n1761) p0 x869 y1763 y1776 y1789 n2585) (zA p0 n1761) p0 x869 y1763 y1776 y1789 x2505 x2510 x2515 x2517 = some rr := hF
            unfold zb8 at hF
            refine wpn_assoc ?_
            refine wpn_q hO 3 [] [(0, .slice A0 p0.length c0), (3, .slice A2502 x2505.length c2503), (4, .int .i64 x869), (5, .pointer (some ⟨b1802, 0, none⟩)), (8, .int .i64 x2517), (60, .int .i64 x2517), (61, .slice A0 p0.length c0), (62, .int .i64 x869)] (ar (ar (ar (ar (ar (ar (ar (ar trivial)))))))) fun j => ?_
            obtain ⟨y2586, g2587, hF⟩ := bind_some hF
            refine wpn_idx (T := zj) r2501 hO.base rfl rfl g2587 (by decide) fun a2588 _ k2589 m2590 => ?_
            obtain ⟨v2591, v2595, rfl, r2592, r2596⟩ := k2589
            obtain ⟨A2593, c2594, rfl, -⟩ := r2592.form
            obtain ⟨A2597, c2598, rfl, -⟩ := r2596.form
            refine wpn_q hO 1 [] [(0, .slice A0 p0.length c0), (3, .slice A2502 x2505.length c2503), (4, .int .i64 x869), (5, .pointer (some ⟨b1802, 0, none⟩)), (8, .int .i64 x2517), (60, .int .i64 x2517), (64, .pointer (some (a2588.add 4)))] (ar (ar (ar (ar (ar (ar (ar trivial))))))) fun j => ?_
            refine wpn_ld rfl ((m2590.le hO.base).one 4 rfl) ?_
            refine wpn_qa hO [] [(0, .slice A0 p0.length c0), (3, .slice A2502 x2505.length c2503), (4, .int .i64 x869), (5, .pointer (some ⟨b1802, 0, none⟩)), (8, .int .i64 x2517), (67, .bool (decide (x2517 < (y2586.Spans.length : Int))))] (ar (ar (ar (ar (ar (ar trivial)))))) fun j => ?_
            rcases ite_some hF with ⟨hb2599, hF⟩ | ⟨hb2599, hF⟩
            · refine wpn_cT (congrArg Value.bool hb2599) ?_
              refine wpn_sk ?_
              refine wpn_bl ?_
              refine wpn_plast ?_
              refine wpn_q hO 4 [1] [(0, .slice A0 p0.length c0), (3, .slice A2502 x2505.length c2503), (4, .int .i64 x869), (5, .pointer (some ⟨b1802, 0, none⟩)), (8, .int .i64 x2517), (70, .pointer (some ⟨b1802, 4, none⟩)), (71, .slice A2512 x2515.length c2513), (72, .slice A0 p0.length c0), (73, .int .i64 x869)] (And.intro (And.intro rfl rfl) (ar (ar (ar (ar (ar (ar (ar (ar (ar trivial)))))))))) fun j => ?_
              obtain ⟨y2600, g2601, hF⟩ := bind_some hF
              refine wpn_idx (T := zj) r2501 hO.base rfl rfl g2601 (by decide) fun a2602 _ k2603 m2604 => ?_
              obtain ⟨v2605, v2609, rfl, r2606, r2610⟩ := k2603
              obtain ⟨A2607, c2608, rfl, -⟩ := r2606.form
              obtain ⟨A2611, c2612, rfl, -⟩ := r2610.form
              refine wpn_q hO 1 [] [(0, .slice A0 p0.length c0), (3, .slice A2502 x2505.length c2503), (4, .int .i64 x869), (5, .pointer (some ⟨b1802, 0, none⟩)), (8, .int .i64 x2517), (70, .pointer (some ⟨b1802, 4, none⟩)), (71, .slice A2512 x2515.length c2513), (75, .pointer (some (a2602.add 4)))] (ar (ar (ar (ar (ar (ar (ar (ar trivial)))))))) fun j => ?_
              refine wpn_ld rfl ((m2604.le hO.base).one 4 rfl) ?_
              refine wpn_q hO 1 [] [(0, .slice A0 p0.length c0), (3, .slice A2502 x2505.length c2503), (4, .int .i64 x869), (5, .pointer (some ⟨b1802, 0, none⟩)), (8, .int .i64 x2517), (70, .pointer (some ⟨b1802, 4, none⟩)), (71, .slice A2512 x2515.length c2513), (76, .slice A2611 y2600.Spans.length c2612), (77, .int .i64 x2517)] (ar (ar (ar (ar (ar (ar (ar (ar (ar trivial))))))))) fun j => ?_
              obtain ⟨y2613, g2614, hF⟩ := bind_some hF
              refine wpn_idx (T := (Ty.slice zk)) r2610 hO.base rfl rfl g2614 (by decide) fun a2615 _ k2616 m2617 => ?_
              obtain ⟨v2618, rfl, r2619⟩ := k2616
              obtain ⟨A2620, c2621, rfl, -⟩ := r2619.form
              refine wpn_ld rfl (m2617.le hO.base).fst ?_
              refine wpn_late ?_
              obtain ⟨c2622, h2623, hF⟩ := bind_some hF
              refine wpn_c0 hO (zeV r2619 h2623) rfl fun _ σ _ _ hO h2624 h2625 => ?_
              have hL := hL.trans h2624
              have r2501 := r2501.le h2624
              have w2506 := w2506.le h2624
              have w2516 := w2516.le h2624
              have r2610 := r2610.le h2624
              have m2617 := m2617.le h2624
              have r2619 := r2619.le h2624
              have w2511 := w2511.le h2624
              obtain ⟨v2626, o2629, rfl, rfl, w2630⟩ := h2625
              obtain ⟨A2627, c2628, rfl, -⟩ := w2630.form
              have hO : Obs _ _ [_, _, _, _, _] := hO
              refine wpn_nil ?_
              refine wpn_ag ⟨(again_ld rfl (hO.val (i := 1) (off := 4) (agg := false) (n := 1) rfl rfl) rfl), trivial⟩ ?_
              refine wpn_late ?_
              obtain ⟨_, h2632, r2631, hO⟩ := w2630.share hO (i := 4) rfl
              have hL := hL.trans h2632
              have r2501 := r2501.le h2632
              have w2506 := w2506.le h2632
              have w2516 := w2516.le h2632
              have r2610 := r2610.le h2632
              have m2617 := m2617.le h2632
              have r2619 := r2619.le h2632
              have w2511 := w2511.le h2632
              have hO : Obs _ _ [_, _, _, _, _] := hO
              refine wpn_lit (T := (Ty.slice zk)) (l := ([c2622] : List (List ze))) (cs := [.slice A2627 c2622.length c2628]) hO rfl ⟨[.slice A2627 c2622.length c2628], _, rfl, ⟨_, rfl, r2631⟩, rfl⟩ rfl (by decide) fun _ σ o2635 w2636 hO => ?_
              obtain ⟨A2633, c2634, rfl, -⟩ := w2636.form
              have hO : Obs _ _ [_, _, _, _, _, _] := hO
              refine wpn_nil ?_
              refine wpn_ag ⟨(again_ld rfl (hO.val (i := 1) (off := 4) (agg := false) (n := 1) rfl rfl) rfl), trivial⟩ ?_
              obtain ⟨_, h2638, r2637, hO⟩ := w2636.share hO (i := 5) rfl
              have hL := hL.trans h2638
              have r2501 := r2501.le h2638
              have w2506 := w2506.le h2638
              have w2516 := w2516.le h2638
              have r2610 := r2610.le h2638
              have m2617 := m2617.le h2638
              have r2619 := r2619.le h2638
              have r2631 := r2631.le h2638
              have w2511 := w2511.le h2638
              have hO : Obs _ _ [_, _, _, _, _, _] := hO
              obtain ⟨_, hr2643, hF⟩ := bind_some hF
              refine wpn_apl (T := (Ty.slice zk)) hO w2516 (i := 3) rfl rfl rfl r2637 hr2643 (by decide) fun _ σ o2641 w2642 hO => ?_
              obtain ⟨A2639, c2640, rfl, -⟩ := w2642.form
              have hO : Obs _ _ [_, _, _, _, _, _] := hO
              refine wpn_q hO 1 [] [(0, .slice A0 p0.length c0), (3, .slice A2502 x2505.length c2503), (4, .int .i64 x869), (5, .pointer (some ⟨b1802, 0, none⟩)), (8, .int .i64 x2517), (82, .slice A2639 (x2515 ++ ([c2622] : List (List ze))).length c2640), (83, .pointer (some ⟨b1802, 4, none⟩))] (ar (ar (ar (ar (ar (ar (ar trivial))))))) fun j => ?_
              refine wpn_st hO (i := 1) rfl (off := 4) rfl rfl rfl rfl (Nat.le_of_ble_eq_true rfl) rfl fun σ hO => ?_
              have hO : Obs _ _ [_, _, _, _, _, _] := hO
              refine wpn_nil ?_
              refine wpn_end ?_
              refine inb_i ?_
              refine thn_i ?_
              refine wpn_rlast ?_
              refine wpn_qa hO [] [(0, .slice A0 p0.length c0), (3, .slice A2502 x2505.length c2503), (4, .int .i64 x869), (5, .pointer (some ⟨b1802, 0, none⟩)), (8, .int .i64 (IntKind.i64.wrap (x2517 + 1)))] (ar (ar (ar (ar (ar trivial))))) fun j => ?_
              refine wpn_end ?_
              refine thn_i ?_
              have hO := hO.sel [0, 1, 2, 3] (by decide)
              exact ⟨n2585, Nat.lt_succ_self _, A2502, c2503, o2504, x2505, A2507, c2508, o2509, x2510, A2639, c2640, o2641, (x2515 ++ ([c2622] : List (List ze))), (IntKind.i64.wrap (x2517 + 1)), _, ar (ar (ar (ar (ar trivial)))), hO, hL, r2501, w2506, w2511, w2642, hF⟩
            · refine wpn_cF (congrArg Value.bool hb2599) ?_
              refine wpn_ex ?_
              refine thn_x ?_
              refine inb_x ?_
              refine thn_i ?_
              refine wpn_rlast ?_
              refine wpn_q hO 2 [1] [(0, .slice A0 p0.length c0), (4, .int .i64 x869), (84, .slice A2502 x2505.length c2503), (85, .agg #[(.string y1763.Name), (.int .i64 y1776.From), (.int .i64 y1789.To), (.slice A2507 x2510.length c2508), (.slice A2512 x2515.length c2513)])] (And.intro (And.intro rfl rfl) (ar (ar (ar (ar trivial))))) fun j => ?_
              obtain ⟨_, h2645, r2644, hO⟩ := w2511.share hO (i := 2) rfl
              have hL := hL.trans h2645
              have r2501 := r2501.le h2645
              have w2506 := w2506.le h2645
              have w2516 := w2516.le h2645
              have hO : Obs _ _ [_, _, _, _] := hO
              obtain ⟨_, h2647, r2646, hO⟩ := w2516.share hO (i := 3) rfl
              have hL := hL.trans h2647
              have r2501 := r2501.le h2647
              have w2506 := w2506.le h2647
              have r2644 := r2644.le h2647
              have hO : Obs _ _ [_, _, _, _] := hO
              obtain ⟨_, hr2652, hF⟩ := bind_some hF
              refine wpn_ap1 (T := zj) (y := (⟨y1763.Name, y1776.From, y1789.To, x2510, x2515⟩ : zc)) hO w2506 (i := 0) rfl rfl (fun _ => rfl) rfl ⟨_, _, rfl, r2644, r2646⟩ rfl hr2652 (by decide) fun u _ σ o2650 w2651 hO => ?_
              obtain ⟨A2648, c2649, rfl, -⟩ := w2651.form
              have hO : Obs _ _ [_, _, _, _] := hO
              refine wpn_qa hO [] [(0, .slice A0 p0.length c0), (3, .slice A2648 (x2505 ++ [(⟨y1763.Name, y1776.From, y1789.To, x2510, x2515⟩ : zc)]).length c2649), (4, .int .i64 x869)] (ar (ar (ar trivial))) fun j => ?_
              refine wpn_end ?_
              refine inb_i ?_
              refine thn_i ?_
              refine wpn_rlast ?_
              refine wpn_qa hO [] [(0, .slice A0 p0.length c0), (3, .slice A2648 (x2505 ++ [(⟨y1763.Name, y1776.From, y1789.To, x2510, x2515⟩ : zc)]).length c2649), (4, .int .i64 (IntKind.i64.wrap (x869 + 1)))] (ar (ar (ar trivial))) fun j => ?_
              refine wpn_end ?_
              refine thn_i ?_
              have hO := hO.sel [0] (by decide)
              exact ⟨n1761, Nat.lt_succ_self _, A2648, c2649, o2650, (x2505 ++ [(⟨y1763.Name, y1776.From, y1789.To, x2510, x2515⟩ : zc)]), (IntKind.i64.wrap (x869 + 1)), _, ar (ar (ar trivial)), hO, hL, r2501, w2651, hF⟩
    · refine wpn_cF (congrArg Value.bool hb1762) ?_
      refine wpn_ex ?_
      refine thn_x ?_
      refine inb_x ?_
      refine thn_i ?_
      refine wpn_qa hO [] [(2, .slice A864 x867.length c865)] (ar trivial) fun j => ?_
      refine wpn_r1 ?_
      injection hF with hF
      subst hF
      exact hQ _ _ _ _ _ rfl hO hL ⟨_, _, rfl, rfl, w868⟩
theorem ze7 {τ : Hp} {v0 : Value} {p0 : (List zi)} (r0 : RdT zl τ v0 p0) {rr : (List zi)} (hF : zdz p0 = some rr) :
    Ctr Try.prog 9 #[v0] τ [] (fun v τ' vs' => ∃ (v0 : Value) (o0 : Ob), v = v0 ∧ vs' = [o0] ∧ OwnO zl 59 τ' v0 rr o0) := by
  obtain ⟨A0, c0, rfl, -⟩ := r0.form
  refine ctr_of (args := [.slice A0 p0.length c0]) hm Try.func9 s9 rfl fun w0 σ hO Q hQ => ?_
  unfold zdz at hF
  have hL := Hp.le.refl τ
  show wpn _ _ a9.body _ _ _
  unfold a9
  dsimp only
  refine wpn_qa hO [] [(0, .slice A0 p0.length c0)] (ar trivial) fun j => ?_
  refine wpn_qa hO [] [(0, .slice A0 p0.length c0), (3, .slice none 0 0)] (ar (ar trivial)) fun j => ?_
  refine wpn_assoc ?_
  refine wpn_qa hO [] [(0, .slice A0 p0.length c0), (3, .slice none 0 0), (4, .int .i64 0)] (ar (ar (ar trivial))) fun j => ?_
  refine wpn_bl ?_
  have hO := hO.no
  have hO : Obs _ _ [_] := hO
  refine wpn_lp (fun (n : Nat) e' σ' => ∃ (A49 : Option Addr) (c50 : Nat) (o51 : Ob) (x52 : List zi) (x54 : Int) (τ' : Hp), agr [(0, .slice A0 p0.length c0), (3, .slice A49 x52.length c50), (4, .int .i64 x54)] e' ∧ Obs τ' σ' [o51] ∧ Hp.le τ τ' ∧ RdT zl τ' (.slice A0 p0.length c0) p0 ∧ OwnO zl 59 τ' (.slice A49 x52.length c50) x52 o51 ∧ zci p0 n x52 x54 = some rr) big ⟨none, 0, none, [], 0, _, ar (ar (ar trivial)), hO, hL, r0, OwnO.nil _ _ _, hF⟩ ?_
  clear hF hO hL
  rintro n99 e σ ⟨A49, c50, o51, x52, x54, _, hA, hO, hL, r48, w53, hF⟩
  rw [← sets_agr _ _ hA]
  cases n99 with
  | zero => exact nomatch (show none = some rr from hF)
  | succ n99 =>
    replace hF : zcf (zci p0 n99) p0 x52 x54 = some rr := hF
    unfold zcf at hF
    refine wpn_assoc ?_
    refine wpn_qa hO [] [(0, .slice A0 p0.length c0), (3, .slice A49 x52.length c50), (4, .int .i64 x54), (8, .bool (decide (x54 < (p0.length : Int))))] (ar (ar (ar (ar trivial)))) fun j => ?_
    rcases ite_some hF with ⟨hb100, hF⟩ | ⟨hb100, hF⟩
    · refine wpn_cT (congrArg Value.bool hb100) ?_
      refine wpn_sk ?_
      refine wpn_bl ?_
      refine wpn_plast ?_
      refine wpn_q hO 3 [] [(0, .slice A0 p0.length c0), (4, .int .i64 x54), (11, .slice A49 x52.length c50), (12, .slice A0 p0.length c0), (13, .int .i64 x54)] (ar (ar (ar (ar (ar trivial))))) fun j => ?_
      obtain ⟨y101, g102, hF⟩ := bind_some hF
      refine wpn_idx (T := zl) r48 hO.base rfl rfl g102 (by decide) fun a103 _ k104 m105 => ?_
      obtain ⟨v106, rfl, r107⟩ := k104
      obtain ⟨A108, c109, rfl, -⟩ := r107.form
      refine wpn_q hO 1 [] [(0, .slice A0 p0.length c0), (4, .int .i64 x54), (11, .slice A49 x52.length c50), (15, .pointer (some a103))] (ar (ar (ar (ar trivial)))) fun j => ?_
      refine wpn_ld rfl (m105.le hO.base).fst ?_
      refine wpn_q hO 2 [] [(0, .slice A0 p0.length c0), (4, .int .i64 x54), (11, .slice A49 x52.length c50), (15, .pointer (some a103)), (16, .int .i64 y101.Func), (17, .slice A0 p0.length c0), (18, .int .i64 x54)] (ar (ar (ar (ar (ar (ar (ar trivial))))))) fun j => ?_
      obtain ⟨y110, g111, hF⟩ := bind_some hF
      refine wpn_idx (T := zl) r48 hO.base rfl rfl g111 (by decide) fun a112 _ k113 m114 => ?_
      obtain ⟨v115, rfl, r116⟩ := k113
      obtain ⟨A117, c118, rfl, -⟩ := r116.form
      refine wpn_q hO 1 [] [(0, .slice A0 p0.length c0), (4, .int .i64 x54), (11, .slice A49 x52.length c50), (15, .pointer (some a103)), (16, .int .i64 y101.Func), (20, .pointer (some (a112.add 1)))] (ar (ar (ar (ar (ar (ar trivial)))))) fun j => ?_
      refine wpn_ld rfl ((m114.le hO.base).one 1 rfl) ?_
      refine wpn_q hO 2 [] [(0, .slice A0 p0.length c0), (4, .int .i64 x54), (11, .slice A49 x52.length c50), (15, .pointer (some a103)), (16, .int .i64 y101.Func), (20, .pointer (some (a112.add 1))), (21, .int .i64 y110.Line), (23, .slice A0 p0.length c0), (24, .int .i64 x54)] (ar (ar (ar (ar (ar (ar (ar (ar (ar trivial))))))))) fun j => ?_
      obtain ⟨y119, g120, hF⟩ := bind_some hF
      refine wpn_idx (T := zl) r48 hO.base rfl rfl g120 (by decide) fun a121 _ k122 m123 => ?_
      obtain ⟨v124, rfl, r125⟩ := k122
      obtain ⟨A126, c127, rfl, -⟩ := r125.form
      refine wpn_q hO 1 [] [(0, .slice A0 p0.length c0), (4, .int .i64 x54), (11, .slice A49 x52.length c50), (15, .pointer (some a103)), (16, .int .i64 y101.Func), (20, .pointer (some (a112.add 1))), (21, .int .i64 y110.Line), (26, .pointer (some (a121.add 2)))] (ar (ar (ar (ar (ar (ar (ar (ar trivial)))))))) fun j => ?_
      refine wpn_ld rfl ((m123.le hO.base).one 2 rfl) ?_
      refine wpn_late ?_
      refine wpn_lit (T := (Ty.int .i64)) (l := ([] : List Int)) (cs := []) hO rfl rfl rfl (by decide) fun _ σ o130 w131 hO => ?_
      obtain ⟨A128, c129, rfl, -⟩ := w131.form
      have hO : Obs _ _ [_, _] := hO
      refine wpn_nil ?_
      refine wpn_ag ⟨(again_ld rfl ((m123.le hO.base).one 2 rfl) rfl), (again_ld rfl ((m114.le hO.base).one 1 rfl) rfl), (again_ld rfl (m105.le hO.base).fst rfl), trivial⟩ ?_
      refine wpn_late ?_
      obtain ⟨_, hr136, hF⟩ := bind_some hF
      refine wpn_apl (T := (Ty.int .i64)) hO w131 (i := 1) rfl rfl rfl r125 hr136 (by decide) fun _ σ o134 w135 hO => ?_
      obtain ⟨A132, c133, rfl, -⟩ := w135.form
      have hO : Obs _ _ [_, _] := hO
      refine wpn_nil ?_
      refine wpn_ag ⟨(again_ld rfl ((m114.le hO.base).one 1 rfl) rfl), (again_ld rfl (m105.le hO.base).fst rfl), trivial⟩ ?_
      refine wpn_q hO 1 [] [(0, .slice A0 p0.length c0), (4, .int .i64 x54), (11, .slice A49 x52.length c50), (29, .agg #[(.int .i64 y101.Func), (.int .i64 y110.Line), (.slice A132 (([] : List Int) ++ y119.Scope).length c133)])] (ar (ar (ar (ar trivial)))) fun j => ?_
      obtain ⟨_, h138, r137, hO⟩ := w135.share hO (i := 1) rfl
      have hL := hL.trans h138
      have r48 := r48.le h138
      have w53 := w53.le h138
      have hO : Obs _ _ [_, _] := hO
      obtain ⟨_, hr143, hF⟩ := bind_some hF
      refine wpn_ap1 (T := zl) (y := (⟨y101.Func, y110.Line, (([] : List Int) ++ y119.Scope)⟩ : zi)) hO w53 (i := 0) rfl rfl (fun _ => rfl) rfl ⟨_, rfl, r137⟩ rfl hr143 (by decide) fun u _ σ o141 w142 hO => ?_
      obtain ⟨A139, c140, rfl, -⟩ := w142.form
      have hO : Obs _ _ [_, _] := hO
      refine wpn_qa hO [] [(0, .slice A0 p0.length c0), (3, .slice A139 (x52 ++ [(⟨y101.Func, y110.Line, (([] : List Int) ++ y119.Scope)⟩ : zi)]).length c140), (4, .int .i64 x54)] (ar (ar (ar trivial))) fun j => ?_
      refine wpn_end ?_
      refine inb_i ?_
      refine thn_i ?_
      refine wpn_rlast ?_
      refine wpn_qa hO [] [(0, .slice A0 p0.length c0), (3, .slice A139 (x52 ++ [(⟨y101.Func, y110.Line, (([] : List Int) ++ y119.Scope)⟩ : zi)]).length c140), (4, .int .i64 (IntKind.i64.wrap (x54 + 1)))] (ar (ar (ar trivial))) fun j => ?_
      refine wpn_end ?_
      refine thn_i ?_
      have hO := hO.sel [0] (by decide)
      exact ⟨n99, Nat.lt_succ_self _, A139, c140, o141, (x52 ++ [(⟨y101.Func, y110.Line, (([] : List Int) ++ y119.Scope)⟩ : zi)]), (IntKind.i64.wrap (x54 + 1)), _, ar (ar (ar trivial)), hO, hL, r48, w142, hF⟩
    · refine wpn_cF (congrArg Value.bool hb100) ?_
      refine wpn_ex ?_
      refine thn_x ?_
      refine inb_x ?_
      refine thn_i ?_
      refine wpn_qa hO [] [(2, .slice A49 x52.length c50)] (ar trivial) fun j => ?_
      refine wpn_r1 ?_
      injection hF with hF
      subst hF
      exact hQ _ _ _ _ _ rfl hO hL ⟨_, _, rfl, rfl, w53⟩
theorem zfD {τ : Hp} {v0 : Value} {p0 : (List UInt8)} (r0 : RdT Ty.u8 τ v0 p0) {rr : (List UInt8)} (hF : zdf p0 = some rr) :
    Ctr Try.prog 19 #[v0] τ [] (fun v τ' vs' => ∃ (v0 : Value) (o0 : Ob), v = v0 ∧ vs' = [o0] ∧ OwnO Ty.u8 5 τ' v0 rr o0) := by
  obtain ⟨A0, c0, rfl, -⟩ := r0.form
  refine ctr_of (args := [.slice A0 p0.length c0]) hm Try.func19 s19 rfl fun w0 σ hO Q hQ => ?_
  unfold zdf at hF
  have hL := Hp.le.refl τ
  show wpn _ _ a19.body _ _ _
  unfold a19
  dsimp only
  refine wpn_qa hO [] [(0, .slice A0 p0.length c0)] (ar trivial) fun j => ?_
  refine wpn_qa hO [] [(0, .slice A0 p0.length c0), (3, .slice none 0 0)] (ar (ar trivial)) fun j => ?_
  refine wpn_assoc ?_
  refine wpn_qa hO [] [(3, .slice none 0 0), (6, .slice A0 p0.length c0), (7, .int .i64 (p0.length : Int)), (8, .int .i64 0)] (ar (ar (ar (ar trivial)))) fun j => ?_
  refine wpn_bl ?_
  have hO := hO.no
  have hO : Obs _ _ [_] := hO
  refine wpn_lp (fun (n : Nat) e' σ' => ∃ (A15 : Option Addr) (c16 : Nat) (o17 : Ob) (x18 : List UInt8) (x21 : Int) (τ' : Hp), agr [(3, .slice A15 x18.length c16), (6, .slice A0 p0.length c0), (7, .int .i64 (p0.length : Int)), (8, .int .i64 x21)] e' ∧ Obs τ' σ' [o17] ∧ Hp.le τ τ' ∧ OwnO Ty.u8 5 τ' (.slice A15 x18.length c16) x18 o17 ∧ RdT Ty.u8 τ' (.slice A0 p0.length c0) p0 ∧ zcN p0 n x18 x21 = some rr) big ⟨none, 0, none, [], 0, _, ar (ar (ar (ar trivial))), hO, hL, OwnO.nil _ _ _, r0, hF⟩ ?_
  clear hF hO hL
  rintro n33 e σ ⟨A15, c16, o17, x18, x21, _, hA, hO, hL, w19, r20, hF⟩
  rw [← sets_agr _ _ hA]
  cases n33 with
  | zero => exact nomatch (show none = some rr from hF)
  | succ n33 =>
    replace hF : zbY (zcN p0 n33) p0 x18 x21 = some rr := hF
    unfold zbY at hF
    refine wpn_qa hO [] [(3, .slice A15 x18.length c16), (6, .slice A0 p0.length c0), (7, .int .i64 (p0.length : Int)), (8, .int .i64 x21), (9, .bool (decide (x21 < (p0.length : Int))))] (ar (ar (ar (ar (ar trivial))))) fun j => ?_
    rcases ite_some hF with ⟨hb34, hF⟩ | ⟨hb34, hF⟩
    · refine wpn_cT (congrArg Value.bool hb34) ?_
      refine wpn_sk ?_
      refine wpn_bl ?_
      obtain ⟨y35, g36, hF⟩ := bind_some hF
      refine wpn_idx (T := Ty.u8) r20 hO.base rfl rfl g36 (by decide) fun a37 _ k38 m39 => ?_
      obtain rfl : _ = ([.int .u8 y35.toNat] : List Value) := k38
      refine wpn_ld rfl (m39.le hO.base).fst ?_
      refine wpn_qa hO [] [(3, .slice A15 x18.length c16), (5, .int .u8 (y35.toNat : Int)), (6, .slice A0 p0.length c0), (7, .int .i64 (p0.length : Int)), (8, .int .i64 x21)] (ar (ar (ar (ar (ar trivial))))) fun j => ?_
      refine wpn_rlast ?_
      refine wpn_q hO 2 [] [(6, .slice A0 p0.length c0), (7, .int .i64 (p0.length : Int)), (8, .int .i64 x21), (12, .slice A15 x18.length c16), (13, .int .u8 (y35.toNat : Int))] (ar (ar (ar (ar (ar trivial))))) fun j => ?_
      obtain ⟨_, hr44, hF⟩ := bind_some hF
      refine wpn_ap1 (T := Ty.u8) (y := y35) hO w19 (i := 0) rfl rfl (fun _ => rfl) rfl rfl rfl hr44 (by decide) fun u _ σ o42 w43 hO => ?_
      obtain ⟨A40, c41, rfl, -⟩ := w43.form
      have hO : Obs _ _ [_] := hO
      refine wpn_qa hO [] [(3, .slice A40 (x18 ++ [y35]).length c41), (6, .slice A0 p0.length c0), (7, .int .i64 (p0.length : Int)), (8, .int .i64 x21)] (ar (ar (ar (ar trivial)))) fun j => ?_
      refine wpn_end ?_
      refine inb_i ?_
      refine thn_i ?_
      refine wpn_rlast ?_
      refine wpn_qa hO [] [(3, .slice A40 (x18 ++ [y35]).length c41), (6, .slice A0 p0.length c0), (7, .int .i64 (p0.length : Int)), (8, .int .i64 (IntKind.i64.wrap (x21 + 1)))] (ar (ar (ar (ar trivial)))) fun j => ?_
      refine wpn_end ?_
      refine thn_i ?_
      exact ⟨n33, Nat.lt_succ_self _, A40, c41, o42, (x18 ++ [y35]), (IntKind.i64.wrap (x21 + 1)), _, ar (ar (ar (ar trivial))), hO, hL, w43, r20, hF⟩
    · refine wpn_cF (congrArg Value.bool hb34) ?_
      refine wpn_ex ?_
      refine thn_x ?_
      refine inb_x ?_
      refine thn_i ?_
      refine wpn_qa hO [] [(2, .slice A15 x18.length c16)] (ar trivial) fun j => ?_
      refine wpn_r1 ?_
      injection hF with hF
      subst hF
      exact hQ _ _ _ _ _ rfl hO hL ⟨_, _, rfl, rfl, w19⟩
theorem zfi {τ : Hp} {v0 : Value} {p0 : (List UInt8)} {p1 : zu} {v1_0 : Value} {v1_1 : Value} {v2 : Value} {p2 : (List UInt8)} (r0 : RdT Ty.u8 τ v0 p0) (r1_0 : RdT zj τ v1_0 p1.L) (r1_1 : RdT zl τ v1_1 p1.Points) (r2 : RdT Ty.u8 τ v2 p2) {rr : Bool} (hF : zdj p0 p1 p2 = some rr) :
    Ctr Try.prog 4 #[v0, .agg #[v1_0, v1_1], v2] τ [] (fun v τ' vs' => v = .bool rr ∧ vs' = []) := by
  obtain ⟨A0, c0, rfl, -⟩ := r0.form
  obtain ⟨A1_0, c1_0, rfl, -⟩ := r1_0.form
  obtain ⟨A1_1, c1_1, rfl, -⟩ := r1_1.form
  obtain ⟨A2, c2, rfl, -⟩ := r2.form
  refine ctr_of (args := [.slice A0 p0.length c0, .agg #[(.slice A1_0 p1.L.length c1_0), (.slice A1_1 p1.Points.length c1_1)], .slice A2 p2.length c2]) hm Try.func4 s4 rfl fun w0 σ hO Q hQ => ?_
  unfold zdj at hF
  have hL := Hp.le.refl τ
  show wpn _ _ a4.body _ _ _
  unfold a4
  dsimp only
  refine wpn_bx (n := 2) hO rfl rfl fun b4 σ hO => ?_
  have hO : Obs _ _ [_] := hO
  refine wpn_qa hO [] [(0, .slice A0 p0.length c0), (2, .slice A2 p2.length c2), (4, .pointer (some ⟨b4, 0, none⟩))] (ar (ar (ar trivial))) fun j => ?_
  refine wpn_assoc ?_
  refine wpn_q hO 7 [] [(0, .slice A0 p0.length c0), (2, .slice A2 p2.length c2), (4, .pointer (some ⟨b4, 0, none⟩)), (28, .bool ((decide ((p0.length : Int) > 1024)) || (decide ((p2.length : Int) > 4096))))] (And.intro (And.intro rfl rfl) (fun _ => ar (ar (ar (ar trivial))))) fun j => ?_
  obtain ⟨c5, h6, hF⟩ := bind_some hF
  refine wpn_mid 2 (fun e' σ' => ∃ (τ' : Hp), agr [(31, .bool c5), (0, .slice A0 p0.length c0), (2, .slice A2 p2.length c2), (4, .pointer (some ⟨b4, 0, none⟩))] e' ∧ Obs τ' σ' [some (b4, ⟨[.slice A1_0 p1.L.length c1_0, .slice A1_1 p1.Points.length c1_1], 25, 2, true⟩)] ∧ Hp.le τ τ' ∧ RdT Ty.u8 τ' (.slice A0 p0.length c0) p0 ∧ RdT Ty.u8 τ' (.slice A2 p2.length c2) p2 ∧ RdT zj τ' (.slice A1_0 p1.L.length c1_0) p1.L ∧ RdT zl τ' (.slice A1_1 p1.Points.length c1_1) p1.Points) ?_ ?_
  · have hF := h6
    rcases ite_some hF with ⟨hb7, hF⟩ | ⟨hb7, hF⟩
    · refine wpn_gF (congrArg (fun x => isB (.bool x) false) hb7) ?_
      refine wpn_pk (congrArg Value.bool hb7) ?_
      refine wpn_nil ?_
      injection hF with hF
      subst hF
      refine wpn_end ?_
      exact ⟨rfl, _, ar (ar (ar (ar trivial))), hO, hL, r0, r2, r1_0, r1_1⟩
    · refine wpn_gT (congrArg (fun x => isB (.bool x) false) hb7) ?_
      refine wpn_q hO 1 [0] [(0, .slice A0 p0.length c0), (2, .slice A2 p2.length c2), (4, .pointer (some ⟨b4, 0, none⟩)), (28, .bool ((decide ((p0.length : Int) > 1024)) || (decide ((p2.length : Int) > 4096)))), (29, .agg #[(.slice A1_0 p1.L.length c1_0), (.slice A1_1 p1.Points.length c1_1)])] (And.intro (And.intro rfl rfl) (ar (ar (ar (ar (ar trivial)))))) fun j => ?_
      obtain ⟨c8, h9, hF⟩ := bind_some hF
      refine wpn_c0 hO (zfm (p0 := (⟨p1.L, p1.Points⟩ : zu)) r1_0 r1_1 h9) rfl fun _ σ _ _ hO h10 h11 => ?_
      have hL := hL.trans h10
      have r0 := r0.le h10
      have r2 := r2.le h10
      have r1_0 := r1_0.le h10
      have r1_1 := r1_1.le h10
      obtain ⟨rfl, rfl⟩ := h11
      have hO : Obs _ _ [_] := hO
      refine wpn_pk (congrArg Value.bool hb7) ?_
      refine wpn_nil ?_
      injection hF with hF
      subst hF
      refine wpn_end ?_
      exact ⟨rfl, _, ar (ar (ar (ar trivial))), hO, hL, r0, r2, r1_0, r1_1⟩
  · rintro e σ ⟨_, hA, hO, hL, r0, r2, r1_0, r1_1⟩
    rw [← sets_agr _ _ hA]
    refine wpn_nil ?_
    rcases ite_some hF with ⟨hb12, hF⟩ | ⟨hb12, hF⟩
    · refine wpn_cT (congrArg Value.bool hb12) ?_
      refine wpn_assoc ?_
      obtain ⟨c13, h14, hF⟩ := bind_some hF
      refine wpn_c0 hO (zdO h14) rfl fun _ σ _ _ hO h15 h16 => ?_
      have hL := hL.trans h15
      have r0 := r0.le h15
      have r2 := r2.le h15
      have r1_0 := r1_0.le h15
      have r1_1 := r1_1.le h15
      obtain ⟨rfl, rfl⟩ := h16
      have hO : Obs _ _ [_] := hO
      refine wpn_qa hO [] [(6, .bool c13)] (ar trivial) fun j => ?_
      refine wpn_rt ?_
      injection hF with hF
      subst hF
      have hO := hO.sel [] (by decide)
      exact hQ _ _ _ _ _ rfl hO hL ⟨rfl, rfl⟩
    · refine wpn_cF (congrArg Value.bool hb12) ?_
      refine wpn_sk ?_
      refine wpn_qa hO [] [(0, .slice A0 p0.length c0), (2, .slice A2 p2.length c2), (4, .pointer (some ⟨b4, 0, none⟩)), (7, .int .i64 (p0.length : Int))] (ar (ar (ar (ar trivial)))) fun j => ?_
      refine wpn_p2r ?_
      refine wpn_q hO 5 [0, 0] [(2, .slice A2 p2.length c2), (4, .pointer (some ⟨b4, 0, none⟩)), (7, .int .i64 (p0.length : Int)), (36, .slice A0 p0.length c0), (38, .slice A1_0 p1.L.length c1_0), (40, .pointer (some ⟨b4, 1, none⟩)), (41, .slice A1_1 p1.Points.length c1_1)] (And.intro (And.intro rfl rfl) (And.intro (And.intro rfl rfl) (ar (ar (ar (ar (ar (ar (ar trivial))))))))) fun j => ?_
      refine wpn_late ?_
      obtain ⟨c17, h18, hF⟩ := bind_some hF
      refine wpn_c0 hO (zfl r1_0 h18) rfl fun _ σ _ _ hO h19 h20 => ?_
      have hL := hL.trans h19
      have r2 := r2.le h19
      have r0 := r0.le h19
      have r1_0 := r1_0.le h19
      have r1_1 := r1_1.le h19
      obtain ⟨v21, o24, rfl, rfl, w25⟩ := h20
      obtain ⟨A22, c23, rfl, -⟩ := w25.form
      have hO : Obs _ _ [_, _] := hO
      refine wpn_nil ?_
      refine wpn_ag ⟨(again_ld rfl (hO.val (i := 0) (off := 1) (agg := false) (n := 1) rfl rfl) rfl), trivial⟩ ?_
      obtain ⟨c26, h27, hF⟩ := bind_some hF
      refine wpn_c0 hO (ze7 r1_1 h27) rfl fun _ σ _ _ hO h28 h29 => ?_
      have hL := hL.trans h28
      have r2 := r2.le h28
      have r0 := r0.le h28
      have r1_0 := r1_0.le h28
      have w25 := w25.le h28
      have r1_1 := r1_1.le h28
      obtain ⟨v30, o33, rfl, rfl, w34⟩ := h29
      obtain ⟨A31, c32, rfl, -⟩ := w34.form
      have hO : Obs _ _ [_, _, _] := hO
      obtain ⟨_, h36, r35, hO⟩ := w25.share hO (i := 1) rfl
      have hL := hL.trans h36
      have r2 := r2.le h36
      have r0 := r0.le h36
      have r1_0 := r1_0.le h36
      have r1_1 := r1_1.le h36
      have w34 := w34.le h36
      have hO : Obs _ _ [_, _, _] := hO
      obtain ⟨_, h38, r37, hO⟩ := w34.share hO (i := 2) rfl
      have hL := hL.trans h38
      have r2 := r2.le h38
      have r0 := r0.le h38
      have r1_0 := r1_0.le h38
      have r35 := r35.le h38
      have r1_1 := r1_1.le h38
      have hO : Obs _ _ [_, _, _] := hO
      obtain ⟨c39, h40, hF⟩ := bind_some hF
      refine wpn_c0 hO (zdK r0 r35 r37 h40) rfl fun _ σ _ _ hO h41 h42 => ?_
      have hL := hL.trans h41
      have r2 := r2.le h41
      have r0 := r0.le h41
      have r1_0 := r1_0.le h41
      have r35 := r35.le h41
      have r1_1 := r1_1.le h41
      have r37 := r37.le h41
      obtain ⟨v43, o46, rfl, rfl, w47⟩ := h42
      obtain ⟨A44, c45, rfl, -⟩ := w47.form
      have hO : Obs _ _ [_, _, _, _] := hO
      refine wpn_qa hO [] [(2, .slice A2 p2.length c2), (4, .pointer (some ⟨b4, 0, none⟩)), (7, .int .i64 (p0.length : Int)), (8, .slice A44 c39.1.length c45), (9, .int .i64 c39.2)] (ar (ar (ar (ar (ar trivial))))) fun j => ?_
      refine wpn_assoc ?_
      refine wpn_q hO 6 [0, 0] [(2, .slice A2 p2.length c2), (4, .pointer (some ⟨b4, 0, none⟩)), (7, .int .i64 (p0.length : Int)), (8, .slice A44 c39.1.length c45), (9, .int .i64 c39.2), (47, .bool (c39.2 == 0)), (49, .slice A1_0 p1.L.length c1_0), (51, .slice A1_1 p1.Points.length c1_1)] (And.intro (And.intro rfl rfl) (And.intro (And.intro rfl rfl) (ar (ar (ar (ar (ar (ar (ar (ar trivial)))))))))) fun j => ?_
      obtain ⟨c48, h49, hF⟩ := bind_some hF
      refine wpn_c0 hO (zdv r1_0 r1_1 h49) rfl fun _ σ _ _ hO h50 h51 => ?_
      have hL := hL.trans h50
      have r2 := r2.le h50
      have w47 := w47.le h50
      have r1_0 := r1_0.le h50
      have r1_1 := r1_1.le h50
      obtain ⟨rfl, rfl⟩ := h51
      have hO : Obs _ _ [_, _, _, _] := hO
      refine wpn_qa hO [] [(2, .slice A2 p2.length c2), (4, .pointer (some ⟨b4, 0, none⟩)), (7, .int .i64 (p0.length : Int)), (8, .slice A44 c39.1.length c45), (9, .int .i64 c39.2), (53, .bool (!((c39.2 == 0) == c48)))] (ar (ar (ar (ar (ar (ar trivial)))))) fun j => ?_
      rcases ite_some hF with ⟨hb52, hF⟩ | ⟨hb52, hF⟩
      · refine wpn_cT (congrArg Value.bool hb52) ?_
        refine wpn_assoc ?_
        refine wpn_qa hO [] [(6, .bool false)] (ar trivial) fun j => ?_
        refine wpn_rt ?_
        injection hF with hF
        subst hF
        have hO := hO.sel [] (by decide)
        exact hQ _ _ _ _ _ rfl hO hL ⟨rfl, rfl⟩
      · refine wpn_cF (congrArg Value.bool hb52) ?_
        refine wpn_sk ?_
        refine wpn_assoc ?_
        refine wpn_qa hO [] [(2, .slice A2 p2.length c2), (4, .pointer (some ⟨b4, 0, none⟩)), (7, .int .i64 (p0.length : Int)), (8, .slice A44 c39.1.length c45), (55, .bool (c39.2 == 0))] (ar (ar (ar (ar (ar trivial))))) fun j => ?_
        refine wpn_cut (fun e' σ' => ∃ (τ' : Hp), agr [(2, .slice A2 p2.length c2)] e' ∧ Obs τ' σ' [] ∧ Hp.le τ τ' ∧ RdT Ty.u8 τ' (.slice A2 p2.length c2) p2 ∧ zbo p2 = some rr) ?_ ?_
        · refine wpn_clast ?_
          rcases ite_some hF with ⟨hb155, hF⟩ | ⟨hb155, hF⟩
          · refine wpn_cT (congrArg Value.bool hb155) ?_
            refine wpn_assoc ?_
            refine wpn_q hO 1 [] [(2, .slice A2 p2.length c2), (4, .pointer (some ⟨b4, 0, none⟩)), (7, .int .i64 (p0.length : Int)), (8, .slice A44 c39.1.length c45), (57, .slice A44 c39.1.length c45)] (ar (ar (ar (ar (ar trivial))))) fun j => ?_
            obtain ⟨_, h157, r156, hO⟩ := w47.share hO (i := 3) rfl
            have hL := hL.trans h157
            have r2 := r2.le h157
            have r1_0 := r1_0.le h157
            have r1_1 := r1_1.le h157
            have hO : Obs _ _ [_, _, _, _] := hO
            obtain ⟨c158, h159, hF⟩ := bind_some hF
            refine wpn_c0 hO (zfD r156 h159) rfl fun _ σ _ _ hO h160 h161 => ?_
            have hL := hL.trans h160
            have r2 := r2.le h160
            have r156 := r156.le h160
            have r1_0 := r1_0.le h160
            have r1_1 := r1_1.le h160
            obtain ⟨v162, o165, rfl, rfl, w166⟩ := h161
            obtain ⟨A163, c164, rfl, -⟩ := w166.form
            have hO : Obs _ _ [_, _, _, _, _] := hO
            refine wpn_q hO 1 [] [(2, .slice A2 p2.length c2), (4, .pointer (some ⟨b4, 0, none⟩)), (7, .int .i64 (p0.length : Int)), (8, .slice A44 c39.1.length c45), (58, .slice A163 c158.length c164), (59, .slice A2 p2.length c2)] (ar (ar (ar (ar (ar (ar trivial)))))) fun j => ?_
            obtain ⟨_, hr171, hF⟩ := bind_some hF
            refine wpn_apl (T := Ty.u8) hO w166 (i := 4) rfl rfl rfl r2 hr171 (by decide) fun _ σ o169 w170 hO => ?_
            obtain ⟨A167, c168, rfl, -⟩ := w170.form
            have hO : Obs _ _ [_, _, _, _, _] := hO
            refine wpn_q hO 1 [] [(2, .slice A2 p2.length c2), (4, .pointer (some ⟨b4, 0, none⟩)), (8, .slice A44 c39.1.length c45), (60, .slice A167 (c158 ++ p2).length c168), (61, .int .i64 (p0.length : Int))] (ar (ar (ar (ar (ar trivial))))) fun j => ?_
            obtain ⟨_, h173, r172, hO⟩ := w170.share hO (i := 4) rfl
            have hL := hL.trans h173
            have r2 := r2.le h173
            have r156 := r156.le h173
            have r1_0 := r1_0.le h173
            have r1_1 := r1_1.le h173
            have hO : Obs _ _ [_, _, _, _, _] := hO
            obtain ⟨c174, h175, hF⟩ := bind_some hF
            refine wpn_c0 hO (zdH r172 h175) rfl fun _ σ _ _ hO h176 h177 => ?_
            have hL := hL.trans h176
            have r2 := r2.le h176
            have r156 := r156.le h176
            have r172 := r172.le h176
            have r1_0 := r1_0.le h176
            have r1_1 := r1_1.le h176
            obtain ⟨v178, v182, rfl, rfl, r181, r185⟩ := h177
            obtain ⟨A179, c180, rfl, -⟩ := r181.form
            obtain ⟨A183, c184, rfl, -⟩ := r185.form
            have hO : Obs _ _ [_, _, _, _, _] := hO
            refine wpn_qa hO [] [(2, .slice A2 p2.length c2), (4, .pointer (some ⟨b4, 0, none⟩)), (8, .slice A44 c39.1.length c45), (10, .slice A179 c174.1.length c180), (11, .slice A183 c174.2.1.length c184), (12, .int .i64 c174.2.2.1), (13, .int .i64 c174.2.2.2)] (ar (ar (ar (ar (ar (ar (ar trivial))))))) fun j => ?_
            refine wpn_assoc ?_
            refine wpn_q hO 6 [] [(2, .slice A2 p2.length c2), (4, .pointer (some ⟨b4, 0, none⟩)), (10, .slice A179 c174.1.length c180), (11, .slice A183 c174.2.1.length c184), (75, .bool ((c174.2.2.2 != 0) || (c174.2.2.1 != (c39.1.length : Int))))] (And.intro (And.intro rfl rfl) (fun _ => ar (ar (ar (ar (ar trivial)))))) fun j => ?_
            have hO := hO.sel [0] (by decide)
            have hO : Obs _ _ [_] := hO
            obtain ⟨c186, h187, hF⟩ := bind_some hF
            refine wpn_mid 2 (fun e' σ' => ∃ (τ' : Hp), agr [(81, .bool c186), (2, .slice A2 p2.length c2), (4, .pointer (some ⟨b4, 0, none⟩)), (11, .slice A183 c174.2.1.length c184)] e' ∧ Obs τ' σ' [some (b4, ⟨[.slice A1_0 p1.L.length c1_0, .slice A1_1 p1.Points.length c1_1], 25, 2, true⟩)] ∧ Hp.le τ τ' ∧ RdT Ty.u8 τ' (.slice A2 p2.length c2) p2 ∧ RdT zl τ' (.slice A183 c174.2.1.length c184) c174.2.1 ∧ RdT zj τ' (.slice A1_0 p1.L.length c1_0) p1.L ∧ RdT zl τ' (.slice A1_1 p1.Points.length c1_1) p1.Points) ?_ ?_
            · have hF := h187
              rcases ite_some hF with ⟨hb188, hF⟩ | ⟨hb188, hF⟩
              · refine wpn_gF (congrArg (fun x => isB (.bool x) false) hb188) ?_
                refine wpn_pk (congrArg Value.bool hb188) ?_
                refine wpn_nil ?_
                injection hF with hF
                subst hF
                refine wpn_end ?_
                exact ⟨rfl, _, ar (ar (ar (ar trivial))), hO, hL, r2, r185, r1_0, r1_1⟩
              · refine wpn_gT (congrArg (fun x => isB (.bool x) false) hb188) ?_
                refine wpn_q hO 3 [0] [(2, .slice A2 p2.length c2), (4, .pointer (some ⟨b4, 0, none⟩)), (11, .slice A183 c174.2.1.length c184), (75, .bool ((c174.2.2.2 != 0) || (c174.2.2.1 != (c39.1.length : Int)))), (76, .slice A179 c174.1.length c180), (78, .slice A1_0 p1.L.length c1_0)] (And.intro (And.intro rfl rfl) (ar (ar (ar (ar (ar (ar trivial))))))) fun j => ?_
                obtain ⟨c189, h190, hF⟩ := bind_some hF
                refine wpn_c0 hO (zd0 r181 r1_0 h190) rfl fun _ σ _ _ hO h191 h192 => ?_
                have hL := hL.trans h191
                have r2 := r2.le h191
                have r185 := r185.le h191
                have r181 := r181.le h191
                have r1_0 := r1_0.le h191
                have r1_1 := r1_1.le h191
                obtain ⟨rfl, rfl⟩ := h192
                have hO : Obs _ _ [_] := hO
                refine wpn_q hO 1 [] [(2, .slice A2 p2.length c2), (4, .pointer (some ⟨b4, 0, none⟩)), (11, .slice A183 c174.2.1.length c184), (75, .bool ((c174.2.2.2 != 0) || (c174.2.2.1 != (c39.1.length : Int)))), (80, .bool (!c189))] (ar (ar (ar (ar (ar trivial))))) fun j => ?_
                refine wpn_pk (congrArg Value.bool hb188) ?_
                refine wpn_nil ?_
                injection hF with hF
                subst hF
                refine wpn_end ?_
                exact ⟨rfl, _, ar (ar (ar (ar trivial))), hO, hL, r2, r185, r1_0, r1_1⟩
            · rintro e σ ⟨_, hA, hO, hL, r2, r185, r1_0, r1_1⟩
              rw [← sets_agr _ _ hA]
              refine wpn_q hO 1 [] [(2, .slice A2 p2.length c2), (4, .pointer (some ⟨b4, 0, none⟩)), (11, .slice A183 c174.2.1.length c184), (82, .bool c186)] (ar (ar (ar (ar trivial)))) fun j => ?_
              obtain ⟨c193, h194, hF⟩ := bind_some hF
              refine wpn_mid 2 (fun e' σ' => ∃ (τ' : Hp), agr [(88, .bool c193), (2, .slice A2 p2.length c2)] e' ∧ Obs τ' σ' [some (b4, ⟨[.slice A1_0 p1.L.length c1_0, .slice A1_1 p1.Points.length c1_1], 25, 2, true⟩)] ∧ Hp.le τ τ' ∧ RdT Ty.u8 τ' (.slice A2 p2.length c2) p2 ∧ RdT zj τ' (.slice A1_0 p1.L.length c1_0) p1.L ∧ RdT zl τ' (.slice A1_1 p1.Points.length c1_1) p1.Points) ?_ ?_
              · have hF := h194
                rcases ite_some hF with ⟨hb195, hF⟩ | ⟨hb195, hF⟩
                · refine wpn_gF (congrArg (fun x => isB (.bool x) false) hb195) ?_
                  refine wpn_pk (congrArg Value.bool hb195) ?_
                  refine wpn_nil ?_
                  injection hF with hF
                  subst hF
                  refine wpn_end ?_
                  exact ⟨rfl, _, ar (ar trivial), hO, hL, r2, r1_0, r1_1⟩
                · refine wpn_gT (congrArg (fun x => isB (.bool x) false) hb195) ?_
                  refine wpn_q hO 3 [0] [(2, .slice A2 p2.length c2), (82, .bool c186), (83, .slice A183 c174.2.1.length c184), (85, .slice A1_1 p1.Points.length c1_1)] (And.intro (And.intro rfl rfl) (ar (ar (ar (ar trivial))))) fun j => ?_
                  obtain ⟨c196, h197, hF⟩ := bind_some hF
                  refine wpn_c0 hO (zdT r185 r1_1 h197) rfl fun _ σ _ _ hO h198 h199 => ?_
                  have hL := hL.trans h198
                  have r2 := r2.le h198
                  have r185 := r185.le h198
                  have r1_1 := r1_1.le h198
                  have r1_0 := r1_0.le h198
                  obtain ⟨rfl, rfl⟩ := h199
                  have hO : Obs _ _ [_] := hO
                  refine wpn_q hO 1 [] [(2, .slice A2 p2.length c2), (82, .bool c186), (87, .bool (!c196))] (ar (ar (ar trivial))) fun j => ?_
                  refine wpn_pk (congrArg Value.bool hb195) ?_
                  refine wpn_nil ?_
                  injection hF with hF
                  subst hF
                  refine wpn_end ?_
                  exact ⟨rfl, _, ar (ar trivial), hO, hL, r2, r1_0, r1_1⟩
              · rintro e σ ⟨_, hA, hO, hL, r2, r1_0, r1_1⟩
                rw [← sets_agr _ _ hA]
                refine wpn_nil ?_
                rcases ite_some hF with ⟨hb200, hF⟩ | ⟨hb200, hF⟩
                · refine wpn_cT (congrArg Value.bool hb200) ?_
                  refine wpn_assoc ?_
                  refine wpn_qa hO [] [(6, .bool false)] (ar trivial) fun j => ?_
                  refine wpn_rt ?_
                  refine thn_r1 ?_
                  injection hF with hF
                  subst hF
                  have hO := hO.sel [] (by decide)
                  exact hQ _ _ _ _ _ rfl hO hL ⟨rfl, rfl⟩
                · refine wpn_cF (congrArg Value.bool hb200) ?_
                  refine wpn_sk ?_
                  refine wpn_end ?_
                  refine thn_i ?_
                  have hO := hO.sel [] (by decide)
                  exact ⟨_, ar trivial, hO, hL, r2, hF⟩
          · refine wpn_cF (congrArg Value.bool hb155) ?_
            refine wpn_assoc ?_
            refine wpn_qa hO [] [(2, .slice A2 p2.length c2), (91, .bool ((c39.1.length : Int) != 0))] (ar (ar trivial)) fun j => ?_
            rcases ite_some hF with ⟨hb201, hF⟩ | ⟨hb201, hF⟩
            · refine wpn_cT (congrArg Value.bool hb201) ?_
              refine wpn_assoc ?_
              refine wpn_qa hO [] [(6, .bool false)] (ar trivial) fun j => ?_
              refine wpn_rt ?_
              refine thn_r1 ?_
              injection hF with hF
              subst hF
              have hO := hO.sel [] (by decide)
              exact hQ _ _ _ _ _ rfl hO hL ⟨rfl, rfl⟩
            · refine wpn_cF (congrArg Value.bool hb201) ?_
              refine wpn_sk ?_
              refine wpn_end ?_
              refine thn_i ?_
              have hO := hO.sel [] (by decide)
              exact ⟨_, ar trivial, hO, hL, r2, hF⟩
        · rintro e σ ⟨_, hA, hO, hL, r100, hF⟩
          rw [← sets_agr _ _ hA]
          unfold zbo at hF
          refine wpn_q hO 1 [] [(2, .slice A2 p2.length c2), (93, .slice A2 p2.length c2)] (ar (ar trivial)) fun j => ?_
          obtain ⟨c101, h102, hF⟩ := bind_some hF
          refine wpn_c0 hO (zdH r100 h102) rfl fun _ σ _ _ hO h103 h104 => ?_
          have hL := hL.trans h103
          have r100 := r100.le h103
          obtain ⟨v105, v109, rfl, rfl, r108, r112⟩ := h104
          obtain ⟨A106, c107, rfl, -⟩ := r108.form
          obtain ⟨A110, c111, rfl, -⟩ := r112.form
          have hO : Obs _ _ [] := hO
          refine wpn_qa hO [] [(2, .slice A2 p2.length c2), (14, .slice A106 c101.1.length c107), (15, .slice A110 c101.2.1.length c111), (16, .int .i64 c101.2.2.1), (17, .int .i64 c101.2.2.2)] (ar (ar (ar (ar (ar trivial))))) fun j => ?_
          refine wpn_assoc ?_
          refine wpn_qa hO [] [(2, .slice A2 p2.length c2), (14, .slice A106 c101.1.length c107), (15, .slice A110 c101.2.1.length c111), (16, .int .i64 c101.2.2.1), (100, .bool (c101.2.2.2 != 0))] (ar (ar (ar (ar (ar trivial))))) fun j => ?_
          rcases ite_some hF with ⟨hb113, hF⟩ | ⟨hb113, hF⟩
          · refine wpn_cT (congrArg Value.bool hb113) ?_
            refine wpn_assoc ?_
            refine wpn_q hO 10 [] [(113, .bool ((((c101.1.length : Int) == 0) && ((c101.2.1.length : Int) == 0)) && (c101.2.2.1 == 0)))] (And.intro (And.intro rfl rfl) (fun _ => And.intro (And.intro rfl rfl) (fun _ => ar trivial))) fun j => ?_
            obtain ⟨c114, h115, hF⟩ := bind_some hF
            refine wpn_mid 2 (fun e' σ' => ∃ (τ' : Hp), agr [(115, .bool c114)] e' ∧ Obs τ' σ' [] ∧ Hp.le τ τ') ?_ ?_
            · have hF := h115
              rcases ite_some hF with ⟨hb116, hF⟩ | ⟨hb116, hF⟩
              · refine wpn_gT (congrArg (fun x => isB (.bool x) true) hb116) ?_
                obtain ⟨c117, h118, hF⟩ := bind_some hF
                refine wpn_c0 hO (zdO h118) rfl fun _ σ _ _ hO h119 h120 => ?_
                have hL := hL.trans h119
                obtain ⟨rfl, rfl⟩ := h120
                have hO : Obs _ _ [] := hO
                refine wpn_pk (congrArg Value.bool hb116) ?_
                refine wpn_nil ?_
                injection hF with hF
                subst hF
                refine wpn_end ?_
                exact ⟨rfl, _, ar (trivial), hO, hL⟩
              · refine wpn_gF (congrArg (fun x => isB (.bool x) true) hb116) ?_
                refine wpn_pk (congrArg Value.bool hb116) ?_
                refine wpn_nil ?_
                injection hF with hF
                subst hF
                refine wpn_end ?_
                exact ⟨rfl, _, ar (trivial), hO, hL⟩
            · rintro e σ ⟨_, hA, hO, hL⟩
              rw [← sets_agr _ _ hA]
              refine wpn_qa hO [] [(6, .bool c114)] (ar trivial) fun j => ?_
              refine wpn_rt ?_
              injection hF with hF
              subst hF
              exact hQ _ _ _ _ _ rfl hO hL ⟨rfl, rfl⟩
          · refine wpn_cF (congrArg Value.bool hb113) ?_
            refine wpn_sk ?_
            refine wpn_q hO 2 [] [(2, .slice A2 p2.length c2), (14, .slice A106 c101.1.length c107), (15, .slice A110 c101.2.1.length c111), (16, .int .i64 c101.2.2.1), (117, .slice A106 c101.1.length c107), (118, .slice A110 c101.2.1.length c111)] (ar (ar (ar (ar (ar (ar trivial)))))) fun j => ?_
            obtain ⟨c121, h122, hF⟩ := bind_some hF
            refine wpn_c0 hO (zdK (RdT.nil Ty.u8 _) r108 r112 h122) rfl fun _ σ _ _ hO h123 h124 => ?_
            have hL := hL.trans h123
            have r100 := r100.le h123
            have r108 := r108.le h123
            have r112 := r112.le h123
            obtain ⟨v125, o128, rfl, rfl, w129⟩ := h124
            obtain ⟨A126, c127, rfl, -⟩ := w129.form
            have hO : Obs _ _ [_] := hO
            refine wpn_qa hO [] [(2, .slice A2 p2.length c2), (14, .slice A106 c101.1.length c107), (15, .slice A110 c101.2.1.length c111), (16, .int .i64 c101.2.2.1), (18, .slice A126 c121.1.length c127), (19, .int .i64 c121.2)] (ar (ar (ar (ar (ar (ar trivial)))))) fun j => ?_
            refine wpn_q hO 2 [] [(2, .slice A2 p2.length c2), (16, .int .i64 c101.2.2.1), (18, .slice A126 c121.1.length c127), (19, .int .i64 c121.2), (122, .slice A106 c101.1.length c107), (123, .slice A110 c101.2.1.length c111)] (ar (ar (ar (ar (ar (ar trivial)))))) fun j => ?_
            obtain ⟨c130, h131, hF⟩ := bind_some hF
            refine wpn_c0 hO (zdv r108 r112 h131) rfl fun _ σ _ _ hO h132 h133 => ?_
            have hL := hL.trans h132
            have r100 := r100.le h132
            have w129 := w129.le h132
            have r108 := r108.le h132
            have r112 := r112.le h132
            obtain ⟨rfl, rfl⟩ := h133
            have hO : Obs _ _ [_] := hO
            refine wpn_q hO 10 [] [(2, .slice A2 p2.length c2), (16, .int .i64 c101.2.2.1), (18, .slice A126 c121.1.length c127), (139, .bool (((c130 && (c121.2 == 0)) && (decide (c101.2.2.1 ≥ 2))) && (decide (c101.2.2.1 ≤ (p2.length : Int)))))] (And.intro (And.intro rfl rfl) (fun _ => And.intro (And.intro rfl rfl) (fun _ => And.intro (And.intro rfl rfl) (fun _ => ar (ar (ar (ar trivial))))))) fun j => ?_
            obtain ⟨_, h135, r134, hO⟩ := w129.share hO (i := 0) rfl
            have hL := hL.trans h135
            have r100 := r100.le h135
            have hO : Obs _ _ [_] := hO
            have hO := hO.sel [] (by decide)
            have hO : Obs _ _ [] := hO
            obtain ⟨c136, h137, hF⟩ := bind_some hF
            refine wpn_mid 2 (fun e' σ' => ∃ (τ' : Hp), agr [(145, .bool c136)] e' ∧ Obs τ' σ' [] ∧ Hp.le τ τ') ?_ ?_
            · have hF := h137
              rcases ite_some hF with ⟨hb138, hF⟩ | ⟨hb138, hF⟩
              · refine wpn_gT (congrArg (fun x => isB (.bool x) true) hb138) ?_
                refine wpn_q hO 3 [] [(139, .bool (((c130 && (c121.2 == 0)) && (decide (c101.2.2.1 ≥ 2))) && (decide (c101.2.2.1 ≤ (p2.length : Int))))), (140, .slice A126 c121.1.length c127), (141, .slice A2 p2.length c2), (142, .int .i64 c101.2.2.1)] (ar (ar (ar (ar trivial)))) fun j => ?_
                obtain ⟨y139, g140, hF⟩ := bind_some hF
                refine wpn_sl (T := Ty.u8) r100 rfl rfl rfl g140 fun _ r141 => ?_
                obtain ⟨A142, c143, rfl, -⟩ := r141.form
                obtain ⟨c144, h145, hF⟩ := bind_some hF
                refine wpn_c0 hO (ze3 r134 r141 h145) rfl fun _ σ _ _ hO h146 h147 => ?_
                have hL := hL.trans h146
                have r134 := r134.le h146
                have r100 := r100.le h146
                have r141 := r141.le h146
                obtain ⟨rfl, rfl⟩ := h147
                have hO : Obs _ _ [] := hO
                refine wpn_pk (congrArg Value.bool hb138) ?_
                refine wpn_nil ?_
                injection hF with hF
                subst hF
                refine wpn_end ?_
                exact ⟨rfl, _, ar (trivial), hO, hL⟩
              · refine wpn_gF (congrArg (fun x => isB (.bool x) true) hb138) ?_
                refine wpn_pk (congrArg Value.bool hb138) ?_
                refine wpn_nil ?_
                injection hF with hF
                subst hF
                refine wpn_end ?_
                exact ⟨rfl, _, ar (trivial), hO, hL⟩
            · rintro e σ ⟨_, hA, hO, hL⟩
              rw [← sets_agr _ _ hA]
              refine wpn_q hO 1 [] [(146, .bool c136)] (ar trivial) fun j => ?_
              obtain ⟨c148, h149, hF⟩ := bind_some hF
              refine wpn_mid 2 (fun e' σ' => ∃ (τ' : Hp), agr [(148, .bool c148)] e' ∧ Obs τ' σ' [] ∧ Hp.le τ τ') ?_ ?_
              · have hF := h149
                rcases ite_some hF with ⟨hb150, hF⟩ | ⟨hb150, hF⟩
                · refine wpn_gT (congrArg (fun x => isB (.bool x) true) hb150) ?_
                  obtain ⟨c151, h152, hF⟩ := bind_some hF
                  refine wpn_c0 hO (zdO h152) rfl fun _ σ _ _ hO h153 h154 => ?_
                  have hL := hL.trans h153
                  obtain ⟨rfl, rfl⟩ := h154
                  have hO : Obs _ _ [] := hO
                  refine wpn_pk (congrArg Value.bool hb150) ?_
                  refine wpn_nil ?_
                  injection hF with hF
                  subst hF
                  refine wpn_end ?_
                  exact ⟨rfl, _, ar (trivial), hO, hL⟩
                · refine wpn_gF (congrArg (fun x => isB (.bool x) true) hb150) ?_
                  refine wpn_pk (congrArg Value.bool hb150) ?_
                  refine wpn_nil ?_
                  injection hF with hF
                  subst hF
                  refine wpn_end ?_
                  exact ⟨rfl, _, ar (trivial), hO, hL⟩
              · rintro e σ ⟨_, hA, hO, hL⟩
                rw [← sets_agr _ _ hA]
                refine wpn_qa hO [] [(6, .bool c148)] (ar trivial) fun j => ?_
                refine wpn_r1 ?_
                injection hF with hF
                subst hF
                exact hQ _ _ _ _ _ rfl hO hL ⟨rfl, rfl⟩
end Go.Proofs.Ytckcngkkofemjaa
