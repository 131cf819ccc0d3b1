import Derived.Test.YtckcngkkofemjaaF
import Derived.Test.YtckcngkkofemjaaAc0
import Derived.Test.YtckcngkkofemjaaM00
import Derived.Test.YtckcngkkofemjaaM01
import Derived.Test.YtckcngkkofemjaaG2
namespace Go.Proofs.Ytckcngkkofemjaa
open Go.Ab Go.RowKit
set_option linter.unusedVariables false
set_option linter.unusedSimpArgs false
set_option maxRecDepth 10000
set_option maxHeartbeats 1000000
theorem zec {τ : Hp} {v0 : Value} {p0 : (List zc)} (r0 : RdT zh τ v0 p0) {rr : (List zc)} (hF : zbU p0 = some rr) :
    Ctr Try.prog 23 #[v0] τ [] (fun v τ' vs' => ∃ (v0 : Value) (o0 : Ob), v = v0 ∧ vs' = [o0] ∧ OwnO zh 55 τ' v0 rr o0) := by
  obtain ⟨A0, c0, rfl, -⟩ := r0.form
  refine ctr_of (args := [.slice A0 p0.length c0]) hm Try.func23 s23 rfl fun w0 σ hO Q hQ => ?_
  unfold zbU at hF
  have hL := Hp.le.refl τ
  show wpn _ _ a23.body _ _ _
  unfold a23
  dsimp only
  refine wpn_qa hO [] [(0, .slice A0 p0.length c0)] (ar trivial) fun j => ?_
  refine wpn_qa hO [] [(0, .slice A0 p0.length c0), (3, .slice none 0 0)] (ar (ar trivial)) fun j => ?_
  refine wpn_assoc ?_
  refine wpn_qa hO [] [(0, .slice A0 p0.length c0), (3, .slice none 0 0), (4, .int .i64 0)] (ar (ar (ar trivial))) fun j => ?_
  refine wpn_bl ?_
  have hO := hO.no
  have hO : Obs _ _ [_] := hO
  refine wpn_lp (fun (n : Nat) e' σ' => ∃ (A49 : Option Addr) (c50 : Nat) (o51 : Ob) (x52 : List zc) (x54 : Int) (τ' : Hp), agr [(0, .slice A0 p0.length c0), (3, .slice A49 x52.length c50), (4, .int .i64 x54)] e' ∧ Obs τ' σ' [o51] ∧ Hp.le τ τ' ∧ RdT zh τ' (.slice A0 p0.length c0) p0 ∧ OwnO zh 55 τ' (.slice A49 x52.length c50) x52 o51 ∧ zX p0 n x52 x54 = some rr) big ⟨none, 0, none, [], 0, _, ar (ar (ar trivial)), hO, hL, r0, OwnO.nil _ _ _, hF⟩ ?_
  clear hF hO hL
  rintro n99 e σ ⟨A49, c50, o51, x52, x54, _, hA, hO, hL, r48, w53, hF⟩
  rw [← sets_agr _ _ hA]
  cases n99 with
  | zero => exact nomatch (show none = some rr from hF)
  | succ n99 =>
    replace hF : zZ (zX p0 n99) p0 x52 x54 = some rr := hF
    unfold zZ at hF
    refine wpn_assoc ?_
    refine wpn_qa hO [] [(0, .slice A0 p0.length c0), (3, .slice A49 x52.length c50), (4, .int .i64 x54), (8, .bool (decide (x54 < (p0.length : Int))))] (ar (ar (ar (ar trivial)))) fun j => ?_
    rcases ite_some hF with ⟨hb100, hF⟩ | ⟨hb100, hF⟩
    · refine wpn_cT (congrArg Value.bool hb100) ?_
      refine wpn_sk ?_
      refine wpn_bl ?_
      refine wpn_plast ?_
      refine wpn_q hO 3 [] [(0, .slice A0 p0.length c0), (4, .int .i64 x54), (11, .slice A49 x52.length c50), (12, .slice A0 p0.length c0), (13, .int .i64 x54)] (ar (ar (ar (ar (ar trivial))))) fun j => ?_
      obtain ⟨y101, g102, hF⟩ := bind_some hF
      refine wpn_idx (T := zh) r48 hO.base rfl rfl g102 (by decide) fun a103 _ k104 m105 => ?_
      obtain ⟨v106, rfl, r107⟩ := k104
      obtain ⟨A108, c109, rfl, -⟩ := r107.form
      refine wpn_q hO 1 [] [(0, .slice A0 p0.length c0), (4, .int .i64 x54), (11, .slice A49 x52.length c50), (15, .pointer (some a103))] (ar (ar (ar (ar trivial)))) fun j => ?_
      refine wpn_ld rfl (m105.le hO.base).fst ?_
      refine wpn_q hO 2 [] [(0, .slice A0 p0.length c0), (4, .int .i64 x54), (11, .slice A49 x52.length c50), (15, .pointer (some a103)), (16, .int .i64 y101.From), (17, .slice A0 p0.length c0), (18, .int .i64 x54)] (ar (ar (ar (ar (ar (ar (ar trivial))))))) fun j => ?_
      obtain ⟨y110, g111, hF⟩ := bind_some hF
      refine wpn_idx (T := zh) r48 hO.base rfl rfl g111 (by decide) fun a112 _ k113 m114 => ?_
      obtain ⟨v115, rfl, r116⟩ := k113
      obtain ⟨A117, c118, rfl, -⟩ := r116.form
      refine wpn_q hO 1 [] [(0, .slice A0 p0.length c0), (4, .int .i64 x54), (11, .slice A49 x52.length c50), (15, .pointer (some a103)), (16, .int .i64 y101.From), (20, .pointer (some (a112.add 1)))] (ar (ar (ar (ar (ar (ar trivial)))))) fun j => ?_
      refine wpn_ld rfl ((m114.le hO.base).one 1 rfl) ?_
      refine wpn_q hO 2 [] [(0, .slice A0 p0.length c0), (4, .int .i64 x54), (11, .slice A49 x52.length c50), (15, .pointer (some a103)), (16, .int .i64 y101.From), (20, .pointer (some (a112.add 1))), (21, .int .i64 y110.To), (22, .slice A0 p0.length c0), (23, .int .i64 x54)] (ar (ar (ar (ar (ar (ar (ar (ar (ar trivial))))))))) fun j => ?_
      obtain ⟨y119, g120, hF⟩ := bind_some hF
      refine wpn_idx (T := zh) r48 hO.base rfl rfl g120 (by decide) fun a121 _ k122 m123 => ?_
      obtain ⟨v124, rfl, r125⟩ := k122
      obtain ⟨A126, c127, rfl, -⟩ := r125.form
      refine wpn_q hO 1 [] [(0, .slice A0 p0.length c0), (4, .int .i64 x54), (11, .slice A49 x52.length c50), (15, .pointer (some a103)), (16, .int .i64 y101.From), (20, .pointer (some (a112.add 1))), (21, .int .i64 y110.To), (25, .pointer (some (a121.add 2)))] (ar (ar (ar (ar (ar (ar (ar (ar trivial)))))))) fun j => ?_
      refine wpn_ld rfl ((m123.le hO.base).one 2 rfl) ?_
      refine wpn_late ?_
      obtain ⟨c128, h129, hF⟩ := bind_some hF
      refine wpn_c0 hO (zet r125 h129) rfl fun _ σ _ _ hO h130 h131 => ?_
      have hL := hL.trans h130
      have r48 := r48.le h130
      have w53 := w53.le h130
      have m105 := m105.le h130
      have r107 := r107.le h130
      have m114 := m114.le h130
      have r116 := r116.le h130
      have m123 := m123.le h130
      have r125 := r125.le h130
      obtain ⟨v132, o135, rfl, rfl, w136⟩ := h131
      obtain ⟨A133, c134, rfl, -⟩ := w136.form
      have hO : Obs _ _ [_, _] := hO
      refine wpn_nil ?_
      refine wpn_ag ⟨(again_ld rfl ((m114.le hO.base).one 1 rfl) rfl), (again_ld rfl (m105.le hO.base).fst rfl), trivial⟩ ?_
      refine wpn_q hO 1 [] [(0, .slice A0 p0.length c0), (4, .int .i64 x54), (11, .slice A49 x52.length c50), (28, .agg #[(.int .i64 y101.From), (.int .i64 y110.To), (.slice A133 c128.length c134)])] (ar (ar (ar (ar trivial)))) fun j => ?_
      obtain ⟨_, h138, r137, hO⟩ := w136.share hO (i := 1) rfl
      have hL := hL.trans h138
      have r48 := r48.le h138
      have w53 := w53.le h138
      have hO : Obs _ _ [_, _] := hO
      obtain ⟨_, hr143, hF⟩ := bind_some hF
      refine wpn_ap1 (T := zh) (y := (⟨y101.From, y110.To, c128⟩ : zc)) hO w53 (i := 0) rfl rfl (fun _ => rfl) rfl ⟨_, rfl, r137⟩ rfl hr143 (by decide) fun u _ σ o141 w142 hO => ?_
      obtain ⟨A139, c140, rfl, -⟩ := w142.form
      have hO : Obs _ _ [_, _] := hO
      refine wpn_qa hO [] [(0, .slice A0 p0.length c0), (3, .slice A139 (x52 ++ [(⟨y101.From, y110.To, c128⟩ : zc)]).length c140), (4, .int .i64 x54)] (ar (ar (ar trivial))) fun j => ?_
      refine wpn_end ?_
      refine inb_i ?_
      refine thn_i ?_
      refine wpn_rlast ?_
      refine wpn_qa hO [] [(0, .slice A0 p0.length c0), (3, .slice A139 (x52 ++ [(⟨y101.From, y110.To, c128⟩ : zc)]).length c140), (4, .int .i64 (IntKind.i64.wrap (x54 + 1)))] (ar (ar (ar trivial))) fun j => ?_
      refine wpn_end ?_
      refine thn_i ?_
      have hO := hO.sel [0] (by decide)
      exact ⟨n99, Nat.lt_succ_self _, A139, c140, o141, (x52 ++ [(⟨y101.From, y110.To, c128⟩ : zc)]), (IntKind.i64.wrap (x54 + 1)), _, ar (ar (ar trivial)), hO, hL, r48, w142, hF⟩
    · refine wpn_cF (congrArg Value.bool hb100) ?_
      refine wpn_ex ?_
      refine thn_x ?_
      refine inb_x ?_
      refine thn_i ?_
      refine wpn_qa hO [] [(2, .slice A49 x52.length c50)] (ar trivial) fun j => ?_
      refine wpn_r1 ?_
      injection hF with hF
      subst hF
      exact hQ _ _ _ _ _ rfl hO hL ⟨_, _, rfl, rfl, w53⟩
theorem zey {τ : Hp} {v0 : Value} {p0 : (List za)} (r0 : RdT zg τ v0 p0) {rr : (List za)} (hF : zbO p0 = some rr) :
    Ctr Try.prog 8 #[v0] τ [] (fun v τ' vs' => ∃ (v0 : Value) (o0 : Ob), v = v0 ∧ vs' = [o0] ∧ OwnO zg 50 τ' v0 rr o0) := by
  obtain ⟨A0, c0, rfl, -⟩ := r0.form
  refine ctr_of (args := [.slice A0 p0.length c0]) hm Try.func8 s8 rfl fun w0 σ hO Q hQ => ?_
  unfold zbO at hF
  have hL := Hp.le.refl τ
  show wpn _ _ a8.body _ _ _
  unfold a8
  dsimp only
  refine wpn_qa hO [] [(0, .slice A0 p0.length c0)] (ar trivial) fun j => ?_
  refine wpn_qa hO [] [(0, .slice A0 p0.length c0), (3, .slice none 0 0)] (ar (ar trivial)) fun j => ?_
  refine wpn_assoc ?_
  refine wpn_qa hO [] [(0, .slice A0 p0.length c0), (3, .slice none 0 0), (4, .int .i64 0)] (ar (ar (ar trivial))) fun j => ?_
  refine wpn_bl ?_
  have hO := hO.no
  have hO : Obs _ _ [_] := hO
  refine wpn_lp (fun (n : Nat) e' σ' => ∃ (A864 : Option Addr) (c865 : Nat) (o866 : Ob) (x867 : List za) (x869 : Int) (τ' : Hp), agr [(0, .slice A0 p0.length c0), (3, .slice A864 x867.length c865), (4, .int .i64 x869)] e' ∧ Obs τ' σ' [o866] ∧ Hp.le τ τ' ∧ RdT zg τ' (.slice A0 p0.length c0) p0 ∧ OwnO zg 50 τ' (.slice A864 x867.length c865) x867 o866 ∧ zv p0 n x867 x869 = some rr) big ⟨none, 0, none, [], 0, _, ar (ar (ar trivial)), hO, hL, r0, OwnO.nil _ _ _, hF⟩ ?_
  clear hF hO hL
  rintro n1761 e σ ⟨A864, c865, o866, x867, x869, _, hA, hO, hL, r863, w868, hF⟩
  rw [← sets_agr _ _ hA]
  cases n1761 with
  | zero => exact nomatch (show none = some rr from hF)
  | succ n1761 =>
    replace hF : zbD (zv p0 n1761) p0 x867 x869 = some rr := hF
    unfold zbD at hF
    refine wpn_assoc ?_
    refine wpn_qa hO [] [(0, .slice A0 p0.length c0), (3, .slice A864 x867.length c865), (4, .int .i64 x869), (12, .bool (decide (x869 < (p0.length : Int))))] (ar (ar (ar (ar trivial)))) fun j => ?_
    rcases ite_some hF with ⟨hb1762, hF⟩ | ⟨hb1762, hF⟩
    · refine wpn_cT (congrArg Value.bool hb1762) ?_
      refine wpn_sk ?_
      refine wpn_bl ?_
      refine wpn_p2r ?_
      refine wpn_q hO 2 [] [(0, .slice A0 p0.length c0), (3, .slice A864 x867.length c865), (4, .int .i64 x869), (15, .slice A0 p0.length c0), (16, .int .i64 x869)] (ar (ar (ar (ar (ar trivial))))) fun j => ?_
      obtain ⟨y1763, g1764, hF⟩ := bind_some hF
      refine wpn_idx (T := zg) r863 hO.base rfl rfl g1764 (by decide) fun a1765 _ k1766 m1767 => ?_
      obtain ⟨v1768, v1772, rfl, r1769, r1773⟩ := k1766
      obtain ⟨A1770, c1771, rfl, -⟩ := r1769.form
      obtain ⟨A1774, c1775, rfl, -⟩ := r1773.form
      refine wpn_q hO 1 [] [(0, .slice A0 p0.length c0), (3, .slice A864 x867.length c865), (4, .int .i64 x869), (18, .pointer (some a1765))] (ar (ar (ar (ar trivial)))) fun j => ?_
      refine wpn_ld rfl (m1767.le hO.base).fst ?_
      refine wpn_q hO 2 [] [(0, .slice A0 p0.length c0), (3, .slice A864 x867.length c865), (4, .int .i64 x869), (18, .pointer (some a1765)), (19, .string y1763.Name), (20, .slice A0 p0.length c0), (21, .int .i64 x869)] (ar (ar (ar (ar (ar (ar (ar trivial))))))) fun j => ?_
      obtain ⟨y1776, g1777, hF⟩ := bind_some hF
      refine wpn_idx (T := zg) r863 hO.base rfl rfl g1777 (by decide) fun a1778 _ k1779 m1780 => ?_
      obtain ⟨v1781, v1785, rfl, r1782, r1786⟩ := k1779
      obtain ⟨A1783, c1784, rfl, -⟩ := r1782.form
      obtain ⟨A1787, c1788, rfl, -⟩ := r1786.form
      refine wpn_q hO 1 [] [(0, .slice A0 p0.length c0), (3, .slice A864 x867.length c865), (4, .int .i64 x869), (18, .pointer (some a1765)), (19, .string y1763.Name), (23, .pointer (some (a1778.add 1)))] (ar (ar (ar (ar (ar (ar trivial)))))) fun j => ?_
      refine wpn_ld rfl ((m1780.le hO.base).one 1 rfl) ?_
      refine wpn_q hO 2 [] [(0, .slice A0 p0.length c0), (3, .slice A864 x867.length c865), (4, .int .i64 x869), (18, .pointer (some a1765)), (19, .string y1763.Name), (23, .pointer (some (a1778.add 1))), (24, .int .i64 y1776.From), (25, .slice A0 p0.length c0), (26, .int .i64 x869)] (ar (ar (ar (ar (ar (ar (ar (ar (ar trivial))))))))) fun j => ?_
      obtain ⟨y1789, g1790, hF⟩ := bind_some hF
      refine wpn_idx (T := zg) r863 hO.base rfl rfl g1790 (by decide) fun a1791 _ k1792 m1793 => ?_
      obtain ⟨v1794, v1798, rfl, r1795, r1799⟩ := k1792
      obtain ⟨A1796, c1797, rfl, -⟩ := r1795.form
      obtain ⟨A1800, c1801, rfl, -⟩ := r1799.form
      refine wpn_q hO 1 [] [(0, .slice A0 p0.length c0), (3, .slice A864 x867.length c865), (4, .int .i64 x869), (18, .pointer (some a1765)), (19, .string y1763.Name), (23, .pointer (some (a1778.add 1))), (24, .int .i64 y1776.From), (28, .pointer (some (a1791.add 2)))] (ar (ar (ar (ar (ar (ar (ar (ar trivial)))))))) fun j => ?_
      refine wpn_ld rfl ((m1793.le hO.base).one 2 rfl) ?_
      refine wpn_q hO 1 [] [(0, .slice A0 p0.length c0), (3, .slice A864 x867.length c865), (4, .int .i64 x869), (18, .pointer (some a1765)), (19, .string y1763.Name), (23, .pointer (some (a1778.add 1))), (24, .int .i64 y1776.From), (28, .pointer (some (a1791.add 2))), (29, .int .i64 y1789.To), (30, .agg #[(.string y1763.Name), (.int .i64 y1776.From), (.int .i64 y1789.To), (.slice none 0 0), (.slice none 0 0)])] (ar (ar (ar (ar (ar (ar (ar (ar (ar (ar trivial)))))))))) fun j => ?_
      refine wpn_late ?_
      refine wpn_al hO fun b1802 σ hO => ?_
      have hO : Obs _ _ [_, _] := hO
      refine wpn_nil ?_
      refine wpn_ag ⟨(again_ld rfl ((m1793.le hO.base).one 2 rfl) rfl), (again_ld rfl ((m1780.le hO.base).one 1 rfl) rfl), (again_ld rfl (m1767.le hO.base).fst rfl), trivial⟩ ?_
      refine wpn_st hO (i := 1) rfl (off := 0) rfl rfl rfl rfl (Nat.le_of_ble_eq_true rfl) rfl fun σ hO => ?_
      have hO : Obs _ _ [_, _] := hO
      refine wpn_nil ?_
      refine wpn_assoc ?_
      refine wpn_qa hO [] [(0, .slice A0 p0.length c0), (3, .slice A864 x867.length c865), (4, .int .i64 x869), (5, .pointer (some ⟨b1802, 0, none⟩)), (6, .int .i64 0)] (ar (ar (ar (ar (ar trivial))))) fun j => ?_
      refine wpn_bl ?_
      have hO := hO.no
      have hO : Obs _ _ [_, _, _] := hO
      refine wpn_lp (fun (n : Nat) e' σ' => ∃ (A2077 : Option Addr) (c2078 : Nat) (o2079 : Ob) (x2080 : List za) (A2082 : Option Addr) (c2083 : Nat) (o2084 : Ob) (x2085 : List zf) (x2087 : Int) (τ' : Hp), agr [(0, .slice A0 p0.length c0), (3, .slice A2077 x2080.length c2078), (4, .int .i64 x869), (5, .pointer (some ⟨b1802, 0, none⟩)), (6, .int .i64 x2087)] e' ∧ Obs τ' σ' [o2079, some (b1802, ⟨[.string y1763.Name, .int .i64 y1776.From, .int .i64 y1789.To, .slice A2082 x2085.length c2083, .slice none 0 0], 50, 5, true⟩), o2084] ∧ Hp.le τ τ' ∧ RdT zg τ' (.slice A0 p0.length c0) p0 ∧ OwnO zg 50 τ' (.slice A2077 x2080.length c2078) x2080 o2079 ∧ OwnO zk 64 τ' (.slice A2082 x2085.length c2083) x2085 o2084 ∧ zbA (zv p0 n1761) p0 x869 y1763 y1776 y1789 n x2080 x2085 x2087 = some rr) big ⟨A864, c865, o866, x867, none, 0, none, [], 0, _, ar (ar (ar (ar (ar trivial)))), hO, hL, r863, w868, OwnO.nil _ _ _, hF⟩ ?_
      clear hF hO hL
      rintro n2370 e σ ⟨A2077, c2078, o2079, x2080, A2082, c2083, o2084, x2085, x2087, _, hA, hO, hL, r2076, w2081, w2086, hF⟩
      rw [← sets_agr _ _ hA]
      cases n2370 with
      | zero => exact nomatch (show none = some rr from hF)
      | succ n2370 =>
        replace hF : z8 (zbA (zv p0 n1761) p0 x869 y1763 y1776 y1789 n2370) (zv p0 n1761) p0 x869 y1763 y1776 y1789 x2080 x2085 x2087 = some rr := hF
        unfold z8 at hF
        refine wpn_assoc ?_
        refine wpn_q hO 3 [] [(0, .slice A0 p0.length c0), (3, .slice A2077 x2080.length c2078), (4, .int .i64 x869), (5, .pointer (some ⟨b1802, 0, none⟩)), (6, .int .i64 x2087), (31, .int .i64 x2087), (32, .slice A0 p0.length c0), (33, .int .i64 x869)] (ar (ar (ar (ar (ar (ar (ar (ar trivial)))))))) fun j => ?_
        obtain ⟨y2371, g2372, hF⟩ := bind_some hF
        refine wpn_idx (T := zg) r2076 hO.base rfl rfl g2372 (by decide) fun a2373 _ k2374 m2375 => ?_
        obtain ⟨v2376, v2380, rfl, r2377, r2381⟩ := k2374
        obtain ⟨A2378, c2379, rfl, -⟩ := r2377.form
        obtain ⟨A2382, c2383, rfl, -⟩ := r2381.form
        refine wpn_q hO 1 [] [(0, .slice A0 p0.length c0), (3, .slice A2077 x2080.length c2078), (4, .int .i64 x869), (5, .pointer (some ⟨b1802, 0, none⟩)), (6, .int .i64 x2087), (31, .int .i64 x2087), (35, .pointer (some (a2373.add 3)))] (ar (ar (ar (ar (ar (ar (ar trivial))))))) fun j => ?_
        refine wpn_ld rfl ((m2375.le hO.base).one 3 rfl) ?_
        refine wpn_qa hO [] [(0, .slice A0 p0.length c0), (3, .slice A2077 x2080.length c2078), (4, .int .i64 x869), (5, .pointer (some ⟨b1802, 0, none⟩)), (6, .int .i64 x2087), (38, .bool (decide (x2087 < (y2371.Vars.length : Int))))] (ar (ar (ar (ar (ar (ar trivial)))))) fun j => ?_
        rcases ite_some hF with ⟨hb2384, hF⟩ | ⟨hb2384, hF⟩
        · refine wpn_cT (congrArg Value.bool hb2384) ?_
          refine wpn_sk ?_
          refine wpn_bl ?_
          refine wpn_q hO 2 [] [(0, .slice A0 p0.length c0), (3, .slice A2077 x2080.length c2078), (4, .int .i64 x869), (5, .pointer (some ⟨b1802, 0, none⟩)), (6, .int .i64 x2087), (41, .slice A0 p0.length c0), (42, .int .i64 x869)] (ar (ar (ar (ar (ar (ar (ar trivial))))))) fun j => ?_
          obtain ⟨y2385, g2386, hF⟩ := bind_some hF
          refine wpn_idx (T := zg) r2076 hO.base rfl rfl g2386 (by decide) fun a2387 _ k2388 m2389 => ?_
          obtain ⟨v2390, v2394, rfl, r2391, r2395⟩ := k2388
          obtain ⟨A2392, c2393, rfl, -⟩ := r2391.form
          obtain ⟨A2396, c2397, rfl, -⟩ := r2395.form
          refine wpn_q hO 1 [] [(0, .slice A0 p0.length c0), (3, .slice A2077 x2080.length c2078), (4, .int .i64 x869), (5, .pointer (some ⟨b1802, 0, none⟩)), (6, .int .i64 x2087), (44, .pointer (some (a2387.add 3)))] (ar (ar (ar (ar (ar (ar trivial)))))) fun j => ?_
          refine wpn_ld rfl ((m2389.le hO.base).one 3 rfl) ?_
          refine wpn_q hO 1 [] [(0, .slice A0 p0.length c0), (3, .slice A2077 x2080.length c2078), (4, .int .i64 x869), (5, .pointer (some ⟨b1802, 0, none⟩)), (6, .int .i64 x2087), (45, .slice A2392 y2385.Vars.length c2393), (46, .int .i64 x2087)] (ar (ar (ar (ar (ar (ar (ar trivial))))))) fun j => ?_
          obtain ⟨y2398, g2399, hF⟩ := bind_some hF
          refine wpn_idx (T := zk) r2391 hO.base rfl rfl g2399 (by decide) fun a2400 _ k2401 m2402 => ?_
          obtain ⟨v2403, rfl, r2404⟩ := k2401
          obtain ⟨A2405, c2406, rfl, -⟩ := r2404.form
          refine wpn_ld rfl ((m2402.le hO.base).all rfl) ?_
          refine wpn_al hO fun b2407 σ hO => ?_
          have hO : Obs _ _ [_, _, _, _] := hO
          refine wpn_st hO (i := 3) rfl (off := 0) rfl rfl rfl rfl (Nat.le_of_ble_eq_true rfl) rfl fun σ hO => ?_
          have hO : Obs _ _ [_, _, _, _] := hO
          refine wpn_nil ?_
          refine wpn_lit (T := Ty.str) (l := ([] : List ByteArray)) (cs := []) hO rfl rfl rfl (by decide) fun _ σ o2410 w2411 hO => ?_
          obtain ⟨A2408, c2409, rfl, -⟩ := w2411.form
          have hO : Obs _ _ [_, _, _, _, _] := hO
          refine wpn_q hO 2 [3] [(0, .slice A0 p0.length c0), (3, .slice A2077 x2080.length c2078), (4, .int .i64 x869), (5, .pointer (some ⟨b1802, 0, none⟩)), (6, .int .i64 x2087), (7, .pointer (some ⟨b2407, 0, none⟩)), (49, .slice A2408 ([] : List ByteArray).length c2409), (51, .slice A2405 y2398.Fields.length c2406)] (And.intro (And.intro rfl rfl) (ar (ar (ar (ar (ar (ar (ar (ar trivial))))))))) fun j => ?_
          obtain ⟨_, hr2416, hF⟩ := bind_some hF
          refine wpn_apl (T := Ty.str) hO w2411 (i := 4) rfl rfl rfl r2404 hr2416 (by decide) fun _ σ o2414 w2415 hO => ?_
          obtain ⟨A2412, c2413, rfl, -⟩ := w2415.form
          have hO : Obs _ _ [_, _, _, _, _] := hO
          refine wpn_q hO 1 [] [(0, .slice A0 p0.length c0), (3, .slice A2077 x2080.length c2078), (4, .int .i64 x869), (5, .pointer (some ⟨b1802, 0, none⟩)), (6, .int .i64 x2087), (7, .pointer (some ⟨b2407, 0, none⟩)), (52, .slice A2412 (([] : List ByteArray) ++ y2398.Fields).length c2413), (53, .pointer (some ⟨b2407, 5, none⟩))] (ar (ar (ar (ar (ar (ar (ar (ar trivial)))))))) fun j => ?_
          refine wpn_st hO (i := 3) rfl (off := 5) rfl rfl rfl rfl (Nat.le_of_ble_eq_true rfl) rfl fun σ hO => ?_
          have hO : Obs _ _ [_, _, _, _, _] := hO
          refine wpn_nil ?_
          refine wpn_rlast ?_
          refine wpn_q hO 3 [1, 3] [(0, .slice A0 p0.length c0), (3, .slice A2077 x2080.length c2078), (4, .int .i64 x869), (5, .pointer (some ⟨b1802, 0, none⟩)), (6, .int .i64 x2087), (55, .slice A2082 x2085.length c2083), (56, .agg #[(.string y2398.Name), (.int .u8 (y2398.Type_.Kind.toNat : Int)), (.int .i64 y2398.Type_.N), (.string y2398.Type_.Name), (.int .i64 y2398.Words), (.slice A2412 (([] : List ByteArray) ++ y2398.Fields).length c2413)])] (And.intro (And.intro rfl rfl) (And.intro (And.intro rfl rfl) (ar (ar (ar (ar (ar (ar (ar trivial))))))))) fun j => ?_
          obtain ⟨_, h2418, r2417, hO⟩ := w2415.share hO (i := 4) rfl
          have hL := hL.trans h2418
          have r2076 := r2076.le h2418
          have w2081 := w2081.le h2418
          have w2086 := w2086.le h2418
          have hO : Obs _ _ [_, _, _, _, _] := hO
          obtain ⟨_, hr2423, hF⟩ := bind_some hF
          refine wpn_ap1 (T := zk) (y := (⟨y2398.Name, (⟨y2398.Type_.Kind, y2398.Type_.N, y2398.Type_.Name⟩ : zl), y2398.Words, (([] : List ByteArray) ++ y2398.Fields)⟩ : zf)) hO w2086 (i := 2) rfl rfl (fun _ => rfl) rfl ⟨_, rfl, r2417⟩ rfl hr2423 (by decide) fun u _ σ o2421 w2422 hO => ?_
          obtain ⟨A2419, c2420, rfl, -⟩ := w2422.form
          have hO : Obs _ _ [_, _, _, _, _] := hO
          refine wpn_q hO 1 [] [(0, .slice A0 p0.length c0), (3, .slice A2077 x2080.length c2078), (4, .int .i64 x869), (5, .pointer (some ⟨b1802, 0, none⟩)), (6, .int .i64 x2087), (58, .slice A2419 (x2085 ++ [(⟨y2398.Name, (⟨y2398.Type_.Kind, y2398.Type_.N, y2398.Type_.Name⟩ : zl), y2398.Words, (([] : List ByteArray) ++ y2398.Fields)⟩ : zf)]).length c2420), (59, .pointer (some ⟨b1802, 3, none⟩))] (ar (ar (ar (ar (ar (ar (ar trivial))))))) fun j => ?_
          refine wpn_st hO (i := 1) rfl (off := 3) rfl rfl rfl rfl (Nat.le_of_ble_eq_true rfl) rfl fun σ hO => ?_
          have hO : Obs _ _ [_, _, _, _, _] := hO
          refine wpn_nil ?_
          refine wpn_end ?_
          refine inb_i ?_
          refine thn_i ?_
          refine wpn_rlast ?_
          refine wpn_qa hO [] [(0, .slice A0 p0.length c0), (3, .slice A2077 x2080.length c2078), (4, .int .i64 x869), (5, .pointer (some ⟨b1802, 0, none⟩)), (6, .int .i64 (IntKind.i64.wrap (x2087 + 1)))] (ar (ar (ar (ar (ar trivial))))) fun j => ?_
          refine wpn_end ?_
          refine thn_i ?_
          have hO := hO.sel [0, 1, 2] (by decide)
          exact ⟨n2370, Nat.lt_succ_self _, A2077, c2078, o2079, x2080, A2419, c2420, o2421, (x2085 ++ [(⟨y2398.Name, (⟨y2398.Type_.Kind, y2398.Type_.N, y2398.Type_.Name⟩ : zl), y2398.Words, (([] : List ByteArray) ++ y2398.Fields)⟩ : zf)]), (IntKind.i64.wrap (x2087 + 1)), _, ar (ar (ar (ar (ar trivial)))), hO, hL, r2076, w2081, w2422, hF⟩
        · refine wpn_cF (congrArg Value.bool hb2384) ?_
          refine wpn_ex ?_
          refine thn_x ?_
          refine inb_x ?_
          refine thn_i ?_
          refine wpn_assoc ?_
          refine wpn_qa hO [] [(0, .slice A0 p0.length c0), (3, .slice A2077 x2080.length c2078), (4, .int .i64 x869), (5, .pointer (some ⟨b1802, 0, none⟩)), (8, .int .i64 0)] (ar (ar (ar (ar (ar trivial))))) fun j => ?_
          refine wpn_bl ?_
          have hO := hO.no
          have hO : Obs _ _ [_, _, _, _] := hO
          refine wpn_lp (fun (n : Nat) e' σ' => ∃ (A2502 : Option Addr) (c2503 : Nat) (o2504 : Ob) (x2505 : List za) (A2507 : Option Addr) (c2508 : Nat) (o2509 : Ob) (x2510 : List zf) (A2512 : Option Addr) (c2513 : Nat) (o2514 : Ob) (x2515 : List (List zc)) (x2517 : Int) (τ' : Hp), agr [(0, .slice A0 p0.length c0), (3, .slice A2502 x2505.length c2503), (4, .int .i64 x869), (5, .pointer (some ⟨b1802, 0, none⟩)), (8, .int .i64 x2517)] e' ∧ Obs τ' σ' [o2504, some (b1802, ⟨[.string y1763.Name, .int .i64 y1776.From, .int .i64 y1789.To, .slice A2507 x2510.length c2508, .slice A2512 x2515.length c2513], 50, 5, true⟩), o2509, o2514] ∧ Hp.le τ τ' ∧ RdT zg τ' (.slice A0 p0.length c0) p0 ∧ OwnO zg 50 τ' (.slice A2502 x2505.length c2503) x2505 o2504 ∧ OwnO zk 64 τ' (.slice A2507 x2510.length c2508) x2510 o2509 ∧ OwnO (Ty.slice zh) 56 τ' (.slice A2512 x2515.length c2513) x2515 o2514 ∧ zbi (zv p0 n1761) p0 x869 y1763 y1776 y1789 n x2505 x2510 x2515 x2517 = some rr) big ⟨A2077, c2078, o2079, x2080, A2082, c2083, o2084, x2085, none, 0, none, [], 0, _, ar (ar (ar (ar (ar trivial)))), hO, hL, r2076, w2081, w2086, OwnO.nil _ _ _, hF⟩ ?_
          clear hF hO hL
          rintro n2585 e σ ⟨A2502, c2503, o2504, x2505, A2507, c2508, o2509, x2510, A2512, c2513, o2514, x2515, x2517, _, hA, hO, hL, r2501, w2506, w2511, w2516, hF⟩
          rw [← sets_agr _ _ hA]
          cases n2585 with
          | zero => exact nomatch (show none = some rr from hF)
          | succ n2585 =>
            replace hF : z5 (zbi (zv p0 n1761) p0 x869 y1763 y1776 y1789 n2585) (zv p0 n1761) p0 x869 y1763 y1776 y1789 x2505 x2510 x2515 x2517 = some rr := hF
            unfold z5 at hF
            refine wpn_assoc ?_
            refine wpn_q hO 3 [] [(0, .slice A0 p0.length c0), (3, .slice A2502 x2505.length c2503), (4, .int .i64 x869), (5, .pointer (some ⟨b1802, 0, none⟩)), (8, .int .i64 x2517), (60, .int .i64 x2517), (61, .slice A0 p0.length c0), (62, .int .i64 x869)] (ar (ar (ar (ar (ar (ar (ar (ar trivial)))))))) fun j => ?_
            obtain ⟨y2586, g2587, hF⟩ := bind_some hF
            refine wpn_idx (T := zg) r2501 hO.base rfl rfl g2587 (by decide) fun a2588 _ k2589 m2590 => ?_
            obtain ⟨v2591, v2595, rfl, r2592, r2596⟩ := k2589
            obtain ⟨A2593, c2594, rfl, -⟩ := r2592.form
            obtain ⟨A2597, c2598, rfl, -⟩ := r2596.form
            refine wpn_q hO 1 [] [(0, .slice A0 p0.length c0), (3, .slice A2502 x2505.length c2503), (4, .int .i64 x869), (5, .pointer (some ⟨b1802, 0, none⟩)), (8, .int .i64 x2517), (60, .int .i64 x2517), (64, .pointer (some (a2588.add 4)))] (ar (ar (ar (ar (ar (ar (ar trivial))))))) fun j => ?_
            refine wpn_ld rfl ((m2590.le hO.base).one 4 rfl) ?_
            refine wpn_qa hO [] [(0, .slice A0 p0.length c0), (3, .slice A2502 x2505.length c2503), (4, .int .i64 x869), (5, .pointer (some ⟨b1802, 0, none⟩)), (8, .int .i64 x2517), (67, .bool (decide (x2517 < (y2586.Spans.length : Int))))] (ar (ar (ar (ar (ar (ar trivial)))))) fun j => ?_
            rcases ite_some hF with ⟨hb2599, hF⟩ | ⟨hb2599, hF⟩
            · refine wpn_cT (congrArg Value.bool hb2599) ?_
              refine wpn_sk ?_
              refine wpn_bl ?_
              refine wpn_plast ?_
              refine wpn_q hO 4 [1] [(0, .slice A0 p0.length c0), (3, .slice A2502 x2505.length c2503), (4, .int .i64 x869), (5, .pointer (some ⟨b1802, 0, none⟩)), (8, .int .i64 x2517), (70, .pointer (some ⟨b1802, 4, none⟩)), (71, .slice A2512 x2515.length c2513), (72, .slice A0 p0.length c0), (73, .int .i64 x869)] (And.intro (And.intro rfl rfl) (ar (ar (ar (ar (ar (ar (ar (ar (ar trivial)))))))))) fun j => ?_
              obtain ⟨y2600, g2601, hF⟩ := bind_some hF
              refine wpn_idx (T := zg) r2501 hO.base rfl rfl g2601 (by decide) fun a2602 _ k2603 m2604 => ?_
              obtain ⟨v2605, v2609, rfl, r2606, r2610⟩ := k2603
              obtain ⟨A2607, c2608, rfl, -⟩ := r2606.form
              obtain ⟨A2611, c2612, rfl, -⟩ := r2610.form
              refine wpn_q hO 1 [] [(0, .slice A0 p0.length c0), (3, .slice A2502 x2505.length c2503), (4, .int .i64 x869), (5, .pointer (some ⟨b1802, 0, none⟩)), (8, .int .i64 x2517), (70, .pointer (some ⟨b1802, 4, none⟩)), (71, .slice A2512 x2515.length c2513), (75, .pointer (some (a2602.add 4)))] (ar (ar (ar (ar (ar (ar (ar (ar trivial)))))))) fun j => ?_
              refine wpn_ld rfl ((m2604.le hO.base).one 4 rfl) ?_
              refine wpn_q hO 1 [] [(0, .slice A0 p0.length c0), (3, .slice A2502 x2505.length c2503), (4, .int .i64 x869), (5, .pointer (some ⟨b1802, 0, none⟩)), (8, .int .i64 x2517), (70, .pointer (some ⟨b1802, 4, none⟩)), (71, .slice A2512 x2515.length c2513), (76, .slice A2611 y2600.Spans.length c2612), (77, .int .i64 x2517)] (ar (ar (ar (ar (ar (ar (ar (ar (ar trivial))))))))) fun j => ?_
              obtain ⟨y2613, g2614, hF⟩ := bind_some hF
              refine wpn_idx (T := (Ty.slice zh)) r2610 hO.base rfl rfl g2614 (by decide) fun a2615 _ k2616 m2617 => ?_
              obtain ⟨v2618, rfl, r2619⟩ := k2616
              obtain ⟨A2620, c2621, rfl, -⟩ := r2619.form
              refine wpn_ld rfl (m2617.le hO.base).fst ?_
              refine wpn_late ?_
              obtain ⟨c2622, h2623, hF⟩ := bind_some hF
              refine wpn_c0 hO (zec r2619 h2623) rfl fun _ σ _ _ hO h2624 h2625 => ?_
              have hL := hL.trans h2624
              have r2501 := r2501.le h2624
              have w2506 := w2506.le h2624
              have w2516 := w2516.le h2624
              have r2610 := r2610.le h2624
              have m2617 := m2617.le h2624
              have r2619 := r2619.le h2624
              have w2511 := w2511.le h2624
              obtain ⟨v2626, o2629, rfl, rfl, w2630⟩ := h2625
              obtain ⟨A2627, c2628, rfl, -⟩ := w2630.form
              have hO : Obs _ _ [_, _, _, _, _] := hO
              refine wpn_nil ?_
              refine wpn_ag ⟨(again_ld rfl (hO.val (i := 1) (off := 4) (agg := false) (n := 1) rfl rfl) rfl), trivial⟩ ?_
              refine wpn_late ?_
              obtain ⟨_, h2632, r2631, hO⟩ := w2630.share hO (i := 4) rfl
              have hL := hL.trans h2632
              have r2501 := r2501.le h2632
              have w2506 := w2506.le h2632
              have w2516 := w2516.le h2632
              have r2610 := r2610.le h2632
              have m2617 := m2617.le h2632
              have r2619 := r2619.le h2632
              have w2511 := w2511.le h2632
              have hO : Obs _ _ [_, _, _, _, _] := hO
              refine wpn_lit (T := (Ty.slice zh)) (l := ([c2622] : List (List zc))) (cs := [.slice A2627 c2622.length c2628]) hO rfl ⟨[.slice A2627 c2622.length c2628], _, rfl, ⟨_, rfl, r2631⟩, rfl⟩ rfl (by decide) fun _ σ o2635 w2636 hO => ?_
              obtain ⟨A2633, c2634, rfl, -⟩ := w2636.form
              have hO : Obs _ _ [_, _, _, _, _, _] := hO
              refine wpn_nil ?_
              refine wpn_ag ⟨(again_ld rfl (hO.val (i := 1) (off := 4) (agg := false) (n := 1) rfl rfl) rfl), trivial⟩ ?_
              obtain ⟨_, h2638, r2637, hO⟩ := w2636.share hO (i := 5) rfl
              have hL := hL.trans h2638
              have r2501 := r2501.le h2638
              have w2506 := w2506.le h2638
              have w2516 := w2516.le h2638
              have r2610 := r2610.le h2638
              have m2617 := m2617.le h2638
              have r2619 := r2619.le h2638
              have r2631 := r2631.le h2638
              have w2511 := w2511.le h2638
              have hO : Obs _ _ [_, _, _, _, _, _] := hO
              obtain ⟨_, hr2643, hF⟩ := bind_some hF
              refine wpn_apl (T := (Ty.slice zh)) hO w2516 (i := 3) rfl rfl rfl r2637 hr2643 (by decide) fun _ σ o2641 w2642 hO => ?_
              obtain ⟨A2639, c2640, rfl, -⟩ := w2642.form
              have hO : Obs _ _ [_, _, _, _, _, _] := hO
              refine wpn_q hO 1 [] [(0, .slice A0 p0.length c0), (3, .slice A2502 x2505.length c2503), (4, .int .i64 x869), (5, .pointer (some ⟨b1802, 0, none⟩)), (8, .int .i64 x2517), (82, .slice A2639 (x2515 ++ ([c2622] : List (List zc))).length c2640), (83, .pointer (some ⟨b1802, 4, none⟩))] (ar (ar (ar (ar (ar (ar (ar trivial))))))) fun j => ?_
              refine wpn_st hO (i := 1) rfl (off := 4) rfl rfl rfl rfl (Nat.le_of_ble_eq_true rfl) rfl fun σ hO => ?_
              have hO : Obs _ _ [_, _, _, _, _, _] := hO
              refine wpn_nil ?_
              refine wpn_end ?_
              refine inb_i ?_
              refine thn_i ?_
              refine wpn_rlast ?_
              refine wpn_qa hO [] [(0, .slice A0 p0.length c0), (3, .slice A2502 x2505.length c2503), (4, .int .i64 x869), (5, .pointer (some ⟨b1802, 0, none⟩)), (8, .int .i64 (IntKind.i64.wrap (x2517 + 1)))] (ar (ar (ar (ar (ar trivial))))) fun j => ?_
              refine wpn_end ?_
              refine thn_i ?_
              have hO := hO.sel [0, 1, 2, 3] (by decide)
              exact ⟨n2585, Nat.lt_succ_self _, A2502, c2503, o2504, x2505, A2507, c2508, o2509, x2510, A2639, c2640, o2641, (x2515 ++ ([c2622] : List (List zc))), (IntKind.i64.wrap (x2517 + 1)), _, ar (ar (ar (ar (ar trivial)))), hO, hL, r2501, w2506, w2511, w2642, hF⟩
            · refine wpn_cF (congrArg Value.bool hb2599) ?_
              refine wpn_ex ?_
              refine thn_x ?_
              refine inb_x ?_
              refine thn_i ?_
              refine wpn_rlast ?_
              refine wpn_q hO 2 [1] [(0, .slice A0 p0.length c0), (4, .int .i64 x869), (84, .slice A2502 x2505.length c2503), (85, .agg #[(.string y1763.Name), (.int .i64 y1776.From), (.int .i64 y1789.To), (.slice A2507 x2510.length c2508), (.slice A2512 x2515.length c2513)])] (And.intro (And.intro rfl rfl) (ar (ar (ar (ar trivial))))) fun j => ?_
              obtain ⟨_, h2645, r2644, hO⟩ := w2511.share hO (i := 2) rfl
              have hL := hL.trans h2645
              have r2501 := r2501.le h2645
              have w2506 := w2506.le h2645
              have w2516 := w2516.le h2645
              have hO : Obs _ _ [_, _, _, _] := hO
              obtain ⟨_, h2647, r2646, hO⟩ := w2516.share hO (i := 3) rfl
              have hL := hL.trans h2647
              have r2501 := r2501.le h2647
              have w2506 := w2506.le h2647
              have r2644 := r2644.le h2647
              have hO : Obs _ _ [_, _, _, _] := hO
              obtain ⟨_, hr2652, hF⟩ := bind_some hF
              refine wpn_ap1 (T := zg) (y := (⟨y1763.Name, y1776.From, y1789.To, x2510, x2515⟩ : za)) hO w2506 (i := 0) rfl rfl (fun _ => rfl) rfl ⟨_, _, rfl, r2644, r2646⟩ rfl hr2652 (by decide) fun u _ σ o2650 w2651 hO => ?_
              obtain ⟨A2648, c2649, rfl, -⟩ := w2651.form
              have hO : Obs _ _ [_, _, _, _] := hO
              refine wpn_qa hO [] [(0, .slice A0 p0.length c0), (3, .slice A2648 (x2505 ++ [(⟨y1763.Name, y1776.From, y1789.To, x2510, x2515⟩ : za)]).length c2649), (4, .int .i64 x869)] (ar (ar (ar trivial))) fun j => ?_
              refine wpn_end ?_
              refine inb_i ?_
              refine thn_i ?_
              refine wpn_rlast ?_
              refine wpn_qa hO [] [(0, .slice A0 p0.length c0), (3, .slice A2648 (x2505 ++ [(⟨y1763.Name, y1776.From, y1789.To, x2510, x2515⟩ : za)]).length c2649), (4, .int .i64 (IntKind.i64.wrap (x869 + 1)))] (ar (ar (ar trivial))) fun j => ?_
              refine wpn_end ?_
              refine thn_i ?_
              have hO := hO.sel [0] (by decide)
              exact ⟨n1761, Nat.lt_succ_self _, A2648, c2649, o2650, (x2505 ++ [(⟨y1763.Name, y1776.From, y1789.To, x2510, x2515⟩ : za)]), (IntKind.i64.wrap (x869 + 1)), _, ar (ar (ar trivial)), hO, hL, r2501, w2651, hF⟩
    · refine wpn_cF (congrArg Value.bool hb1762) ?_
      refine wpn_ex ?_
      refine thn_x ?_
      refine inb_x ?_
      refine thn_i ?_
      refine wpn_qa hO [] [(2, .slice A864 x867.length c865)] (ar trivial) fun j => ?_
      refine wpn_r1 ?_
      injection hF with hF
      subst hF
      exact hQ _ _ _ _ _ rfl hO hL ⟨_, _, rfl, rfl, w868⟩
theorem zd4 {τ : Hp} {v0 : Value} {p0 : (List ze)} (r0 : RdT zi τ v0 p0) {rr : (List ze)} (hF : zbR p0 = some rr) :
    Ctr Try.prog 9 #[v0] τ [] (fun v τ' vs' => ∃ (v0 : Value) (o0 : Ob), v = v0 ∧ vs' = [o0] ∧ OwnO zi 59 τ' v0 rr o0) := by
  obtain ⟨A0, c0, rfl, -⟩ := r0.form
  refine ctr_of (args := [.slice A0 p0.length c0]) hm Try.func9 s9 rfl fun w0 σ hO Q hQ => ?_
  unfold zbR at hF
  have hL := Hp.le.refl τ
  show wpn _ _ a9.body _ _ _
  unfold a9
  dsimp only
  refine wpn_qa hO [] [(0, .slice A0 p0.length c0)] (ar trivial) fun j => ?_
  refine wpn_qa hO [] [(0, .slice A0 p0.length c0), (3, .slice none 0 0)] (ar (ar trivial)) fun j => ?_
  refine wpn_assoc ?_
  refine wpn_qa hO [] [(0, .slice A0 p0.length c0), (3, .slice none 0 0), (4, .int .i64 0)] (ar (ar (ar trivial))) fun j => ?_
  refine wpn_bl ?_
  have hO := hO.no
  have hO : Obs _ _ [_] := hO
  refine wpn_lp (fun (n : Nat) e' σ' => ∃ (A49 : Option Addr) (c50 : Nat) (o51 : Ob) (x52 : List ze) (x54 : Int) (τ' : Hp), agr [(0, .slice A0 p0.length c0), (3, .slice A49 x52.length c50), (4, .int .i64 x54)] e' ∧ Obs τ' σ' [o51] ∧ Hp.le τ τ' ∧ RdT zi τ' (.slice A0 p0.length c0) p0 ∧ OwnO zi 59 τ' (.slice A49 x52.length c50) x52 o51 ∧ zba p0 n x52 x54 = some rr) big ⟨none, 0, none, [], 0, _, ar (ar (ar trivial)), hO, hL, r0, OwnO.nil _ _ _, hF⟩ ?_
  clear hF hO hL
  rintro n99 e σ ⟨A49, c50, o51, x52, x54, _, hA, hO, hL, r48, w53, hF⟩
  rw [← sets_agr _ _ hA]
  cases n99 with
  | zero => exact nomatch (show none = some rr from hF)
  | succ n99 =>
    replace hF : z1 (zba p0 n99) p0 x52 x54 = some rr := hF
    unfold z1 at hF
    refine wpn_assoc ?_
    refine wpn_qa hO [] [(0, .slice A0 p0.length c0), (3, .slice A49 x52.length c50), (4, .int .i64 x54), (8, .bool (decide (x54 < (p0.length : Int))))] (ar (ar (ar (ar trivial)))) fun j => ?_
    rcases ite_some hF with ⟨hb100, hF⟩ | ⟨hb100, hF⟩
    · refine wpn_cT (congrArg Value.bool hb100) ?_
      refine wpn_sk ?_
      refine wpn_bl ?_
      refine wpn_plast ?_
      refine wpn_q hO 3 [] [(0, .slice A0 p0.length c0), (4, .int .i64 x54), (11, .slice A49 x52.length c50), (12, .slice A0 p0.length c0), (13, .int .i64 x54)] (ar (ar (ar (ar (ar trivial))))) fun j => ?_
      obtain ⟨y101, g102, hF⟩ := bind_some hF
      refine wpn_idx (T := zi) r48 hO.base rfl rfl g102 (by decide) fun a103 _ k104 m105 => ?_
      obtain ⟨v106, rfl, r107⟩ := k104
      obtain ⟨A108, c109, rfl, -⟩ := r107.form
      refine wpn_q hO 1 [] [(0, .slice A0 p0.length c0), (4, .int .i64 x54), (11, .slice A49 x52.length c50), (15, .pointer (some a103))] (ar (ar (ar (ar trivial)))) fun j => ?_
      refine wpn_ld rfl (m105.le hO.base).fst ?_
      refine wpn_q hO 2 [] [(0, .slice A0 p0.length c0), (4, .int .i64 x54), (11, .slice A49 x52.length c50), (15, .pointer (some a103)), (16, .int .i64 y101.Func), (17, .slice A0 p0.length c0), (18, .int .i64 x54)] (ar (ar (ar (ar (ar (ar (ar trivial))))))) fun j => ?_
      obtain ⟨y110, g111, hF⟩ := bind_some hF
      refine wpn_idx (T := zi) r48 hO.base rfl rfl g111 (by decide) fun a112 _ k113 m114 => ?_
      obtain ⟨v115, rfl, r116⟩ := k113
      obtain ⟨A117, c118, rfl, -⟩ := r116.form
      refine wpn_q hO 1 [] [(0, .slice A0 p0.length c0), (4, .int .i64 x54), (11, .slice A49 x52.length c50), (15, .pointer (some a103)), (16, .int .i64 y101.Func), (20, .pointer (some (a112.add 1)))] (ar (ar (ar (ar (ar (ar trivial)))))) fun j => ?_
      refine wpn_ld rfl ((m114.le hO.base).one 1 rfl) ?_
      refine wpn_q hO 2 [] [(0, .slice A0 p0.length c0), (4, .int .i64 x54), (11, .slice A49 x52.length c50), (15, .pointer (some a103)), (16, .int .i64 y101.Func), (20, .pointer (some (a112.add 1))), (21, .int .i64 y110.Line), (23, .slice A0 p0.length c0), (24, .int .i64 x54)] (ar (ar (ar (ar (ar (ar (ar (ar (ar trivial))))))))) fun j => ?_
      obtain ⟨y119, g120, hF⟩ := bind_some hF
      refine wpn_idx (T := zi) r48 hO.base rfl rfl g120 (by decide) fun a121 _ k122 m123 => ?_
      obtain ⟨v124, rfl, r125⟩ := k122
      obtain ⟨A126, c127, rfl, -⟩ := r125.form
      refine wpn_q hO 1 [] [(0, .slice A0 p0.length c0), (4, .int .i64 x54), (11, .slice A49 x52.length c50), (15, .pointer (some a103)), (16, .int .i64 y101.Func), (20, .pointer (some (a112.add 1))), (21, .int .i64 y110.Line), (26, .pointer (some (a121.add 2)))] (ar (ar (ar (ar (ar (ar (ar (ar trivial)))))))) fun j => ?_
      refine wpn_ld rfl ((m123.le hO.base).one 2 rfl) ?_
      refine wpn_late ?_
      refine wpn_lit (T := (Ty.int .i64)) (l := ([] : List Int)) (cs := []) hO rfl rfl rfl (by decide) fun _ σ o130 w131 hO => ?_
      obtain ⟨A128, c129, rfl, -⟩ := w131.form
      have hO : Obs _ _ [_, _] := hO
      refine wpn_nil ?_
      refine wpn_ag ⟨(again_ld rfl ((m123.le hO.base).one 2 rfl) rfl), (again_ld rfl ((m114.le hO.base).one 1 rfl) rfl), (again_ld rfl (m105.le hO.base).fst rfl), trivial⟩ ?_
      refine wpn_late ?_
      obtain ⟨_, hr136, hF⟩ := bind_some hF
      refine wpn_apl (T := (Ty.int .i64)) hO w131 (i := 1) rfl rfl rfl r125 hr136 (by decide) fun _ σ o134 w135 hO => ?_
      obtain ⟨A132, c133, rfl, -⟩ := w135.form
      have hO : Obs _ _ [_, _] := hO
      refine wpn_nil ?_
      refine wpn_ag ⟨(again_ld rfl ((m114.le hO.base).one 1 rfl) rfl), (again_ld rfl (m105.le hO.base).fst rfl), trivial⟩ ?_
      refine wpn_q hO 1 [] [(0, .slice A0 p0.length c0), (4, .int .i64 x54), (11, .slice A49 x52.length c50), (29, .agg #[(.int .i64 y101.Func), (.int .i64 y110.Line), (.slice A132 (([] : List Int) ++ y119.Scope).length c133)])] (ar (ar (ar (ar trivial)))) fun j => ?_
      obtain ⟨_, h138, r137, hO⟩ := w135.share hO (i := 1) rfl
      have hL := hL.trans h138
      have r48 := r48.le h138
      have w53 := w53.le h138
      have hO : Obs _ _ [_, _] := hO
      obtain ⟨_, hr143, hF⟩ := bind_some hF
      refine wpn_ap1 (T := zi) (y := (⟨y101.Func, y110.Line, (([] : List Int) ++ y119.Scope)⟩ : ze)) hO w53 (i := 0) rfl rfl (fun _ => rfl) rfl ⟨_, rfl, r137⟩ rfl hr143 (by decide) fun u _ σ o141 w142 hO => ?_
      obtain ⟨A139, c140, rfl, -⟩ := w142.form
      have hO : Obs _ _ [_, _] := hO
      refine wpn_qa hO [] [(0, .slice A0 p0.length c0), (3, .slice A139 (x52 ++ [(⟨y101.Func, y110.Line, (([] : List Int) ++ y119.Scope)⟩ : ze)]).length c140), (4, .int .i64 x54)] (ar (ar (ar trivial))) fun j => ?_
      refine wpn_end ?_
      refine inb_i ?_
      refine thn_i ?_
      refine wpn_rlast ?_
      refine wpn_qa hO [] [(0, .slice A0 p0.length c0), (3, .slice A139 (x52 ++ [(⟨y101.Func, y110.Line, (([] : List Int) ++ y119.Scope)⟩ : ze)]).length c140), (4, .int .i64 (IntKind.i64.wrap (x54 + 1)))] (ar (ar (ar trivial))) fun j => ?_
      refine wpn_end ?_
      refine thn_i ?_
      have hO := hO.sel [0] (by decide)
      exact ⟨n99, Nat.lt_succ_self _, A139, c140, o141, (x52 ++ [(⟨y101.Func, y110.Line, (([] : List Int) ++ y119.Scope)⟩ : ze)]), (IntKind.i64.wrap (x54 + 1)), _, ar (ar (ar trivial)), hO, hL, r48, w142, hF⟩
    · refine wpn_cF (congrArg Value.bool hb100) ?_
      refine wpn_ex ?_
      refine thn_x ?_
      refine inb_x ?_
      refine thn_i ?_
      refine wpn_qa hO [] [(2, .slice A49 x52.length c50)] (ar trivial) fun j => ?_
      refine wpn_r1 ?_
      injection hF with hF
      subst hF
      exact hQ _ _ _ _ _ rfl hO hL ⟨_, _, rfl, rfl, w53⟩
theorem zeB {τ : Hp} {v0 : Value} {p0 : (List za)} {p1 : Int} (r0 : RdT zg τ v0 p0) {rr : Int × Bool} (hF : zb9 p0 p1 = some rr) :
    Ctr Try.prog 11 #[v0, .int .i64 p1] τ [] (fun v τ' vs' => v = .tuple #[.int .i64 rr.1, .bool rr.2] ∧ vs' = []) := by
  obtain ⟨A0, c0, rfl, -⟩ := r0.form
  refine ctr_of (args := [.slice A0 p0.length c0, .int .i64 p1]) hm Try.func11 s11 rfl fun w0 σ hO Q hQ => ?_
  unfold zb9 at hF
  have hL := Hp.le.refl τ
  show wpn _ _ a11.body _ _ _
  unfold a11
  dsimp only
  refine wpn_qa hO [] [(0, .slice A0 p0.length c0), (1, .int .i64 p1)] (ar (ar trivial)) fun j => ?_
  refine wpn_assoc ?_
  refine wpn_qa hO [] [(0, .slice A0 p0.length c0), (1, .int .i64 p1), (6, .int .i64 0)] (ar (ar (ar trivial))) fun j => ?_
  refine wpn_bl ?_
  refine wpn_lp (fun (n : Nat) e' σ' => ∃ (x36 : Int) (τ' : Hp), agr [(0, .slice A0 p0.length c0), (1, .int .i64 p1), (6, .int .i64 x36)] e' ∧ Obs τ' σ' [] ∧ Hp.le τ τ' ∧ RdT zg τ' (.slice A0 p0.length c0) p0 ∧ zP p0 p1 n x36 = some rr) big ⟨0, _, ar (ar (ar trivial)), hO, hL, r0, hF⟩ ?_
  clear hF hO hL
  rintro n68 e σ ⟨x36, _, hA, hO, hL, r35, hF⟩
  rw [← sets_agr _ _ hA]
  cases n68 with
  | zero => exact nomatch (show none = some rr from hF)
  | succ n68 =>
    replace hF : zbB (zP p0 p1 n68) p0 p1 x36 = some rr := hF
    unfold zbB at hF
    refine wpn_assoc ?_
    refine wpn_qa hO [] [(0, .slice A0 p0.length c0), (1, .int .i64 p1), (6, .int .i64 x36), (10, .bool (decide (x36 < (p0.length : Int))))] (ar (ar (ar (ar trivial)))) fun j => ?_
    rcases ite_some hF with ⟨hb69, hF⟩ | ⟨hb69, hF⟩
    · refine wpn_cT (congrArg Value.bool hb69) ?_
      refine wpn_sk ?_
      refine wpn_bl ?_
      refine wpn_q hO 2 [] [(0, .slice A0 p0.length c0), (1, .int .i64 p1), (6, .int .i64 x36), (13, .slice A0 p0.length c0), (14, .int .i64 x36)] (ar (ar (ar (ar (ar trivial))))) fun j => ?_
      obtain ⟨y70, g71, hF⟩ := bind_some hF
      refine wpn_idx (T := zg) r35 hO.base rfl rfl g71 (by decide) fun a72 _ k73 m74 => ?_
      obtain ⟨v75, v79, rfl, r76, r80⟩ := k73
      obtain ⟨A77, c78, rfl, -⟩ := r76.form
      obtain ⟨A81, c82, rfl, -⟩ := r80.form
      refine wpn_q hO 1 [] [(0, .slice A0 p0.length c0), (1, .int .i64 p1), (6, .int .i64 x36), (16, .pointer (some (a72.add 1)))] (ar (ar (ar (ar trivial)))) fun j => ?_
      refine wpn_ld rfl ((m74.le hO.base).one 1 rfl) ?_
      refine wpn_q hO 3 [] [(0, .slice A0 p0.length c0), (1, .int .i64 p1), (6, .int .i64 x36), (20, .bool (decide (y70.From ≤ p1)))] (ar (ar (ar (ar trivial)))) fun j => ?_
      obtain ⟨c83, h84, hF⟩ := bind_some hF
      refine wpn_midq 2 [(28, .bool c83), (0, .slice A0 p0.length c0), (1, .int .i64 p1), (6, .int .i64 x36)] (fun Q hQ => ?_) fun j => ?_
      · have hF := h84
        rcases ite_some hF with ⟨hb85, hF⟩ | ⟨hb85, hF⟩
        · refine wpn_gT (congrArg (fun x => isB (.bool x) true) hb85) ?_
          refine wpn_q hO 3 [] [(0, .slice A0 p0.length c0), (1, .int .i64 p1), (6, .int .i64 x36), (20, .bool (decide (y70.From ≤ p1))), (21, .int .i64 p1), (22, .slice A0 p0.length c0), (23, .int .i64 x36)] (ar (ar (ar (ar (ar (ar (ar trivial))))))) fun j => ?_
          obtain ⟨y86, g87, hF⟩ := bind_some hF
          refine wpn_idx (T := zg) r35 hO.base rfl rfl g87 (by decide) fun a88 _ k89 m90 => ?_
          obtain ⟨v91, v95, rfl, r92, r96⟩ := k89
          obtain ⟨A93, c94, rfl, -⟩ := r92.form
          obtain ⟨A97, c98, rfl, -⟩ := r96.form
          refine wpn_q hO 1 [] [(0, .slice A0 p0.length c0), (1, .int .i64 p1), (6, .int .i64 x36), (20, .bool (decide (y70.From ≤ p1))), (21, .int .i64 p1), (25, .pointer (some (a88.add 2)))] (ar (ar (ar (ar (ar (ar trivial)))))) fun j => ?_
          refine wpn_ld rfl ((m90.le hO.base).one 2 rfl) ?_
          refine wpn_q hO 1 [] [(0, .slice A0 p0.length c0), (1, .int .i64 p1), (6, .int .i64 x36), (20, .bool (decide (y70.From ≤ p1))), (27, .bool (decide (p1 < y86.To)))] (ar (ar (ar (ar (ar trivial))))) fun j => ?_
          refine wpn_pk (congrArg Value.bool hb85) ?_
          refine wpn_nil ?_
          injection hF with hF
          subst hF
          refine wpn_end ?_
          exact hQ _ (ar (ar (ar (ar trivial))))
        · refine wpn_gF (congrArg (fun x => isB (.bool x) true) hb85) ?_
          refine wpn_pk (congrArg Value.bool hb85) ?_
          refine wpn_nil ?_
          injection hF with hF
          subst hF
          refine wpn_end ?_
          exact hQ _ (ar (ar (ar (ar trivial))))
      · refine wpn_nil ?_
        refine wpn_clast ?_
        rcases ite_some hF with ⟨hb99, hF⟩ | ⟨hb99, hF⟩
        · refine wpn_cT (congrArg Value.bool hb99) ?_
          refine wpn_assoc ?_
          refine wpn_qa hO [] [(4, .int .i64 x36), (5, .bool true)] (ar (ar trivial)) fun j => ?_
          refine wpn_rt ?_
          refine inb_r1 ?_
          refine thn_r1 ?_
          refine thn_r1 ?_
          refine inb_r1 ?_
          refine thn_r1 ?_
          injection hF with hF
          subst hF
          exact hQ _ _ _ _ _ rfl hO hL ⟨rfl, rfl⟩
        · refine wpn_cF (congrArg Value.bool hb99) ?_
          refine wpn_sk ?_
          refine wpn_end ?_
          refine inb_i ?_
          refine thn_i ?_
          refine wpn_rlast ?_
          refine wpn_qa hO [] [(0, .slice A0 p0.length c0), (1, .int .i64 p1), (6, .int .i64 (IntKind.i64.wrap (x36 + 1)))] (ar (ar (ar trivial))) fun j => ?_
          refine wpn_end ?_
          refine thn_i ?_
          exact ⟨n68, Nat.lt_succ_self _, (IntKind.i64.wrap (x36 + 1)), _, ar (ar (ar trivial)), hO, hL, r35, hF⟩
    · refine wpn_cF (congrArg Value.bool hb69) ?_
      refine wpn_ex ?_
      refine thn_x ?_
      refine inb_x ?_
      refine thn_i ?_
      refine wpn_qa hO [] [(4, .int .i64 0), (5, .bool false)] (ar (ar trivial)) fun j => ?_
      refine wpn_r1 ?_
      injection hF with hF
      subst hF
      exact hQ _ _ _ _ _ rfl hO hL ⟨rfl, rfl⟩
theorem ze5 {τ : Hp} {v0 : Value} {p0 : (List za)} {v1 : Value} {p1 : (List ze)} {p2 : Int} {p3 : ByteArray} (r0 : RdT zg τ v0 p0) (r1 : RdT zi τ v1 p1) {rr : Int × Bool} (hF : zbE p0 p1 p2 p3 = some rr) :
    Ctr Try.prog 13 #[v0, v1, .int .i64 p2, .string p3] τ [] (fun v τ' vs' => v = .tuple #[.int .i64 rr.1, .bool rr.2] ∧ vs' = []) := by
  obtain ⟨A0, c0, rfl, -⟩ := r0.form
  obtain ⟨A1, c1, rfl, -⟩ := r1.form
  refine ctr_of (args := [.slice A0 p0.length c0, .slice A1 p1.length c1, .int .i64 p2, .string p3]) hm Try.func13 s13 rfl fun w0 σ hO Q hQ => ?_
  unfold zbE at hF
  have hL := Hp.le.refl τ
  show wpn _ _ a13.body _ _ _
  unfold a13
  dsimp only
  refine wpn_qa hO [] [(0, .slice A0 p0.length c0), (1, .slice A1 p1.length c1), (2, .int .i64 p2), (3, .string p3)] (ar (ar (ar (ar trivial)))) fun j => ?_
  refine wpn_assoc ?_
  refine wpn_q hO 6 [] [(0, .slice A0 p0.length c0), (1, .slice A1 p1.length c1), (2, .int .i64 p2), (3, .string p3), (23, .bool ((decide (p2 < 0)) || (decide (p2 ≥ (p1.length : Int)))))] (And.intro (And.intro rfl rfl) (fun _ => ar (ar (ar (ar (ar trivial)))))) fun j => ?_
  obtain ⟨c5, h6, hF⟩ := bind_some hF
  refine wpn_midq 2 [(30, .bool c5), (0, .slice A0 p0.length c0), (1, .slice A1 p1.length c1), (2, .int .i64 p2), (3, .string p3)] (fun Q hQ => ?_) fun j => ?_
  · have hF := h6
    rcases ite_some hF with ⟨hb7, hF⟩ | ⟨hb7, hF⟩
    · refine wpn_gF (congrArg (fun x => isB (.bool x) false) hb7) ?_
      refine wpn_pk (congrArg Value.bool hb7) ?_
      refine wpn_nil ?_
      injection hF with hF
      subst hF
      refine wpn_end ?_
      exact hQ _ (ar (ar (ar (ar (ar trivial)))))
    · refine wpn_gT (congrArg (fun x => isB (.bool x) false) hb7) ?_
      refine wpn_q hO 2 [] [(0, .slice A0 p0.length c0), (1, .slice A1 p1.length c1), (2, .int .i64 p2), (3, .string p3), (23, .bool ((decide (p2 < 0)) || (decide (p2 ≥ (p1.length : Int))))), (24, .slice A1 p1.length c1), (25, .int .i64 p2)] (ar (ar (ar (ar (ar (ar (ar trivial))))))) fun j => ?_
      obtain ⟨y8, g9, hF⟩ := bind_some hF
      refine wpn_idx (T := zi) r1 hO.base rfl rfl g9 (by decide) fun a10 _ k11 m12 => ?_
      obtain ⟨v13, rfl, r14⟩ := k11
      obtain ⟨A15, c16, rfl, -⟩ := r14.form
      refine wpn_q hO 1 [] [(0, .slice A0 p0.length c0), (1, .slice A1 p1.length c1), (2, .int .i64 p2), (3, .string p3), (23, .bool ((decide (p2 < 0)) || (decide (p2 ≥ (p1.length : Int))))), (27, .pointer (some a10))] (ar (ar (ar (ar (ar (ar trivial)))))) fun j => ?_
      refine wpn_ld rfl (m12.le hO.base).fst ?_
      refine wpn_q hO 1 [] [(0, .slice A0 p0.length c0), (1, .slice A1 p1.length c1), (2, .int .i64 p2), (3, .string p3), (23, .bool ((decide (p2 < 0)) || (decide (p2 ≥ (p1.length : Int))))), (29, .bool (decide (y8.Func < 0)))] (ar (ar (ar (ar (ar (ar trivial)))))) fun j => ?_
      refine wpn_pk (congrArg Value.bool hb7) ?_
      refine wpn_nil ?_
      injection hF with hF
      subst hF
      refine wpn_end ?_
      exact hQ _ (ar (ar (ar (ar (ar trivial)))))
  · refine wpn_q hO 1 [] [(0, .slice A0 p0.length c0), (1, .slice A1 p1.length c1), (2, .int .i64 p2), (3, .string p3), (31, .bool c5)] (ar (ar (ar (ar (ar trivial))))) fun j => ?_
    obtain ⟨c17, h18, hF⟩ := bind_some hF
    refine wpn_midq 2 [(40, .bool c17), (0, .slice A0 p0.length c0), (1, .slice A1 p1.length c1), (2, .int .i64 p2), (3, .string p3)] (fun Q hQ => ?_) fun j => ?_
    · have hF := h18
      rcases ite_some hF with ⟨hb19, hF⟩ | ⟨hb19, hF⟩
      · refine wpn_gF (congrArg (fun x => isB (.bool x) false) hb19) ?_
        refine wpn_pk (congrArg Value.bool hb19) ?_
        refine wpn_nil ?_
        injection hF with hF
        subst hF
        refine wpn_end ?_
        exact hQ _ (ar (ar (ar (ar (ar trivial)))))
      · refine wpn_gT (congrArg (fun x => isB (.bool x) false) hb19) ?_
        refine wpn_q hO 2 [] [(0, .slice A0 p0.length c0), (1, .slice A1 p1.length c1), (2, .int .i64 p2), (3, .string p3), (31, .bool c5), (32, .slice A1 p1.length c1), (33, .int .i64 p2)] (ar (ar (ar (ar (ar (ar (ar trivial))))))) fun j => ?_
        obtain ⟨y20, g21, hF⟩ := bind_some hF
        refine wpn_idx (T := zi) r1 hO.base rfl rfl g21 (by decide) fun a22 _ k23 m24 => ?_
        obtain ⟨v25, rfl, r26⟩ := k23
        obtain ⟨A27, c28, rfl, -⟩ := r26.form
        refine wpn_q hO 1 [] [(0, .slice A0 p0.length c0), (1, .slice A1 p1.length c1), (2, .int .i64 p2), (3, .string p3), (31, .bool c5), (35, .pointer (some a22))] (ar (ar (ar (ar (ar (ar trivial)))))) fun j => ?_
        refine wpn_ld rfl (m24.le hO.base).fst ?_
        refine wpn_q hO 3 [] [(0, .slice A0 p0.length c0), (1, .slice A1 p1.length c1), (2, .int .i64 p2), (3, .string p3), (31, .bool c5), (39, .bool (decide (y20.Func ≥ (p0.length : Int))))] (ar (ar (ar (ar (ar (ar trivial)))))) fun j => ?_
        refine wpn_pk (congrArg Value.bool hb19) ?_
        refine wpn_nil ?_
        injection hF with hF
        subst hF
        refine wpn_end ?_
        exact hQ _ (ar (ar (ar (ar (ar trivial)))))
    · refine wpn_nil ?_
      rcases ite_some hF with ⟨hb29, hF⟩ | ⟨hb29, hF⟩
      · refine wpn_cT (congrArg Value.bool hb29) ?_
        refine wpn_assoc ?_
        refine wpn_qa hO [] [(8, .int .i64 0), (9, .bool false)] (ar (ar trivial)) fun j => ?_
        refine wpn_rt ?_
        injection hF with hF
        subst hF
        exact hQ _ _ _ _ _ rfl hO hL ⟨rfl, rfl⟩
      · refine wpn_cF (congrArg Value.bool hb29) ?_
        refine wpn_sk ?_
        refine wpn_q hO 3 [] [(1, .slice A1 p1.length c1), (2, .int .i64 p2), (3, .string p3), (41, .slice A0 p0.length c0), (42, .slice A1 p1.length c1), (43, .int .i64 p2)] (ar (ar (ar (ar (ar (ar trivial)))))) fun j => ?_
        obtain ⟨y30, g31, hF⟩ := bind_some hF
        refine wpn_idx (T := zi) r1 hO.base rfl rfl g31 (by decide) fun a32 _ k33 m34 => ?_
        obtain ⟨v35, rfl, r36⟩ := k33
        obtain ⟨A37, c38, rfl, -⟩ := r36.form
        refine wpn_q hO 1 [] [(1, .slice A1 p1.length c1), (2, .int .i64 p2), (3, .string p3), (41, .slice A0 p0.length c0), (45, .pointer (some a32))] (ar (ar (ar (ar (ar trivial))))) fun j => ?_
        refine wpn_ld rfl (m34.le hO.base).fst ?_
        obtain ⟨y39, g40, hF⟩ := bind_some hF
        refine wpn_idx (T := zg) r0 hO.base rfl rfl g40 (by decide) fun a41 _ k42 m43 => ?_
        obtain ⟨v44, v48, rfl, r45, r49⟩ := k42
        obtain ⟨A46, c47, rfl, -⟩ := r45.form
        obtain ⟨A50, c51, rfl, -⟩ := r49.form
        refine wpn_q hO 1 [] [(1, .slice A1 p1.length c1), (2, .int .i64 p2), (3, .string p3), (48, .pointer (some (a41.add 3)))] (ar (ar (ar (ar trivial)))) fun j => ?_
        refine wpn_ld rfl ((m43.le hO.base).one 3 rfl) ?_
        refine wpn_qa hO [] [(1, .slice A1 p1.length c1), (2, .int .i64 p2), (3, .string p3), (10, .slice A46 y39.Vars.length c47)] (ar (ar (ar (ar trivial)))) fun j => ?_
        refine wpn_qa hO [] [(1, .slice A1 p1.length c1), (2, .int .i64 p2), (3, .string p3), (10, .slice A46 y39.Vars.length c47), (11, .int .i64 0)] (ar (ar (ar (ar (ar trivial))))) fun j => ?_
        refine wpn_qa hO [] [(1, .slice A1 p1.length c1), (2, .int .i64 p2), (3, .string p3), (10, .slice A46 y39.Vars.length c47), (11, .int .i64 0), (12, .bool false)] (ar (ar (ar (ar (ar (ar trivial)))))) fun j => ?_
        refine wpn_assoc ?_
        refine wpn_qa hO [] [(1, .slice A1 p1.length c1), (2, .int .i64 p2), (3, .string p3), (10, .slice A46 y39.Vars.length c47), (11, .int .i64 0), (12, .bool false), (13, .int .i64 0)] (ar (ar (ar (ar (ar (ar (ar trivial))))))) fun j => ?_
        refine wpn_bl ?_
        refine wpn_lp (fun (n : Nat) e' σ' => ∃ (x93 : Int) (x94 : Bool) (x95 : Int) (τ' : Hp), agr [(1, .slice A1 p1.length c1), (2, .int .i64 p2), (3, .string p3), (10, .slice A46 y39.Vars.length c47), (11, .int .i64 x93), (12, .bool x94), (13, .int .i64 x95)] e' ∧ Obs τ' σ' [] ∧ Hp.le τ τ' ∧ RdT zi τ' (.slice A1 p1.length c1) p1 ∧ RdT zk τ' (.slice A46 y39.Vars.length c47) y39.Vars ∧ zS p1 p2 p3 y39 n x93 x94 x95 = some rr) big ⟨0, false, 0, _, ar (ar (ar (ar (ar (ar (ar trivial)))))), hO, hL, r1, r45, hF⟩ ?_
        clear hF hO hL
        rintro n133 e σ ⟨x93, x94, x95, _, hA, hO, hL, r91, r92, hF⟩
        rw [← sets_agr _ _ hA]
        cases n133 with
        | zero => exact nomatch (show none = some rr from hF)
        | succ n133 =>
          replace hF : zbm (zS p1 p2 p3 y39 n133) p1 p2 p3 y39 x93 x94 x95 = some rr := hF
          unfold zbm at hF
          refine wpn_assoc ?_
          refine wpn_q hO 3 [] [(1, .slice A1 p1.length c1), (2, .int .i64 p2), (3, .string p3), (10, .slice A46 y39.Vars.length c47), (11, .int .i64 x93), (12, .bool x94), (13, .int .i64 x95), (50, .int .i64 x95), (51, .slice A1 p1.length c1), (52, .int .i64 p2)] (ar (ar (ar (ar (ar (ar (ar (ar (ar (ar trivial)))))))))) fun j => ?_
          obtain ⟨y134, g135, hF⟩ := bind_some hF
          refine wpn_idx (T := zi) r91 hO.base rfl rfl g135 (by decide) fun a136 _ k137 m138 => ?_
          obtain ⟨v139, rfl, r140⟩ := k137
          obtain ⟨A141, c142, rfl, -⟩ := r140.form
          refine wpn_q hO 1 [] [(1, .slice A1 p1.length c1), (2, .int .i64 p2), (3, .string p3), (10, .slice A46 y39.Vars.length c47), (11, .int .i64 x93), (12, .bool x94), (13, .int .i64 x95), (50, .int .i64 x95), (54, .pointer (some (a136.add 2)))] (ar (ar (ar (ar (ar (ar (ar (ar (ar trivial))))))))) fun j => ?_
          refine wpn_ld rfl ((m138.le hO.base).one 2 rfl) ?_
          refine wpn_qa hO [] [(1, .slice A1 p1.length c1), (2, .int .i64 p2), (3, .string p3), (10, .slice A46 y39.Vars.length c47), (11, .int .i64 x93), (12, .bool x94), (13, .int .i64 x95), (57, .bool (decide (x95 < (y134.Scope.length : Int))))] (ar (ar (ar (ar (ar (ar (ar (ar trivial)))))))) fun j => ?_
          rcases ite_some hF with ⟨hb143, hF⟩ | ⟨hb143, hF⟩
          · refine wpn_cT (congrArg Value.bool hb143) ?_
            refine wpn_sk ?_
            refine wpn_bl ?_
            refine wpn_q hO 2 [] [(1, .slice A1 p1.length c1), (2, .int .i64 p2), (3, .string p3), (10, .slice A46 y39.Vars.length c47), (11, .int .i64 x93), (12, .bool x94), (13, .int .i64 x95), (60, .slice A1 p1.length c1), (61, .int .i64 p2)] (ar (ar (ar (ar (ar (ar (ar (ar (ar trivial))))))))) fun j => ?_
            obtain ⟨y144, g145, hF⟩ := bind_some hF
            refine wpn_idx (T := zi) r91 hO.base rfl rfl g145 (by decide) fun a146 _ k147 m148 => ?_
            obtain ⟨v149, rfl, r150⟩ := k147
            obtain ⟨A151, c152, rfl, -⟩ := r150.form
            refine wpn_q hO 1 [] [(1, .slice A1 p1.length c1), (2, .int .i64 p2), (3, .string p3), (10, .slice A46 y39.Vars.length c47), (11, .int .i64 x93), (12, .bool x94), (13, .int .i64 x95), (63, .pointer (some (a146.add 2)))] (ar (ar (ar (ar (ar (ar (ar (ar trivial)))))))) fun j => ?_
            refine wpn_ld rfl ((m148.le hO.base).one 2 rfl) ?_
            refine wpn_q hO 1 [] [(1, .slice A1 p1.length c1), (2, .int .i64 p2), (3, .string p3), (10, .slice A46 y39.Vars.length c47), (11, .int .i64 x93), (12, .bool x94), (13, .int .i64 x95), (64, .slice A151 y144.Scope.length c152), (65, .int .i64 x95)] (ar (ar (ar (ar (ar (ar (ar (ar (ar trivial))))))))) fun j => ?_
            obtain ⟨y153, g154, hF⟩ := bind_some hF
            refine wpn_idx (T := (Ty.int .i64)) r150 hO.base rfl rfl g154 (by decide) fun a155 _ k156 m157 => ?_
            obtain rfl : _ = ([.int .i64 y153] : List Value) := k156
            refine wpn_ld rfl (m157.le hO.base).fst ?_
            refine wpn_qa hO [] [(1, .slice A1 p1.length c1), (2, .int .i64 p2), (3, .string p3), (10, .slice A46 y39.Vars.length c47), (11, .int .i64 x93), (12, .bool x94), (13, .int .i64 x95), (14, .int .i64 y153)] (ar (ar (ar (ar (ar (ar (ar (ar trivial)))))))) fun j => ?_
            refine wpn_q hO 6 [] [(1, .slice A1 p1.length c1), (2, .int .i64 p2), (3, .string p3), (10, .slice A46 y39.Vars.length c47), (11, .int .i64 x93), (12, .bool x94), (13, .int .i64 x95), (14, .int .i64 y153), (76, .bool ((decide (y153 ≥ 0)) && (decide (y153 < (y39.Vars.length : Int)))))] (And.intro (And.intro rfl rfl) (fun _ => ar (ar (ar (ar (ar (ar (ar (ar (ar trivial)))))))))) fun j => ?_
            obtain ⟨c158, h159, hF⟩ := bind_some hF
            refine wpn_midq 2 [(84, .bool c158), (1, .slice A1 p1.length c1), (2, .int .i64 p2), (3, .string p3), (10, .slice A46 y39.Vars.length c47), (11, .int .i64 x93), (12, .bool x94), (13, .int .i64 x95), (14, .int .i64 y153)] (fun Q hQ => ?_) fun j => ?_
            · have hF := h159
              rcases ite_some hF with ⟨hb160, hF⟩ | ⟨hb160, hF⟩
              · refine wpn_gT (congrArg (fun x => isB (.bool x) true) hb160) ?_
                refine wpn_q hO 2 [] [(1, .slice A1 p1.length c1), (2, .int .i64 p2), (3, .string p3), (10, .slice A46 y39.Vars.length c47), (11, .int .i64 x93), (12, .bool x94), (13, .int .i64 x95), (14, .int .i64 y153), (76, .bool ((decide (y153 ≥ 0)) && (decide (y153 < (y39.Vars.length : Int))))), (77, .slice A46 y39.Vars.length c47), (78, .int .i64 y153)] (ar (ar (ar (ar (ar (ar (ar (ar (ar (ar (ar trivial))))))))))) fun j => ?_
                obtain ⟨y161, g162, hF⟩ := bind_some hF
                refine wpn_idx (T := zk) r92 hO.base rfl rfl g162 (by decide) fun a163 _ k164 m165 => ?_
                obtain ⟨v166, rfl, r167⟩ := k164
                obtain ⟨A168, c169, rfl, -⟩ := r167.form
                refine wpn_q hO 1 [] [(1, .slice A1 p1.length c1), (2, .int .i64 p2), (3, .string p3), (10, .slice A46 y39.Vars.length c47), (11, .int .i64 x93), (12, .bool x94), (13, .int .i64 x95), (14, .int .i64 y153), (76, .bool ((decide (y153 ≥ 0)) && (decide (y153 < (y39.Vars.length : Int))))), (80, .pointer (some a163))] (ar (ar (ar (ar (ar (ar (ar (ar (ar (ar trivial)))))))))) fun j => ?_
                refine wpn_ld rfl (m165.le hO.base).fst ?_
                refine wpn_q hO 2 [] [(1, .slice A1 p1.length c1), (2, .int .i64 p2), (3, .string p3), (10, .slice A46 y39.Vars.length c47), (11, .int .i64 x93), (12, .bool x94), (13, .int .i64 x95), (14, .int .i64 y153), (76, .bool ((decide (y153 ≥ 0)) && (decide (y153 < (y39.Vars.length : Int))))), (83, .bool (strEq y161.Name p3))] (ar (ar (ar (ar (ar (ar (ar (ar (ar (ar trivial)))))))))) fun j => ?_
                refine wpn_pk (congrArg Value.bool hb160) ?_
                refine wpn_nil ?_
                injection hF with hF
                subst hF
                refine wpn_end ?_
                exact hQ _ (ar (ar (ar (ar (ar (ar (ar (ar (ar trivial)))))))))
              · refine wpn_gF (congrArg (fun x => isB (.bool x) true) hb160) ?_
                refine wpn_pk (congrArg Value.bool hb160) ?_
                refine wpn_nil ?_
                injection hF with hF
                subst hF
                refine wpn_end ?_
                exact hQ _ (ar (ar (ar (ar (ar (ar (ar (ar (ar trivial)))))))))
            · refine wpn_nil ?_
              refine wpn_clast ?_
              rcases ite_some hF with ⟨hb170, hF⟩ | ⟨hb170, hF⟩
              · refine wpn_cT (congrArg Value.bool hb170) ?_
                refine wpn_assoc ?_
                refine wpn_qa hO [] [(1, .slice A1 p1.length c1), (2, .int .i64 p2), (3, .string p3), (10, .slice A46 y39.Vars.length c47), (11, .int .i64 y153), (13, .int .i64 x95)] (ar (ar (ar (ar (ar (ar trivial)))))) fun j => ?_
                refine wpn_qa hO [] [(1, .slice A1 p1.length c1), (2, .int .i64 p2), (3, .string p3), (10, .slice A46 y39.Vars.length c47), (11, .int .i64 y153), (12, .bool true), (13, .int .i64 x95)] (ar (ar (ar (ar (ar (ar (ar trivial))))))) fun j => ?_
                refine wpn_end ?_
                refine inb_i ?_
                refine thn_i ?_
                refine wpn_rlast ?_
                refine wpn_qa hO [] [(1, .slice A1 p1.length c1), (2, .int .i64 p2), (3, .string p3), (10, .slice A46 y39.Vars.length c47), (11, .int .i64 y153), (12, .bool true), (13, .int .i64 (IntKind.i64.wrap (x95 + 1)))] (ar (ar (ar (ar (ar (ar (ar trivial))))))) fun j => ?_
                refine wpn_end ?_
                refine thn_i ?_
                exact ⟨n133, Nat.lt_succ_self _, y153, true, (IntKind.i64.wrap (x95 + 1)), _, ar (ar (ar (ar (ar (ar (ar trivial)))))), hO, hL, r91, r92, hF⟩
              · refine wpn_cF (congrArg Value.bool hb170) ?_
                refine wpn_sk ?_
                refine wpn_end ?_
                refine inb_i ?_
                refine thn_i ?_
                refine wpn_rlast ?_
                refine wpn_qa hO [] [(1, .slice A1 p1.length c1), (2, .int .i64 p2), (3, .string p3), (10, .slice A46 y39.Vars.length c47), (11, .int .i64 x93), (12, .bool x94), (13, .int .i64 (IntKind.i64.wrap (x95 + 1)))] (ar (ar (ar (ar (ar (ar (ar trivial))))))) fun j => ?_
                refine wpn_end ?_
                refine thn_i ?_
                exact ⟨n133, Nat.lt_succ_self _, x93, x94, (IntKind.i64.wrap (x95 + 1)), _, ar (ar (ar (ar (ar (ar (ar trivial)))))), hO, hL, r91, r92, hF⟩
          · refine wpn_cF (congrArg Value.bool hb143) ?_
            refine wpn_ex ?_
            refine thn_x ?_
            refine inb_x ?_
            refine thn_i ?_
            refine wpn_qa hO [] [(8, .int .i64 x93), (9, .bool x94)] (ar (ar trivial)) fun j => ?_
            refine wpn_r1 ?_
            injection hF with hF
            subst hF
            exact hQ _ _ _ _ _ rfl hO hL ⟨rfl, rfl⟩
theorem zex {τ : Hp} {p0 : zp} {v0_0 : Value} {v0_1 : Value} {p1 : Int} {p2 : Int} {p3 : ByteArray} (r0_0 : RdT zg τ v0_0 p0.L) (r0_1 : RdT zi τ v0_1 p0.Points) {rr : Bool} (hF : zb4 p0 p1 p2 p3 = some rr) :
    Ctr Try.prog 3 #[.agg #[v0_0, v0_1], .int .i64 p1, .int .i64 p2, .string p3] τ [] (fun v τ' vs' => v = .bool rr ∧ vs' = []) := by
  obtain ⟨A0_0, c0_0, rfl, -⟩ := r0_0.form
  obtain ⟨A0_1, c0_1, rfl, -⟩ := r0_1.form
  refine ctr_of (args := [.agg #[(.slice A0_0 p0.L.length c0_0), (.slice A0_1 p0.Points.length c0_1)], .int .i64 p1, .int .i64 p2, .string p3]) hm Try.func3 s3 rfl fun w0 σ hO Q hQ => ?_
  unfold zb4 at hF
  have hL := Hp.le.refl τ
  show wpn _ _ a3.body _ _ _
  unfold a3
  dsimp only
  refine wpn_bx (n := 2) hO rfl rfl fun b5 σ hO => ?_
  have hO : Obs _ _ [_] := hO
  refine wpn_qa hO [] [(1, .int .i64 p1), (2, .int .i64 p2), (3, .string p3), (4, .pointer (some ⟨b5, 0, none⟩))] (ar (ar (ar (ar trivial)))) fun j => ?_
  refine wpn_assoc ?_
  refine wpn_q hO 1 [0] [(1, .int .i64 p1), (2, .int .i64 p2), (3, .string p3), (4, .pointer (some ⟨b5, 0, none⟩)), (19, .agg #[(.slice A0_0 p0.L.length c0_0), (.slice A0_1 p0.Points.length c0_1)])] (And.intro (And.intro rfl rfl) (ar (ar (ar (ar (ar trivial)))))) fun j => ?_
  obtain ⟨c6, h7, hF⟩ := bind_some hF
  refine wpn_c0 hO (zeg (p0 := (⟨p0.L, p0.Points⟩ : zp)) r0_0 r0_1 h7) rfl fun _ σ _ _ hO h8 h9 => ?_
  have hL := hL.trans h8
  have r0_0 := r0_0.le h8
  have r0_1 := r0_1.le h8
  obtain ⟨rfl, rfl⟩ := h9
  have hO : Obs _ _ [_] := hO
  refine wpn_qa hO [] [(1, .int .i64 p1), (2, .int .i64 p2), (3, .string p3), (4, .pointer (some ⟨b5, 0, none⟩)), (25, .bool (c6 || (decide ((p3.size : Int) > 1000))))] (And.intro (And.intro rfl rfl) (fun _ => ar (ar (ar (ar (ar trivial)))))) fun j => ?_
  rcases ite_some hF with ⟨hb10, hF⟩ | ⟨hb10, hF⟩
  · refine wpn_cT (congrArg Value.bool hb10) ?_
    refine wpn_assoc ?_
    obtain ⟨c11, h12, hF⟩ := bind_some hF
    refine wpn_c0 hO (zdV h12) rfl fun _ σ _ _ hO h13 h14 => ?_
    have hL := hL.trans h13
    have r0_0 := r0_0.le h13
    have r0_1 := r0_1.le h13
    obtain ⟨rfl, rfl⟩ := h14
    have hO : Obs _ _ [_] := hO
    refine wpn_qa hO [] [(8, .bool c11)] (ar trivial) fun j => ?_
    refine wpn_rt ?_
    injection hF with hF
    subst hF
    have hO := hO.sel [] (by decide)
    exact hQ _ _ _ _ _ rfl hO hL ⟨rfl, rfl⟩
  · refine wpn_cF (congrArg Value.bool hb10) ?_
    refine wpn_sk ?_
    refine wpn_q hO 2 [0] [(1, .int .i64 p1), (2, .int .i64 p2), (3, .string p3), (4, .pointer (some ⟨b5, 0, none⟩)), (28, .slice A0_0 p0.L.length c0_0)] (And.intro (And.intro rfl rfl) (ar (ar (ar (ar (ar trivial)))))) fun j => ?_
    obtain ⟨c15, h16, hF⟩ := bind_some hF
    refine wpn_c0 hO (zey r0_0 h16) rfl fun _ σ _ _ hO h17 h18 => ?_
    have hL := hL.trans h17
    have r0_0 := r0_0.le h17
    have r0_1 := r0_1.le h17
    obtain ⟨v19, o22, rfl, rfl, w23⟩ := h18
    obtain ⟨A20, c21, rfl, -⟩ := w23.form
    have hO : Obs _ _ [_, _] := hO
    refine wpn_qa hO [] [(1, .int .i64 p1), (2, .int .i64 p2), (3, .string p3), (4, .pointer (some ⟨b5, 0, none⟩)), (9, .slice A20 c15.length c21)] (ar (ar (ar (ar (ar trivial))))) fun j => ?_
    refine wpn_q hO 2 [0] [(1, .int .i64 p1), (2, .int .i64 p2), (3, .string p3), (4, .pointer (some ⟨b5, 0, none⟩)), (9, .slice A20 c15.length c21), (31, .slice A0_1 p0.Points.length c0_1)] (And.intro (And.intro rfl rfl) (ar (ar (ar (ar (ar (ar trivial))))))) fun j => ?_
    obtain ⟨c24, h25, hF⟩ := bind_some hF
    refine wpn_c0 hO (zd4 r0_1 h25) rfl fun _ σ _ _ hO h26 h27 => ?_
    have hL := hL.trans h26
    have w23 := w23.le h26
    have r0_1 := r0_1.le h26
    have r0_0 := r0_0.le h26
    obtain ⟨v28, o31, rfl, rfl, w32⟩ := h27
    obtain ⟨A29, c30, rfl, -⟩ := w32.form
    have hO : Obs _ _ [_, _, _] := hO
    refine wpn_qa hO [] [(1, .int .i64 p1), (2, .int .i64 p2), (3, .string p3), (4, .pointer (some ⟨b5, 0, none⟩)), (9, .slice A20 c15.length c21), (10, .slice A29 c24.length c30)] (ar (ar (ar (ar (ar (ar trivial)))))) fun j => ?_
    refine wpn_q hO 2 [] [(1, .int .i64 p1), (2, .int .i64 p2), (3, .string p3), (4, .pointer (some ⟨b5, 0, none⟩)), (9, .slice A20 c15.length c21), (10, .slice A29 c24.length c30), (34, .slice A20 c15.length c21), (35, .int .i64 p1)] (ar (ar (ar (ar (ar (ar (ar (ar trivial)))))))) fun j => ?_
    obtain ⟨_, h34, r33, hO⟩ := w23.share hO (i := 1) rfl
    have hL := hL.trans h34
    have w32 := w32.le h34
    have r0_0 := r0_0.le h34
    have r0_1 := r0_1.le h34
    have hO : Obs _ _ [_, _, _] := hO
    obtain ⟨c35, h36, hF⟩ := bind_some hF
    refine wpn_c0 hO (zd0 r33 h36) rfl fun _ σ _ _ hO h37 h38 => ?_
    have hL := hL.trans h37
    have r33 := r33.le h37
    have w32 := w32.le h37
    have r0_0 := r0_0.le h37
    have r0_1 := r0_1.le h37
    obtain ⟨rfl, rfl⟩ := h38
    have hO : Obs _ _ [_, _, _] := hO
    refine wpn_qa hO [] [(1, .int .i64 p1), (2, .int .i64 p2), (3, .string p3), (4, .pointer (some ⟨b5, 0, none⟩)), (9, .slice A20 c15.length c21), (10, .slice A29 c24.length c30), (11, .int .i64 c35.1), (12, .bool c35.2)] (ar (ar (ar (ar (ar (ar (ar (ar trivial)))))))) fun j => ?_
    refine wpn_q hO 3 [0] [(2, .int .i64 p2), (3, .string p3), (4, .pointer (some ⟨b5, 0, none⟩)), (9, .slice A20 c15.length c21), (10, .slice A29 c24.length c30), (11, .int .i64 c35.1), (12, .bool c35.2), (41, .slice A0_0 p0.L.length c0_0), (42, .int .i64 p1)] (And.intro (And.intro rfl rfl) (ar (ar (ar (ar (ar (ar (ar (ar (ar trivial)))))))))) fun j => ?_
    obtain ⟨c39, h40, hF⟩ := bind_some hF
    refine wpn_c0 hO (zeB r0_0 h40) rfl fun _ σ _ _ hO h41 h42 => ?_
    have hL := hL.trans h41
    have r33 := r33.le h41
    have w32 := w32.le h41
    have r0_0 := r0_0.le h41
    have r0_1 := r0_1.le h41
    obtain ⟨rfl, rfl⟩ := h42
    have hO : Obs _ _ [_, _, _] := hO
    refine wpn_qa hO [] [(2, .int .i64 p2), (3, .string p3), (4, .pointer (some ⟨b5, 0, none⟩)), (9, .slice A20 c15.length c21), (10, .slice A29 c24.length c30), (11, .int .i64 c35.1), (12, .bool c35.2), (13, .int .i64 c39.1), (14, .bool c39.2)] (ar (ar (ar (ar (ar (ar (ar (ar (ar trivial))))))))) fun j => ?_
    refine wpn_q hO 4 [] [(2, .int .i64 p2), (3, .string p3), (4, .pointer (some ⟨b5, 0, none⟩)), (9, .slice A20 c15.length c21), (10, .slice A29 c24.length c30), (11, .int .i64 c35.1), (12, .bool c35.2), (13, .int .i64 c39.1), (14, .bool c39.2), (47, .slice A20 c15.length c21), (48, .slice A29 c24.length c30), (49, .int .i64 p2), (50, .string p3)] (ar (ar (ar (ar (ar (ar (ar (ar (ar (ar (ar (ar (ar trivial))))))))))))) fun j => ?_
    obtain ⟨_, h44, r43, hO⟩ := w32.share hO (i := 2) rfl
    have hL := hL.trans h44
    have r33 := r33.le h44
    have r0_0 := r0_0.le h44
    have r0_1 := r0_1.le h44
    have hO : Obs _ _ [_, _, _] := hO
    obtain ⟨c45, h46, hF⟩ := bind_some hF
    refine wpn_c0 hO (zdT r33 r43 h46) rfl fun _ σ _ _ hO h47 h48 => ?_
    have hL := hL.trans h47
    have r33 := r33.le h47
    have r43 := r43.le h47
    have r0_0 := r0_0.le h47
    have r0_1 := r0_1.le h47
    obtain ⟨rfl, rfl⟩ := h48
    have hO : Obs _ _ [_, _, _] := hO
    refine wpn_qa hO [] [(2, .int .i64 p2), (3, .string p3), (4, .pointer (some ⟨b5, 0, none⟩)), (9, .slice A20 c15.length c21), (10, .slice A29 c24.length c30), (11, .int .i64 c35.1), (12, .bool c35.2), (13, .int .i64 c39.1), (14, .bool c39.2), (15, .int .i64 c45.1), (16, .bool c45.2)] (ar (ar (ar (ar (ar (ar (ar (ar (ar (ar (ar trivial))))))))))) fun j => ?_
    refine wpn_q hO 6 [0, 0] [(4, .pointer (some ⟨b5, 0, none⟩)), (9, .slice A20 c15.length c21), (10, .slice A29 c24.length c30), (11, .int .i64 c35.1), (12, .bool c35.2), (13, .int .i64 c39.1), (14, .bool c39.2), (15, .int .i64 c45.1), (16, .bool c45.2), (56, .slice A0_0 p0.L.length c0_0), (58, .slice A0_1 p0.Points.length c0_1), (59, .int .i64 p2), (60, .string p3)] (And.intro (And.intro rfl rfl) (And.intro (And.intro rfl rfl) (ar (ar (ar (ar (ar (ar (ar (ar (ar (ar (ar (ar (ar trivial))))))))))))))) fun j => ?_
    obtain ⟨c49, h50, hF⟩ := bind_some hF
    refine wpn_c0 hO (ze5 r0_0 r0_1 h50) rfl fun _ σ _ _ hO h51 h52 => ?_
    have hL := hL.trans h51
    have r33 := r33.le h51
    have r43 := r43.le h51
    have r0_0 := r0_0.le h51
    have r0_1 := r0_1.le h51
    obtain ⟨rfl, rfl⟩ := h52
    have hO : Obs _ _ [_, _, _] := hO
    refine wpn_qa hO [] [(4, .pointer (some ⟨b5, 0, none⟩)), (9, .slice A20 c15.length c21), (10, .slice A29 c24.length c30), (11, .int .i64 c35.1), (12, .bool c35.2), (13, .int .i64 c39.1), (14, .bool c39.2), (15, .int .i64 c45.1), (16, .bool c45.2), (17, .int .i64 c49.1), (18, .bool c49.2)] (ar (ar (ar (ar (ar (ar (ar (ar (ar (ar (ar trivial))))))))))) fun j => ?_
    refine wpn_q hO 13 [] [(4, .pointer (some ⟨b5, 0, none⟩)), (9, .slice A20 c15.length c21), (10, .slice A29 c24.length c30), (82, .bool ((((c35.1 == c39.1) && (c35.2 == c39.2)) && (c45.1 == c49.1)) && (c45.2 == c49.2)))] (And.intro (And.intro rfl rfl) (fun _ => And.intro (And.intro rfl rfl) (fun _ => And.intro (And.intro rfl rfl) (fun _ => ar (ar (ar (ar trivial))))))) fun j => ?_
    have hO := hO.sel [0] (by decide)
    have hO : Obs _ _ [_] := hO
    obtain ⟨c53, h54, hF⟩ := bind_some hF
    refine wpn_mid 2 (fun e' σ' => ∃ (τ' : Hp), agr [(87, .bool c53), (4, .pointer (some ⟨b5, 0, none⟩)), (10, .slice A29 c24.length c30)] e' ∧ Obs τ' σ' [some (b5, ⟨[.slice A0_0 p0.L.length c0_0, .slice A0_1 p0.Points.length c0_1], 25, 2, true⟩)] ∧ Hp.le τ τ' ∧ RdT zi τ' (.slice A29 c24.length c30) c24 ∧ RdT zg τ' (.slice A0_0 p0.L.length c0_0) p0.L ∧ RdT zi τ' (.slice A0_1 p0.Points.length c0_1) p0.Points) ?_ ?_
    · have hF := h54
      rcases ite_some hF with ⟨hb55, hF⟩ | ⟨hb55, hF⟩
      · refine wpn_gT (congrArg (fun x => isB (.bool x) true) hb55) ?_
        refine wpn_q hO 3 [0] [(4, .pointer (some ⟨b5, 0, none⟩)), (10, .slice A29 c24.length c30), (82, .bool ((((c35.1 == c39.1) && (c35.2 == c39.2)) && (c45.1 == c49.1)) && (c45.2 == c49.2))), (83, .slice A20 c15.length c21), (85, .slice A0_0 p0.L.length c0_0)] (And.intro (And.intro rfl rfl) (ar (ar (ar (ar (ar trivial)))))) fun j => ?_
        obtain ⟨c56, h57, hF⟩ := bind_some hF
        refine wpn_c0 hO (zdN r33 r0_0 h57) rfl fun _ σ _ _ hO h58 h59 => ?_
        have hL := hL.trans h58
        have r43 := r43.le h58
        have r33 := r33.le h58
        have r0_0 := r0_0.le h58
        have r0_1 := r0_1.le h58
        obtain ⟨rfl, rfl⟩ := h59
        have hO : Obs _ _ [_] := hO
        refine wpn_pk (congrArg Value.bool hb55) ?_
        refine wpn_nil ?_
        injection hF with hF
        subst hF
        refine wpn_end ?_
        exact ⟨rfl, _, ar (ar (ar trivial)), hO, hL, r43, r0_0, r0_1⟩
      · refine wpn_gF (congrArg (fun x => isB (.bool x) true) hb55) ?_
        refine wpn_pk (congrArg Value.bool hb55) ?_
        refine wpn_nil ?_
        injection hF with hF
        subst hF
        refine wpn_end ?_
        exact ⟨rfl, _, ar (ar (ar trivial)), hO, hL, r43, r0_0, r0_1⟩
    · rintro e σ ⟨_, hA, hO, hL, r43, r0_0, r0_1⟩
      rw [← sets_agr _ _ hA]
      refine wpn_q hO 1 [] [(4, .pointer (some ⟨b5, 0, none⟩)), (10, .slice A29 c24.length c30), (88, .bool c53)] (ar (ar (ar trivial))) fun j => ?_
      obtain ⟨c60, h61, hF⟩ := bind_some hF
      refine wpn_mid 2 (fun e' σ' => ∃ (τ' : Hp), agr [(93, .bool c60)] e' ∧ Obs τ' σ' [some (b5, ⟨[.slice A0_0 p0.L.length c0_0, .slice A0_1 p0.Points.length c0_1], 25, 2, true⟩)] ∧ Hp.le τ τ' ∧ RdT zg τ' (.slice A0_0 p0.L.length c0_0) p0.L ∧ RdT zi τ' (.slice A0_1 p0.Points.length c0_1) p0.Points) ?_ ?_
      · have hF := h61
        rcases ite_some hF with ⟨hb62, hF⟩ | ⟨hb62, hF⟩
        · refine wpn_gT (congrArg (fun x => isB (.bool x) true) hb62) ?_
          refine wpn_q hO 3 [0] [(88, .bool c53), (89, .slice A29 c24.length c30), (91, .slice A0_1 p0.Points.length c0_1)] (And.intro (And.intro rfl rfl) (ar (ar (ar trivial)))) fun j => ?_
          obtain ⟨c63, h64, hF⟩ := bind_some hF
          refine wpn_c0 hO (zd1 r43 r0_1 h64) rfl fun _ σ _ _ hO h65 h66 => ?_
          have hL := hL.trans h65
          have r43 := r43.le h65
          have r0_1 := r0_1.le h65
          have r0_0 := r0_0.le h65
          obtain ⟨rfl, rfl⟩ := h66
          have hO : Obs _ _ [_] := hO
          refine wpn_pk (congrArg Value.bool hb62) ?_
          refine wpn_nil ?_
          injection hF with hF
          subst hF
          refine wpn_end ?_
          exact ⟨rfl, _, ar (trivial), hO, hL, r0_0, r0_1⟩
        · refine wpn_gF (congrArg (fun x => isB (.bool x) true) hb62) ?_
          refine wpn_pk (congrArg Value.bool hb62) ?_
          refine wpn_nil ?_
          injection hF with hF
          subst hF
          refine wpn_end ?_
          exact ⟨rfl, _, ar (trivial), hO, hL, r0_0, r0_1⟩
      · rintro e σ ⟨_, hA, hO, hL, r0_0, r0_1⟩
        rw [← sets_agr _ _ hA]
        refine wpn_q hO 1 [] [(94, .bool c60)] (ar trivial) fun j => ?_
        have hO := hO.sel [] (by decide)
        have hO : Obs _ _ [] := hO
        obtain ⟨c67, h68, hF⟩ := bind_some hF
        refine wpn_mid 2 (fun e' σ' => ∃ (τ' : Hp), agr [(96, .bool c67)] e' ∧ Obs τ' σ' [] ∧ Hp.le τ τ') ?_ ?_
        · have hF := h68
          rcases ite_some hF with ⟨hb69, hF⟩ | ⟨hb69, hF⟩
          · refine wpn_gT (congrArg (fun x => isB (.bool x) true) hb69) ?_
            obtain ⟨c70, h71, hF⟩ := bind_some hF
            refine wpn_c0 hO (zdV h71) rfl fun _ σ _ _ hO h72 h73 => ?_
            have hL := hL.trans h72
            obtain ⟨rfl, rfl⟩ := h73
            have hO : Obs _ _ [] := hO
            refine wpn_pk (congrArg Value.bool hb69) ?_
            refine wpn_nil ?_
            injection hF with hF
            subst hF
            refine wpn_end ?_
            exact ⟨rfl, _, ar (trivial), hO, hL⟩
          · refine wpn_gF (congrArg (fun x => isB (.bool x) true) hb69) ?_
            refine wpn_pk (congrArg Value.bool hb69) ?_
            refine wpn_nil ?_
            injection hF with hF
            subst hF
            refine wpn_end ?_
            exact ⟨rfl, _, ar (trivial), hO, hL⟩
        · rintro e σ ⟨_, hA, hO, hL⟩
          rw [← sets_agr _ _ hA]
          refine wpn_qa hO [] [(8, .bool c67)] (ar trivial) fun j => ?_
          refine wpn_r1 ?_
          injection hF with hF
          subst hF
          exact hQ _ _ _ _ _ rfl hO hL ⟨rfl, rfl⟩
end Go.Proofs.Ytckcngkkofemjaa
