import Derived.Test.YtckcngkkofemjaaF
import Derived.Test.YtckcngkkofemjaaAc0
import Derived.Test.YtckcngkkofemjaaM00
import Derived.Test.YtckcngkkofemjaaM01
namespace Go.Proofs.Ytckcngkkofemjaa
open Go.Ab Go.RowKit
set_option linter.unusedVariables false
set_option linter.unusedSimpArgs false
set_option maxRecDepth 10000
set_option maxHeartbeats 1000000
theorem zem {τ : Hp} {v0 : Value} {p0 : (List ze)} (r0 : RdT zk τ v0 p0) {rr : Bool} (hF : zdr p0 = some rr) :
    Ctr Try.prog 21 #[v0] τ [] (fun v τ' vs' => v = .bool rr ∧ vs' = []) := by
  obtain ⟨A0, c0, rfl, -⟩ := r0.form
  refine ctr_of (args := [.slice A0 p0.length c0]) hm Try.func21 s21 rfl fun w0 σ hO Q hQ => ?_
  unfold zdr at hF
  have hL := Hp.le.refl τ
  show wpn _ _ a21.body _ _ _
  unfold a21
  dsimp only
  refine wpn_qa hO [] [(0, .slice A0 p0.length c0)] (ar trivial) fun j => ?_
  refine wpn_qa hO [] [(0, .slice A0 p0.length c0), (3, .int .i64 0)] (ar (ar trivial)) fun j => ?_
  refine wpn_assoc ?_
  refine wpn_qa hO [] [(0, .slice A0 p0.length c0), (3, .int .i64 0), (4, .int .i64 0)] (ar (ar (ar trivial))) fun j => ?_
  refine wpn_bl ?_
  refine wpn_lp (fun (n : Nat) e' σ' => ∃ (x24 : Int) (x25 : Int) (τ' : Hp), agr [(0, .slice A0 p0.length c0), (3, .int .i64 x24), (4, .int .i64 x25)] e' ∧ Obs τ' σ' [] ∧ Hp.le τ τ' ∧ RdT zk τ' (.slice A0 p0.length c0) p0 ∧ zbV p0 n x24 x25 = some rr) big ⟨0, 0, _, ar (ar (ar trivial)), hO, hL, r0, hF⟩ ?_
  clear hF hO hL
  rintro n46 e σ ⟨x24, x25, _, hA, hO, hL, r23, hF⟩
  rw [← sets_agr _ _ hA]
  cases n46 with
  | zero => exact nomatch (show none = some rr from hF)
  | succ n46 =>
    replace hF : zcK (zbV p0 n46) p0 x24 x25 = some rr := hF
    unfold zcK at hF
    refine wpn_assoc ?_
    refine wpn_qa hO [] [(0, .slice A0 p0.length c0), (3, .int .i64 x24), (4, .int .i64 x25), (12, .bool ((decide (x25 < (p0.length : Int))) && (decide (x25 ≤ 5000))))] (And.intro (And.intro rfl rfl) (fun _ => ar (ar (ar (ar trivial))))) fun j => ?_
    rcases ite_some hF with ⟨hb47, hF⟩ | ⟨hb47, hF⟩
    · refine wpn_cT (congrArg Value.bool hb47) ?_
      refine wpn_sk ?_
      refine wpn_bl ?_
      refine wpn_q hO 3 [] [(0, .slice A0 p0.length c0), (4, .int .i64 x25), (15, .int .i64 x24), (16, .slice A0 p0.length c0), (17, .int .i64 x25)] (ar (ar (ar (ar (ar trivial))))) fun j => ?_
      obtain ⟨y48, g49, hF⟩ := bind_some hF
      refine wpn_idx (T := zk) r23 hO.base rfl rfl g49 (by decide) fun a50 _ k51 m52 => ?_
      obtain ⟨v53, rfl, r54⟩ := k51
      obtain ⟨A55, c56, rfl, -⟩ := r54.form
      refine wpn_q hO 1 [] [(0, .slice A0 p0.length c0), (4, .int .i64 x25), (15, .int .i64 x24), (19, .pointer (some (a50.add 2)))] (ar (ar (ar (ar trivial)))) fun j => ?_
      refine wpn_ld rfl ((m52.le hO.base).one 2 rfl) ?_
      refine wpn_qa hO [] [(0, .slice A0 p0.length c0), (3, .int .i64 (IntKind.i64.wrap (x24 + (minI (y48.At.length : Int) 1000)))), (4, .int .i64 x25)] (ar (ar (ar trivial))) fun j => ?_
      refine wpn_q hO 2 [] [(0, .slice A0 p0.length c0), (3, .int .i64 (IntKind.i64.wrap (x24 + (minI (y48.At.length : Int) 1000)))), (4, .int .i64 x25), (24, .slice A0 p0.length c0), (25, .int .i64 x25)] (ar (ar (ar (ar (ar trivial))))) fun j => ?_
      obtain ⟨y57, g58, hF⟩ := bind_some hF
      refine wpn_idx (T := zk) r23 hO.base rfl rfl g58 (by decide) fun a59 _ k60 m61 => ?_
      obtain ⟨v62, rfl, r63⟩ := k60
      obtain ⟨A64, c65, rfl, -⟩ := r63.form
      refine wpn_q hO 1 [] [(0, .slice A0 p0.length c0), (3, .int .i64 (IntKind.i64.wrap (x24 + (minI (y48.At.length : Int) 1000)))), (4, .int .i64 x25), (27, .pointer (some (a59.add 2)))] (ar (ar (ar (ar trivial)))) fun j => ?_
      refine wpn_ld rfl ((m61.le hO.base).one 2 rfl) ?_
      refine wpn_qa hO [] [(0, .slice A0 p0.length c0), (3, .int .i64 (IntKind.i64.wrap (x24 + (minI (y48.At.length : Int) 1000)))), (4, .int .i64 x25), (30, .bool (decide ((y57.At.length : Int) > 1000)))] (ar (ar (ar (ar trivial)))) fun j => ?_
      refine wpn_clast ?_
      rcases ite_some hF with ⟨hb66, hF⟩ | ⟨hb66, hF⟩
      · refine wpn_cT (congrArg Value.bool hb66) ?_
        refine wpn_assoc ?_
        refine wpn_qa hO [] [(2, .bool true)] (ar trivial) fun j => ?_
        refine wpn_rt ?_
        refine inb_r1 ?_
        refine thn_r1 ?_
        refine thn_r1 ?_
        refine inb_r1 ?_
        refine thn_r1 ?_
        injection hF with hF
        subst hF
        exact hQ _ _ _ _ _ rfl hO hL ⟨rfl, rfl⟩
      · refine wpn_cF (congrArg Value.bool hb66) ?_
        refine wpn_sk ?_
        refine wpn_end ?_
        refine inb_i ?_
        refine thn_i ?_
        refine wpn_rlast ?_
        refine wpn_qa hO [] [(0, .slice A0 p0.length c0), (3, .int .i64 (IntKind.i64.wrap (x24 + (minI (y48.At.length : Int) 1000)))), (4, .int .i64 (IntKind.i64.wrap (x25 + 1)))] (ar (ar (ar trivial))) fun j => ?_
        refine wpn_end ?_
        refine thn_i ?_
        exact ⟨n46, Nat.lt_succ_self _, (IntKind.i64.wrap (x24 + (minI (y48.At.length : Int) 1000))), (IntKind.i64.wrap (x25 + 1)), _, ar (ar (ar trivial)), hO, hL, r23, hF⟩
    · refine wpn_cF (congrArg Value.bool hb47) ?_
      refine wpn_ex ?_
      refine thn_x ?_
      refine inb_x ?_
      refine thn_i ?_
      refine wpn_qa hO [] [(2, .bool ((decide ((p0.length : Int) > 5000)) || (decide (x24 > 20000))))] (And.intro (And.intro rfl rfl) (fun _ => ar trivial)) fun j => ?_
      refine wpn_r1 ?_
      injection hF with hF
      subst hF
      exact hQ _ _ _ _ _ rfl hO hL ⟨rfl, rfl⟩
theorem zfm {τ : Hp} {p0 : zu} {v0_0 : Value} {v0_1 : Value} (r0_0 : RdT zj τ v0_0 p0.L) (r0_1 : RdT zl τ v0_1 p0.Points) {rr : Bool} (hF : zbi p0 = some rr) :
    Ctr Try.prog 6 #[.agg #[v0_0, v0_1]] τ [] (fun v τ' vs' => v = .bool rr ∧ vs' = []) := by
  obtain ⟨A0_0, c0_0, rfl, -⟩ := r0_0.form
  obtain ⟨A0_1, c0_1, rfl, -⟩ := r0_1.form
  refine ctr_of (args := [.agg #[(.slice A0_0 p0.L.length c0_0), (.slice A0_1 p0.Points.length c0_1)]]) hm Try.func6 s6 rfl fun w0 σ hO Q hQ => ?_
  unfold zbi at hF
  have hL := Hp.le.refl τ
  show wpn _ _ a6.body _ _ _
  unfold a6
  dsimp only
  refine wpn_bx (n := 2) hO rfl rfl fun b2 σ hO => ?_
  have hO : Obs _ _ [_] := hO
  refine wpn_qa hO [] [(1, .pointer (some ⟨b2, 0, none⟩))] (ar trivial) fun j => ?_
  refine wpn_assoc ?_
  refine wpn_qa hO [0, 0] [(1, .pointer (some ⟨b2, 0, none⟩)), (19, .bool ((decide ((p0.L.length : Int) > 100)) || (decide ((p0.Points.length : Int) > 1100))))] (And.intro (And.intro rfl rfl) (And.intro (And.intro rfl rfl) (And.intro (And.intro rfl rfl) (fun _ => ar (ar trivial))))) fun j => ?_
  rcases ite_some hF with ⟨hb3, hF⟩ | ⟨hb3, hF⟩
  · refine wpn_cT (congrArg Value.bool hb3) ?_
    refine wpn_assoc ?_
    refine wpn_qa hO [] [(2, .bool true)] (ar trivial) fun j => ?_
    refine wpn_rt ?_
    injection hF with hF
    subst hF
    have hO := hO.sel [] (by decide)
    exact hQ _ _ _ _ _ rfl hO hL ⟨rfl, rfl⟩
  · refine wpn_cF (congrArg Value.bool hb3) ?_
    refine wpn_sk ?_
    refine wpn_qa hO [] [(1, .pointer (some ⟨b2, 0, none⟩)), (3, .int .i64 0)] (ar (ar trivial)) fun j => ?_
    refine wpn_assoc ?_
    refine wpn_qa hO [] [(1, .pointer (some ⟨b2, 0, none⟩)), (3, .int .i64 0), (4, .int .i64 0)] (ar (ar (ar trivial))) fun j => ?_
    refine wpn_bl ?_
    refine wpn_lp (fun (n : Nat) e' σ' => ∃ (x699 : Int) (x700 : Int) (τ' : Hp), agr [(1, .pointer (some ⟨b2, 0, none⟩)), (3, .int .i64 x699), (4, .int .i64 x700)] e' ∧ Obs τ' σ' [some (b2, ⟨[.slice A0_0 p0.L.length c0_0, .slice A0_1 p0.Points.length c0_1], 25, 2, true⟩)] ∧ Hp.le τ τ' ∧ RdT zj τ' (.slice A0_0 p0.L.length c0_0) p0.L ∧ RdT zl τ' (.slice A0_1 p0.Points.length c0_1) p0.Points ∧ zx p0 n x699 x700 = some rr) big ⟨0, 0, _, ar (ar (ar trivial)), hO, hL, r0_0, r0_1, hF⟩ ?_
    clear hF hO hL
    rintro n1392 e σ ⟨x699, x700, _, hA, hO, hL, r697, r698, hF⟩
    rw [← sets_agr _ _ hA]
    cases n1392 with
    | zero => exact nomatch (show none = some rr from hF)
    | succ n1392 =>
      replace hF : zbz (zx p0 n1392) p0 x699 x700 = some rr := hF
      unfold zbz at hF
      refine wpn_assoc ?_
      refine wpn_qa hO [0] [(1, .pointer (some ⟨b2, 0, none⟩)), (3, .int .i64 x699), (4, .int .i64 x700), (24, .bool (decide (x700 < (p0.L.length : Int))))] (And.intro (And.intro rfl rfl) (ar (ar (ar (ar trivial))))) fun j => ?_
      rcases ite_some hF with ⟨hb1393, hF⟩ | ⟨hb1393, hF⟩
      · refine wpn_cT (congrArg Value.bool hb1393) ?_
        refine wpn_sk ?_
        refine wpn_bl ?_
        refine wpn_q hO 3 [0] [(1, .pointer (some ⟨b2, 0, none⟩)), (3, .int .i64 x699), (4, .int .i64 x700), (28, .slice A0_0 p0.L.length c0_0), (29, .int .i64 x700)] (And.intro (And.intro rfl rfl) (ar (ar (ar (ar (ar trivial)))))) fun j => ?_
        obtain ⟨y1394, g1395, hF⟩ := bind_some hF
        refine wpn_idx (T := zj) r697 hO.base rfl rfl g1395 (by decide) fun a1396 _ k1397 m1398 => ?_
        obtain ⟨v1399, v1403, rfl, r1400, r1404⟩ := k1397
        obtain ⟨A1401, c1402, rfl, -⟩ := r1400.form
        obtain ⟨A1405, c1406, rfl, -⟩ := r1404.form
        refine wpn_ld rfl ((m1398.le hO.base).all rfl) ?_
        refine wpn_al hO fun b1407 σ hO => ?_
        have hO : Obs _ _ [_, _] := hO
        refine wpn_st hO (i := 1) rfl (off := 0) rfl rfl rfl rfl (Nat.le_of_ble_eq_true rfl) rfl fun σ hO => ?_
        have hO : Obs _ _ [_, _] := hO
        refine wpn_nil ?_
        refine wpn_assoc ?_
        refine wpn_qa hO [1, 1, 1] [(1, .pointer (some ⟨b2, 0, none⟩)), (3, .int .i64 x699), (4, .int .i64 x700), (5, .pointer (some ⟨b1407, 0, none⟩)), (47, .bool (((decide ((y1394.Name.size : Int) > 1000)) || (decide ((y1394.Vars.length : Int) > 100))) || (decide ((y1394.Spans.length : Int) > 100))))] (And.intro (And.intro rfl rfl) (And.intro (And.intro rfl rfl) (And.intro (And.intro rfl rfl) (fun _ => And.intro (And.intro rfl rfl) (And.intro (And.intro rfl rfl) (fun _ => ar (ar (ar (ar (ar trivial)))))))))) fun j => ?_
        rcases ite_some hF with ⟨hb1408, hF⟩ | ⟨hb1408, hF⟩
        · refine wpn_cT (congrArg Value.bool hb1408) ?_
          refine wpn_assoc ?_
          refine wpn_qa hO [] [(2, .bool true)] (ar trivial) fun j => ?_
          refine wpn_rt ?_
          refine inb_r1 ?_
          refine thn_r1 ?_
          refine thn_r1 ?_
          refine inb_r1 ?_
          refine thn_r1 ?_
          injection hF with hF
          subst hF
          have hO := hO.sel [] (by decide)
          exact hQ _ _ _ _ _ rfl hO hL ⟨rfl, rfl⟩
        · refine wpn_cF (congrArg Value.bool hb1408) ?_
          refine wpn_sk ?_
          refine wpn_assoc ?_
          refine wpn_qa hO [] [(1, .pointer (some ⟨b2, 0, none⟩)), (3, .int .i64 x699), (4, .int .i64 x700), (5, .pointer (some ⟨b1407, 0, none⟩)), (6, .int .i64 0)] (ar (ar (ar (ar (ar trivial))))) fun j => ?_
          refine wpn_bl ?_
          refine wpn_lp (fun (n : Nat) e' σ' => ∃ (x1624 : Int) (x1627 : Int) (τ' : Hp), agr [(1, .pointer (some ⟨b2, 0, none⟩)), (3, .int .i64 x1624), (4, .int .i64 x700), (5, .pointer (some ⟨b1407, 0, none⟩)), (6, .int .i64 x1627)] e' ∧ Obs τ' σ' [some (b2, ⟨[.slice A0_0 p0.L.length c0_0, .slice A0_1 p0.Points.length c0_1], 25, 2, true⟩), some (b1407, ⟨[.string y1394.Name, .int .i64 y1394.From, .int .i64 y1394.To, .slice A1401 y1394.Vars.length c1402, .slice A1405 y1394.Spans.length c1406], 50, 5, true⟩)] ∧ Hp.le τ τ' ∧ RdT zj τ' (.slice A0_0 p0.L.length c0_0) p0.L ∧ RdT zl τ' (.slice A0_1 p0.Points.length c0_1) p0.Points ∧ RdT zn τ' (.slice A1401 y1394.Vars.length c1402) y1394.Vars ∧ RdT (Ty.slice zk) τ' (.slice A1405 y1394.Spans.length c1406) y1394.Spans ∧ zL (zx p0 n1392) x700 y1394 n x1624 x1627 = some rr) big ⟨x699, 0, _, ar (ar (ar (ar (ar trivial)))), hO, hL, r697, r698, r1400, r1404, hF⟩ ?_
          clear hF hO hL
          rintro n1837 e σ ⟨x1624, x1627, _, hA, hO, hL, r1622, r1623, r1625, r1626, hF⟩
          rw [← sets_agr _ _ hA]
          cases n1837 with
          | zero => exact nomatch (show none = some rr from hF)
          | succ n1837 =>
            replace hF : zbA (zL (zx p0 n1392) x700 y1394 n1837) (zx p0 n1392) x700 y1394 x1624 x1627 = some rr := hF
            unfold zbA at hF
            refine wpn_assoc ?_
            refine wpn_qa hO [1] [(1, .pointer (some ⟨b2, 0, none⟩)), (3, .int .i64 x1624), (4, .int .i64 x700), (5, .pointer (some ⟨b1407, 0, none⟩)), (6, .int .i64 x1627), (52, .bool (decide (x1627 < (y1394.Vars.length : Int))))] (And.intro (And.intro rfl rfl) (ar (ar (ar (ar (ar (ar trivial))))))) fun j => ?_
            rcases ite_some hF with ⟨hb1838, hF⟩ | ⟨hb1838, hF⟩
            · refine wpn_cT (congrArg Value.bool hb1838) ?_
              refine wpn_sk ?_
              refine wpn_bl ?_
              refine wpn_q hO 4 [1] [(1, .pointer (some ⟨b2, 0, none⟩)), (4, .int .i64 x700), (5, .pointer (some ⟨b1407, 0, none⟩)), (6, .int .i64 x1627), (55, .int .i64 x1624), (57, .slice A1401 y1394.Vars.length c1402), (58, .int .i64 x1627)] (And.intro (And.intro rfl rfl) (ar (ar (ar (ar (ar (ar (ar trivial)))))))) fun j => ?_
              obtain ⟨y1839, g1840, hF⟩ := bind_some hF
              refine wpn_idx (T := zn) r1625 hO.base rfl rfl g1840 (by decide) fun a1841 _ k1842 m1843 => ?_
              obtain ⟨v1844, rfl, r1845⟩ := k1842
              obtain ⟨A1846, c1847, rfl, -⟩ := r1845.form
              refine wpn_q hO 1 [] [(1, .pointer (some ⟨b2, 0, none⟩)), (4, .int .i64 x700), (5, .pointer (some ⟨b1407, 0, none⟩)), (6, .int .i64 x1627), (55, .int .i64 x1624), (60, .pointer (some (a1841.add 5)))] (ar (ar (ar (ar (ar (ar trivial)))))) fun j => ?_
              refine wpn_ld rfl ((m1843.le hO.base).one 5 rfl) ?_
              refine wpn_qa hO [] [(1, .pointer (some ⟨b2, 0, none⟩)), (3, .int .i64 (IntKind.i64.wrap (x1624 + (minI (y1839.Fields.length : Int) 32768)))), (4, .int .i64 x700), (5, .pointer (some ⟨b1407, 0, none⟩)), (6, .int .i64 x1627)] (ar (ar (ar (ar (ar trivial))))) fun j => ?_
              refine wpn_assoc ?_
              refine wpn_q hO 3 [1] [(1, .pointer (some ⟨b2, 0, none⟩)), (3, .int .i64 (IntKind.i64.wrap (x1624 + (minI (y1839.Fields.length : Int) 32768)))), (4, .int .i64 x700), (5, .pointer (some ⟨b1407, 0, none⟩)), (6, .int .i64 x1627), (66, .slice A1401 y1394.Vars.length c1402), (67, .int .i64 x1627)] (And.intro (And.intro rfl rfl) (ar (ar (ar (ar (ar (ar (ar trivial)))))))) fun j => ?_
              obtain ⟨y1848, g1849, hF⟩ := bind_some hF
              refine wpn_idx (T := zn) r1625 hO.base rfl rfl g1849 (by decide) fun a1850 _ k1851 m1852 => ?_
              obtain ⟨v1853, rfl, r1854⟩ := k1851
              obtain ⟨A1855, c1856, rfl, -⟩ := r1854.form
              refine wpn_q hO 1 [] [(1, .pointer (some ⟨b2, 0, none⟩)), (3, .int .i64 (IntKind.i64.wrap (x1624 + (minI (y1839.Fields.length : Int) 32768)))), (4, .int .i64 x700), (5, .pointer (some ⟨b1407, 0, none⟩)), (6, .int .i64 x1627), (69, .pointer (some a1850))] (ar (ar (ar (ar (ar (ar trivial)))))) fun j => ?_
              refine wpn_ld rfl (m1852.le hO.base).fst ?_
              refine wpn_q hO 3 [] [(1, .pointer (some ⟨b2, 0, none⟩)), (3, .int .i64 (IntKind.i64.wrap (x1624 + (minI (y1839.Fields.length : Int) 32768)))), (4, .int .i64 x700), (5, .pointer (some ⟨b1407, 0, none⟩)), (6, .int .i64 x1627), (73, .bool (decide ((y1848.Name.size : Int) > 1000)))] (ar (ar (ar (ar (ar (ar trivial)))))) fun j => ?_
              obtain ⟨c1857, h1858, hF⟩ := bind_some hF
              refine wpn_midq 2 [(83, .bool c1857), (1, .pointer (some ⟨b2, 0, none⟩)), (3, .int .i64 (IntKind.i64.wrap (x1624 + (minI (y1839.Fields.length : Int) 32768)))), (4, .int .i64 x700), (5, .pointer (some ⟨b1407, 0, none⟩)), (6, .int .i64 x1627)] (fun Q hQ => ?_) fun j => ?_
              · have hF := h1858
                rcases ite_some hF with ⟨hb1859, hF⟩ | ⟨hb1859, hF⟩
                · refine wpn_gF (congrArg (fun x => isB (.bool x) false) hb1859) ?_
                  refine wpn_pk (congrArg Value.bool hb1859) ?_
                  refine wpn_nil ?_
                  injection hF with hF
                  subst hF
                  refine wpn_end ?_
                  exact hQ _ (ar (ar (ar (ar (ar (ar trivial))))))
                · refine wpn_gT (congrArg (fun x => isB (.bool x) false) hb1859) ?_
                  refine wpn_q hO 3 [1] [(1, .pointer (some ⟨b2, 0, none⟩)), (3, .int .i64 (IntKind.i64.wrap (x1624 + (minI (y1839.Fields.length : Int) 32768)))), (4, .int .i64 x700), (5, .pointer (some ⟨b1407, 0, none⟩)), (6, .int .i64 x1627), (73, .bool (decide ((y1848.Name.size : Int) > 1000))), (75, .slice A1401 y1394.Vars.length c1402), (76, .int .i64 x1627)] (And.intro (And.intro rfl rfl) (ar (ar (ar (ar (ar (ar (ar (ar trivial))))))))) fun j => ?_
                  obtain ⟨y1860, g1861, hF⟩ := bind_some hF
                  refine wpn_idx (T := zn) r1625 hO.base rfl rfl g1861 (by decide) fun a1862 _ k1863 m1864 => ?_
                  obtain ⟨v1865, rfl, r1866⟩ := k1863
                  obtain ⟨A1867, c1868, rfl, -⟩ := r1866.form
                  refine wpn_q hO 2 [] [(1, .pointer (some ⟨b2, 0, none⟩)), (3, .int .i64 (IntKind.i64.wrap (x1624 + (minI (y1839.Fields.length : Int) 32768)))), (4, .int .i64 x700), (5, .pointer (some ⟨b1407, 0, none⟩)), (6, .int .i64 x1627), (73, .bool (decide ((y1848.Name.size : Int) > 1000))), (79, .pointer (some (a1862.add 3)))] (ar (ar (ar (ar (ar (ar (ar trivial))))))) fun j => ?_
                  refine wpn_ld rfl ((m1864.le hO.base).one 3 rfl) ?_
                  refine wpn_q hO 2 [] [(1, .pointer (some ⟨b2, 0, none⟩)), (3, .int .i64 (IntKind.i64.wrap (x1624 + (minI (y1839.Fields.length : Int) 32768)))), (4, .int .i64 x700), (5, .pointer (some ⟨b1407, 0, none⟩)), (6, .int .i64 x1627), (73, .bool (decide ((y1848.Name.size : Int) > 1000))), (82, .bool (decide ((y1860.Type_.Name.size : Int) > 1000)))] (ar (ar (ar (ar (ar (ar (ar trivial))))))) fun j => ?_
                  refine wpn_pk (congrArg Value.bool hb1859) ?_
                  refine wpn_nil ?_
                  injection hF with hF
                  subst hF
                  refine wpn_end ?_
                  exact hQ _ (ar (ar (ar (ar (ar (ar trivial))))))
              · refine wpn_qa hO [] [(1, .pointer (some ⟨b2, 0, none⟩)), (3, .int .i64 (IntKind.i64.wrap (x1624 + (minI (y1839.Fields.length : Int) 32768)))), (4, .int .i64 x700), (5, .pointer (some ⟨b1407, 0, none⟩)), (6, .int .i64 x1627), (87, .bool (c1857 || (decide ((IntKind.i64.wrap (x1624 + (minI (y1839.Fields.length : Int) 32768))) > 2000))))] (And.intro (And.intro rfl rfl) (fun _ => ar (ar (ar (ar (ar (ar trivial))))))) fun j => ?_
                rcases ite_some hF with ⟨hb1869, hF⟩ | ⟨hb1869, hF⟩
                · refine wpn_cT (congrArg Value.bool hb1869) ?_
                  refine wpn_assoc ?_
                  refine wpn_qa hO [] [(2, .bool true)] (ar trivial) fun j => ?_
                  refine wpn_rt ?_
                  refine inb_r1 ?_
                  refine thn_r1 ?_
                  refine thn_r1 ?_
                  refine inb_r1 ?_
                  refine thn_r1 ?_
                  refine inb_r1 ?_
                  refine thn_r1 ?_
                  refine thn_r1 ?_
                  refine inb_r1 ?_
                  refine thn_r1 ?_
                  injection hF with hF
                  subst hF
                  have hO := hO.sel [] (by decide)
                  exact hQ _ _ _ _ _ rfl hO hL ⟨rfl, rfl⟩
                · refine wpn_cF (congrArg Value.bool hb1869) ?_
                  refine wpn_sk ?_
                  refine wpn_qa hO [] [(1, .pointer (some ⟨b2, 0, none⟩)), (3, .int .i64 (IntKind.i64.wrap (x1624 + (minI (y1839.Fields.length : Int) 32768)))), (4, .int .i64 x700), (5, .pointer (some ⟨b1407, 0, none⟩)), (6, .int .i64 x1627), (7, .int .i64 0)] (ar (ar (ar (ar (ar (ar trivial)))))) fun j => ?_
                  refine wpn_blast ?_
                  refine wpn_bl ?_
                  refine wpn_lp (fun (n : Nat) e' σ' => ∃ (x1903 : Int) (τ' : Hp), agr [(1, .pointer (some ⟨b2, 0, none⟩)), (3, .int .i64 (IntKind.i64.wrap (x1624 + (minI (y1839.Fields.length : Int) 32768)))), (4, .int .i64 x700), (5, .pointer (some ⟨b1407, 0, none⟩)), (6, .int .i64 x1627), (7, .int .i64 x1903)] e' ∧ Obs τ' σ' [some (b2, ⟨[.slice A0_0 p0.L.length c0_0, .slice A0_1 p0.Points.length c0_1], 25, 2, true⟩), some (b1407, ⟨[.string y1394.Name, .int .i64 y1394.From, .int .i64 y1394.To, .slice A1401 y1394.Vars.length c1402, .slice A1405 y1394.Spans.length c1406], 50, 5, true⟩)] ∧ Hp.le τ τ' ∧ RdT zj τ' (.slice A0_0 p0.L.length c0_0) p0.L ∧ RdT zl τ' (.slice A0_1 p0.Points.length c0_1) p0.Points ∧ RdT zn τ' (.slice A1401 y1394.Vars.length c1402) y1394.Vars ∧ RdT (Ty.slice zk) τ' (.slice A1405 y1394.Spans.length c1406) y1394.Spans ∧ zc8 (zL (zx p0 n1392) x700 y1394 n1837) y1394 x1624 x1627 y1839 n x1903 = some rr) big ⟨0, _, ar (ar (ar (ar (ar (ar trivial))))), hO, hL, r1622, r1623, r1625, r1626, hF⟩ ?_
                  clear hF hO hL
                  rintro n1929 e σ ⟨x1903, _, hA, hO, hL, r1899, r1900, r1901, r1902, hF⟩
                  rw [← sets_agr _ _ hA]
                  cases n1929 with
                  | zero => exact nomatch (show none = some rr from hF)
                  | succ n1929 =>
                    replace hF : zb2 (zc8 (zL (zx p0 n1392) x700 y1394 n1837) y1394 x1624 x1627 y1839 n1929) (zL (zx p0 n1392) x700 y1394 n1837) y1394 x1624 x1627 y1839 x1903 = some rr := hF
                    unfold zb2 at hF
                    refine wpn_assoc ?_
                    refine wpn_q hO 4 [1] [(1, .pointer (some ⟨b2, 0, none⟩)), (3, .int .i64 (IntKind.i64.wrap (x1624 + (minI (y1839.Fields.length : Int) 32768)))), (4, .int .i64 x700), (5, .pointer (some ⟨b1407, 0, none⟩)), (6, .int .i64 x1627), (7, .int .i64 x1903), (88, .int .i64 x1903), (90, .slice A1401 y1394.Vars.length c1402), (91, .int .i64 x1627)] (And.intro (And.intro rfl rfl) (ar (ar (ar (ar (ar (ar (ar (ar (ar trivial)))))))))) fun j => ?_
                    obtain ⟨y1930, g1931, hF⟩ := bind_some hF
                    refine wpn_idx (T := zn) r1901 hO.base rfl rfl g1931 (by decide) fun a1932 _ k1933 m1934 => ?_
                    obtain ⟨v1935, rfl, r1936⟩ := k1933
                    obtain ⟨A1937, c1938, rfl, -⟩ := r1936.form
                    refine wpn_q hO 1 [] [(1, .pointer (some ⟨b2, 0, none⟩)), (3, .int .i64 (IntKind.i64.wrap (x1624 + (minI (y1839.Fields.length : Int) 32768)))), (4, .int .i64 x700), (5, .pointer (some ⟨b1407, 0, none⟩)), (6, .int .i64 x1627), (7, .int .i64 x1903), (88, .int .i64 x1903), (93, .pointer (some (a1932.add 5)))] (ar (ar (ar (ar (ar (ar (ar (ar trivial)))))))) fun j => ?_
                    refine wpn_ld rfl ((m1934.le hO.base).one 5 rfl) ?_
                    refine wpn_qa hO [] [(1, .pointer (some ⟨b2, 0, none⟩)), (3, .int .i64 (IntKind.i64.wrap (x1624 + (minI (y1839.Fields.length : Int) 32768)))), (4, .int .i64 x700), (5, .pointer (some ⟨b1407, 0, none⟩)), (6, .int .i64 x1627), (7, .int .i64 x1903), (96, .bool (decide (x1903 < (y1930.Fields.length : Int))))] (ar (ar (ar (ar (ar (ar (ar trivial))))))) fun j => ?_
                    rcases ite_some hF with ⟨hb1939, hF⟩ | ⟨hb1939, hF⟩
                    · refine wpn_cT (congrArg Value.bool hb1939) ?_
                      refine wpn_sk ?_
                      refine wpn_bl ?_
                      refine wpn_q hO 3 [1] [(1, .pointer (some ⟨b2, 0, none⟩)), (3, .int .i64 (IntKind.i64.wrap (x1624 + (minI (y1839.Fields.length : Int) 32768)))), (4, .int .i64 x700), (5, .pointer (some ⟨b1407, 0, none⟩)), (6, .int .i64 x1627), (7, .int .i64 x1903), (100, .slice A1401 y1394.Vars.length c1402), (101, .int .i64 x1627)] (And.intro (And.intro rfl rfl) (ar (ar (ar (ar (ar (ar (ar (ar trivial))))))))) fun j => ?_
                      obtain ⟨y1940, g1941, hF⟩ := bind_some hF
                      refine wpn_idx (T := zn) r1901 hO.base rfl rfl g1941 (by decide) fun a1942 _ k1943 m1944 => ?_
                      obtain ⟨v1945, rfl, r1946⟩ := k1943
                      obtain ⟨A1947, c1948, rfl, -⟩ := r1946.form
                      refine wpn_q hO 1 [] [(1, .pointer (some ⟨b2, 0, none⟩)), (3, .int .i64 (IntKind.i64.wrap (x1624 + (minI (y1839.Fields.length : Int) 32768)))), (4, .int .i64 x700), (5, .pointer (some ⟨b1407, 0, none⟩)), (6, .int .i64 x1627), (7, .int .i64 x1903), (103, .pointer (some (a1942.add 5)))] (ar (ar (ar (ar (ar (ar (ar trivial))))))) fun j => ?_
                      refine wpn_ld rfl ((m1944.le hO.base).one 5 rfl) ?_
                      refine wpn_q hO 1 [] [(1, .pointer (some ⟨b2, 0, none⟩)), (3, .int .i64 (IntKind.i64.wrap (x1624 + (minI (y1839.Fields.length : Int) 32768)))), (4, .int .i64 x700), (5, .pointer (some ⟨b1407, 0, none⟩)), (6, .int .i64 x1627), (7, .int .i64 x1903), (104, .slice A1947 y1940.Fields.length c1948), (105, .int .i64 x1903)] (ar (ar (ar (ar (ar (ar (ar (ar trivial)))))))) fun j => ?_
                      obtain ⟨y1949, g1950, hF⟩ := bind_some hF
                      refine wpn_idx (T := Ty.str) r1946 hO.base rfl rfl g1950 (by decide) fun a1951 _ k1952 m1953 => ?_
                      obtain rfl : _ = ([.string y1949] : List Value) := k1952
                      refine wpn_ld rfl (m1953.le hO.base).fst ?_
                      refine wpn_qa hO [] [(1, .pointer (some ⟨b2, 0, none⟩)), (3, .int .i64 (IntKind.i64.wrap (x1624 + (minI (y1839.Fields.length : Int) 32768)))), (4, .int .i64 x700), (5, .pointer (some ⟨b1407, 0, none⟩)), (6, .int .i64 x1627), (7, .int .i64 x1903), (109, .bool (decide ((y1949.size : Int) > 1000)))] (ar (ar (ar (ar (ar (ar (ar trivial))))))) fun j => ?_
                      refine wpn_clast ?_
                      rcases ite_some hF with ⟨hb1954, hF⟩ | ⟨hb1954, hF⟩
                      · refine wpn_cT (congrArg Value.bool hb1954) ?_
                        refine wpn_assoc ?_
                        refine wpn_qa hO [] [(2, .bool true)] (ar trivial) fun j => ?_
                        refine wpn_rt ?_
                        refine inb_r1 ?_
                        refine thn_r1 ?_
                        refine thn_r1 ?_
                        refine inb_r1 ?_
                        refine thn_r1 ?_
                        refine inb_r1 ?_
                        refine thn_r1 ?_
                        refine thn_r1 ?_
                        refine inb_r1 ?_
                        refine thn_r1 ?_
                        refine inb_r1 ?_
                        refine thn_r1 ?_
                        refine thn_r1 ?_
                        refine inb_r1 ?_
                        refine thn_r1 ?_
                        injection hF with hF
                        subst hF
                        have hO := hO.sel [] (by decide)
                        exact hQ _ _ _ _ _ rfl hO hL ⟨rfl, rfl⟩
                      · refine wpn_cF (congrArg Value.bool hb1954) ?_
                        refine wpn_sk ?_
                        refine wpn_end ?_
                        refine inb_i ?_
                        refine thn_i ?_
                        refine wpn_rlast ?_
                        refine wpn_qa hO [] [(1, .pointer (some ⟨b2, 0, none⟩)), (3, .int .i64 (IntKind.i64.wrap (x1624 + (minI (y1839.Fields.length : Int) 32768)))), (4, .int .i64 x700), (5, .pointer (some ⟨b1407, 0, none⟩)), (6, .int .i64 x1627), (7, .int .i64 (IntKind.i64.wrap (x1903 + 1)))] (ar (ar (ar (ar (ar (ar trivial)))))) fun j => ?_
                        refine wpn_end ?_
                        refine thn_i ?_
                        exact ⟨n1929, Nat.lt_succ_self _, (IntKind.i64.wrap (x1903 + 1)), _, ar (ar (ar (ar (ar (ar trivial))))), hO, hL, r1899, r1900, r1901, r1902, hF⟩
                    · refine wpn_cF (congrArg Value.bool hb1939) ?_
                      refine wpn_ex ?_
                      refine thn_x ?_
                      refine inb_x ?_
                      refine thn_i ?_
                      refine wpn_end ?_
                      refine inb_i ?_
                      refine thn_i ?_
                      refine wpn_rlast ?_
                      refine wpn_qa hO [] [(1, .pointer (some ⟨b2, 0, none⟩)), (3, .int .i64 (IntKind.i64.wrap (x1624 + (minI (y1839.Fields.length : Int) 32768)))), (4, .int .i64 x700), (5, .pointer (some ⟨b1407, 0, none⟩)), (6, .int .i64 (IntKind.i64.wrap (x1627 + 1)))] (ar (ar (ar (ar (ar trivial))))) fun j => ?_
                      refine wpn_end ?_
                      refine thn_i ?_
                      exact ⟨n1837, Nat.lt_succ_self _, (IntKind.i64.wrap (x1624 + (minI (y1839.Fields.length : Int) 32768))), (IntKind.i64.wrap (x1627 + 1)), _, ar (ar (ar (ar (ar trivial)))), hO, hL, r1899, r1900, r1901, r1902, hF⟩
            · refine wpn_cF (congrArg Value.bool hb1838) ?_
              refine wpn_ex ?_
              refine thn_x ?_
              refine inb_x ?_
              refine thn_i ?_
              refine wpn_qa hO [] [(1, .pointer (some ⟨b2, 0, none⟩)), (3, .int .i64 x1624), (4, .int .i64 x700), (5, .pointer (some ⟨b1407, 0, none⟩)), (8, .int .i64 0)] (ar (ar (ar (ar (ar trivial))))) fun j => ?_
              refine wpn_blast ?_
              refine wpn_bl ?_
              refine wpn_lp (fun (n : Nat) e' σ' => ∃ (x1988 : Int) (x1991 : Int) (τ' : Hp), agr [(1, .pointer (some ⟨b2, 0, none⟩)), (3, .int .i64 x1988), (4, .int .i64 x700), (5, .pointer (some ⟨b1407, 0, none⟩)), (8, .int .i64 x1991)] e' ∧ Obs τ' σ' [some (b2, ⟨[.slice A0_0 p0.L.length c0_0, .slice A0_1 p0.Points.length c0_1], 25, 2, true⟩), some (b1407, ⟨[.string y1394.Name, .int .i64 y1394.From, .int .i64 y1394.To, .slice A1401 y1394.Vars.length c1402, .slice A1405 y1394.Spans.length c1406], 50, 5, true⟩)] ∧ Hp.le τ τ' ∧ RdT zj τ' (.slice A0_0 p0.L.length c0_0) p0.L ∧ RdT zl τ' (.slice A0_1 p0.Points.length c0_1) p0.Points ∧ RdT zn τ' (.slice A1401 y1394.Vars.length c1402) y1394.Vars ∧ RdT (Ty.slice zk) τ' (.slice A1405 y1394.Spans.length c1406) y1394.Spans ∧ zcD (zx p0 n1392) x700 y1394 n x1988 x1991 = some rr) big ⟨x1624, 0, _, ar (ar (ar (ar (ar trivial)))), hO, hL, r1622, r1623, r1625, r1626, hF⟩ ?_
              clear hF hO hL
              rintro n2019 e σ ⟨x1988, x1991, _, hA, hO, hL, r1986, r1987, r1989, r1990, hF⟩
              rw [← sets_agr _ _ hA]
              cases n2019 with
              | zero => exact nomatch (show none = some rr from hF)
              | succ n2019 =>
                replace hF : zcU (zcD (zx p0 n1392) x700 y1394 n2019) (zx p0 n1392) x700 y1394 x1988 x1991 = some rr := hF
                unfold zcU at hF
                refine wpn_assoc ?_
                refine wpn_qa hO [1] [(1, .pointer (some ⟨b2, 0, none⟩)), (3, .int .i64 x1988), (4, .int .i64 x700), (5, .pointer (some ⟨b1407, 0, none⟩)), (8, .int .i64 x1991), (114, .bool (decide (x1991 < (y1394.Spans.length : Int))))] (And.intro (And.intro rfl rfl) (ar (ar (ar (ar (ar (ar trivial))))))) fun j => ?_
                rcases ite_some hF with ⟨hb2020, hF⟩ | ⟨hb2020, hF⟩
                · refine wpn_cT (congrArg Value.bool hb2020) ?_
                  refine wpn_sk ?_
                  refine wpn_bl ?_
                  refine wpn_q hO 4 [1] [(1, .pointer (some ⟨b2, 0, none⟩)), (4, .int .i64 x700), (5, .pointer (some ⟨b1407, 0, none⟩)), (8, .int .i64 x1991), (117, .int .i64 x1988), (119, .slice A1405 y1394.Spans.length c1406), (120, .int .i64 x1991)] (And.intro (And.intro rfl rfl) (ar (ar (ar (ar (ar (ar (ar trivial)))))))) fun j => ?_
                  obtain ⟨y2021, g2022, hF⟩ := bind_some hF
                  refine wpn_idx (T := (Ty.slice zk)) r1990 hO.base rfl rfl g2022 (by decide) fun a2023 _ k2024 m2025 => ?_
                  obtain ⟨v2026, rfl, r2027⟩ := k2024
                  obtain ⟨A2028, c2029, rfl, -⟩ := r2027.form
                  refine wpn_ld rfl (m2025.le hO.base).fst ?_
                  refine wpn_qa hO [] [(1, .pointer (some ⟨b2, 0, none⟩)), (3, .int .i64 (IntKind.i64.wrap (x1988 + (minI (y2021.length : Int) 32768)))), (4, .int .i64 x700), (5, .pointer (some ⟨b1407, 0, none⟩)), (8, .int .i64 x1991)] (ar (ar (ar (ar (ar trivial))))) fun j => ?_
                  refine wpn_q hO 3 [] [(1, .pointer (some ⟨b2, 0, none⟩)), (3, .int .i64 (IntKind.i64.wrap (x1988 + (minI (y2021.length : Int) 32768)))), (4, .int .i64 x700), (5, .pointer (some ⟨b1407, 0, none⟩)), (8, .int .i64 x1991), (128, .bool (decide ((IntKind.i64.wrap (x1988 + (minI (y2021.length : Int) 32768))) > 2000)))] (ar (ar (ar (ar (ar (ar trivial)))))) fun j => ?_
                  obtain ⟨c2030, h2031, hF⟩ := bind_some hF
                  refine wpn_mid 2 (fun e' σ' => ∃ (τ' : Hp), agr [(135, .bool c2030), (1, .pointer (some ⟨b2, 0, none⟩)), (3, .int .i64 (IntKind.i64.wrap (x1988 + (minI (y2021.length : Int) 32768)))), (4, .int .i64 x700), (5, .pointer (some ⟨b1407, 0, none⟩)), (8, .int .i64 x1991)] e' ∧ Obs τ' σ' [some (b2, ⟨[.slice A0_0 p0.L.length c0_0, .slice A0_1 p0.Points.length c0_1], 25, 2, true⟩), some (b1407, ⟨[.string y1394.Name, .int .i64 y1394.From, .int .i64 y1394.To, .slice A1401 y1394.Vars.length c1402, .slice A1405 y1394.Spans.length c1406], 50, 5, true⟩)] ∧ Hp.le τ τ' ∧ RdT zj τ' (.slice A0_0 p0.L.length c0_0) p0.L ∧ RdT zl τ' (.slice A0_1 p0.Points.length c0_1) p0.Points ∧ RdT zn τ' (.slice A1401 y1394.Vars.length c1402) y1394.Vars ∧ RdT (Ty.slice zk) τ' (.slice A1405 y1394.Spans.length c1406) y1394.Spans) ?_ ?_
                  · have hF := h2031
                    rcases ite_some hF with ⟨hb2032, hF⟩ | ⟨hb2032, hF⟩
                    · refine wpn_gF (congrArg (fun x => isB (.bool x) false) hb2032) ?_
                      refine wpn_pk (congrArg Value.bool hb2032) ?_
                      refine wpn_nil ?_
                      injection hF with hF
                      subst hF
                      refine wpn_end ?_
                      exact ⟨rfl, _, ar (ar (ar (ar (ar (ar trivial))))), hO, hL, r1986, r1987, r1989, r1990⟩
                    · refine wpn_gT (congrArg (fun x => isB (.bool x) false) hb2032) ?_
                      refine wpn_q hO 3 [1] [(1, .pointer (some ⟨b2, 0, none⟩)), (3, .int .i64 (IntKind.i64.wrap (x1988 + (minI (y2021.length : Int) 32768)))), (4, .int .i64 x700), (5, .pointer (some ⟨b1407, 0, none⟩)), (8, .int .i64 x1991), (128, .bool (decide ((IntKind.i64.wrap (x1988 + (minI (y2021.length : Int) 32768))) > 2000))), (130, .slice A1405 y1394.Spans.length c1406), (131, .int .i64 x1991)] (And.intro (And.intro rfl rfl) (ar (ar (ar (ar (ar (ar (ar (ar trivial))))))))) fun j => ?_
                      obtain ⟨y2033, g2034, hF⟩ := bind_some hF
                      refine wpn_idx (T := (Ty.slice zk)) r1990 hO.base rfl rfl g2034 (by decide) fun a2035 _ k2036 m2037 => ?_
                      obtain ⟨v2038, rfl, r2039⟩ := k2036
                      obtain ⟨A2040, c2041, rfl, -⟩ := r2039.form
                      refine wpn_ld rfl (m2037.le hO.base).fst ?_
                      obtain ⟨c2042, h2043, hF⟩ := bind_some hF
                      refine wpn_c0 hO (zem r2039 h2043) rfl fun _ σ _ _ hO h2044 h2045 => ?_
                      have hL := hL.trans h2044
                      have r1990 := r1990.le h2044
                      have m2037 := m2037.le h2044
                      have r2039 := r2039.le h2044
                      have r1986 := r1986.le h2044
                      have r1987 := r1987.le h2044
                      have r1989 := r1989.le h2044
                      obtain ⟨rfl, rfl⟩ := h2045
                      have hO : Obs _ _ [_, _] := hO
                      refine wpn_pk (congrArg Value.bool hb2032) ?_
                      refine wpn_nil ?_
                      injection hF with hF
                      subst hF
                      refine wpn_end ?_
                      exact ⟨rfl, _, ar (ar (ar (ar (ar (ar trivial))))), hO, hL, r1986, r1987, r1989, r1990⟩
                  · rintro e σ ⟨_, hA, hO, hL, r1986, r1987, r1989, r1990⟩
                    rw [← sets_agr _ _ hA]
                    refine wpn_nil ?_
                    refine wpn_clast ?_
                    rcases ite_some hF with ⟨hb2046, hF⟩ | ⟨hb2046, hF⟩
                    · refine wpn_cT (congrArg Value.bool hb2046) ?_
                      refine wpn_assoc ?_
                      refine wpn_qa hO [] [(2, .bool true)] (ar trivial) fun j => ?_
                      refine wpn_rt ?_
                      refine inb_r1 ?_
                      refine thn_r1 ?_
                      refine thn_r1 ?_
                      refine inb_r1 ?_
                      refine thn_r1 ?_
                      refine inb_r1 ?_
                      refine thn_r1 ?_
                      refine thn_r1 ?_
                      refine inb_r1 ?_
                      refine thn_r1 ?_
                      injection hF with hF
                      subst hF
                      have hO := hO.sel [] (by decide)
                      exact hQ _ _ _ _ _ rfl hO hL ⟨rfl, rfl⟩
                    · refine wpn_cF (congrArg Value.bool hb2046) ?_
                      refine wpn_sk ?_
                      refine wpn_end ?_
                      refine inb_i ?_
                      refine thn_i ?_
                      refine wpn_rlast ?_
                      refine wpn_qa hO [] [(1, .pointer (some ⟨b2, 0, none⟩)), (3, .int .i64 (IntKind.i64.wrap (x1988 + (minI (y2021.length : Int) 32768)))), (4, .int .i64 x700), (5, .pointer (some ⟨b1407, 0, none⟩)), (8, .int .i64 (IntKind.i64.wrap (x1991 + 1)))] (ar (ar (ar (ar (ar trivial))))) fun j => ?_
                      refine wpn_end ?_
                      refine thn_i ?_
                      exact ⟨n2019, Nat.lt_succ_self _, (IntKind.i64.wrap (x1988 + (minI (y2021.length : Int) 32768))), (IntKind.i64.wrap (x1991 + 1)), _, ar (ar (ar (ar (ar trivial)))), hO, hL, r1986, r1987, r1989, r1990, hF⟩
                · refine wpn_cF (congrArg Value.bool hb2020) ?_
                  refine wpn_ex ?_
                  refine thn_x ?_
                  refine inb_x ?_
                  refine thn_i ?_
                  refine wpn_end ?_
                  refine inb_i ?_
                  refine thn_i ?_
                  refine wpn_rlast ?_
                  refine wpn_qa hO [] [(1, .pointer (some ⟨b2, 0, none⟩)), (3, .int .i64 x1988), (4, .int .i64 (IntKind.i64.wrap (x700 + 1)))] (ar (ar (ar trivial))) fun j => ?_
                  refine wpn_end ?_
                  refine thn_i ?_
                  have hO := hO.sel [0] (by decide)
                  exact ⟨n1392, Nat.lt_succ_self _, x1988, (IntKind.i64.wrap (x700 + 1)), _, ar (ar (ar trivial)), hO, hL, r1986, r1987, hF⟩
      · refine wpn_cF (congrArg Value.bool hb1393) ?_
        refine wpn_ex ?_
        refine thn_x ?_
        refine inb_x ?_
        refine thn_i ?_
        refine wpn_assoc ?_
        refine wpn_qa hO [] [(1, .pointer (some ⟨b2, 0, none⟩)), (3, .int .i64 x699), (9, .int .i64 0)] (ar (ar (ar trivial))) fun j => ?_
        refine wpn_bl ?_
        refine wpn_lp (fun (n : Nat) e' σ' => ∃ (x2061 : Int) (x2062 : Int) (τ' : Hp), agr [(1, .pointer (some ⟨b2, 0, none⟩)), (3, .int .i64 x2061), (9, .int .i64 x2062)] e' ∧ Obs τ' σ' [some (b2, ⟨[.slice A0_0 p0.L.length c0_0, .slice A0_1 p0.Points.length c0_1], 25, 2, true⟩)] ∧ Hp.le τ τ' ∧ RdT zj τ' (.slice A0_0 p0.L.length c0_0) p0.L ∧ RdT zl τ' (.slice A0_1 p0.Points.length c0_1) p0.Points ∧ zcG p0 n x2061 x2062 = some rr) big ⟨x699, 0, _, ar (ar (ar trivial)), hO, hL, r697, r698, hF⟩ ?_
        clear hF hO hL
        rintro n2073 e σ ⟨x2061, x2062, _, hA, hO, hL, r2059, r2060, hF⟩
        rw [← sets_agr _ _ hA]
        cases n2073 with
        | zero => exact nomatch (show none = some rr from hF)
        | succ n2073 =>
          replace hF : zbT (zcG p0 n2073) p0 x2061 x2062 = some rr := hF
          unfold zbT at hF
          refine wpn_assoc ?_
          refine wpn_qa hO [0] [(1, .pointer (some ⟨b2, 0, none⟩)), (3, .int .i64 x2061), (9, .int .i64 x2062), (140, .bool (decide (x2062 < (p0.Points.length : Int))))] (And.intro (And.intro rfl rfl) (ar (ar (ar (ar trivial))))) fun j => ?_
          rcases ite_some hF with ⟨hb2074, hF⟩ | ⟨hb2074, hF⟩
          · refine wpn_cT (congrArg Value.bool hb2074) ?_
            refine wpn_sk ?_
            refine wpn_bl ?_
            refine wpn_rlast ?_
            refine wpn_q hO 4 [0] [(1, .pointer (some ⟨b2, 0, none⟩)), (9, .int .i64 x2062), (143, .int .i64 x2061), (145, .slice A0_1 p0.Points.length c0_1), (146, .int .i64 x2062)] (And.intro (And.intro rfl rfl) (ar (ar (ar (ar (ar trivial)))))) fun j => ?_
            obtain ⟨y2075, g2076, hF⟩ := bind_some hF
            refine wpn_idx (T := zl) r2060 hO.base rfl rfl g2076 (by decide) fun a2077 _ k2078 m2079 => ?_
            obtain ⟨v2080, rfl, r2081⟩ := k2078
            obtain ⟨A2082, c2083, rfl, -⟩ := r2081.form
            refine wpn_q hO 1 [] [(1, .pointer (some ⟨b2, 0, none⟩)), (9, .int .i64 x2062), (143, .int .i64 x2061), (148, .pointer (some (a2077.add 2)))] (ar (ar (ar (ar trivial)))) fun j => ?_
            refine wpn_ld rfl ((m2079.le hO.base).one 2 rfl) ?_
            refine wpn_qa hO [] [(1, .pointer (some ⟨b2, 0, none⟩)), (3, .int .i64 (IntKind.i64.wrap (x2061 + (minI (y2075.Scope.length : Int) 32768)))), (9, .int .i64 x2062)] (ar (ar (ar trivial))) fun j => ?_
            refine wpn_end ?_
            refine inb_i ?_
            refine thn_i ?_
            refine wpn_rlast ?_
            refine wpn_qa hO [] [(1, .pointer (some ⟨b2, 0, none⟩)), (3, .int .i64 (IntKind.i64.wrap (x2061 + (minI (y2075.Scope.length : Int) 32768)))), (9, .int .i64 (IntKind.i64.wrap (x2062 + 1)))] (ar (ar (ar trivial))) fun j => ?_
            refine wpn_end ?_
            refine thn_i ?_
            exact ⟨n2073, Nat.lt_succ_self _, (IntKind.i64.wrap (x2061 + (minI (y2075.Scope.length : Int) 32768))), (IntKind.i64.wrap (x2062 + 1)), _, ar (ar (ar trivial)), hO, hL, r2059, r2060, hF⟩
          · refine wpn_cF (congrArg Value.bool hb2074) ?_
            refine wpn_ex ?_
            refine thn_x ?_
            refine inb_x ?_
            refine thn_i ?_
            refine wpn_qa hO [] [(2, .bool (decide (x2061 > 20000)))] (ar trivial) fun j => ?_
            refine wpn_r1 ?_
            injection hF with hF
            subst hF
            have hO := hO.sel [] (by decide)
            exact hQ _ _ _ _ _ rfl hO hL ⟨rfl, rfl⟩
theorem zfu {τ : Hp} {v0 : Value} {p0 : (List zc)} {p1 : Int} (r0 : RdT zj τ v0 p0) {rr : Int × Bool} (hF : zdM p0 p1 = some rr) :
    Ctr Try.prog 10 #[v0, .int .i64 p1] τ [] (fun v τ' vs' => v = .tuple #[.int .i64 rr.1, .bool rr.2] ∧ vs' = []) := by
  obtain ⟨A0, c0, rfl, -⟩ := r0.form
  refine ctr_of (args := [.slice A0 p0.length c0, .int .i64 p1]) hm Try.func10 s10 rfl fun w0 σ hO Q hQ => ?_
  unfold zdM at hF
  have hL := Hp.le.refl τ
  show wpn _ _ a10.body _ _ _
  unfold a10
  dsimp only
  refine wpn_qa hO [] [(0, .slice A0 p0.length c0), (1, .int .i64 p1)] (ar (ar trivial)) fun j => ?_
  refine wpn_assoc ?_
  refine wpn_qa hO [] [(1, .int .i64 p1), (8, .slice A0 p0.length c0), (9, .int .i64 (p0.length : Int)), (10, .int .i64 0)] (ar (ar (ar (ar trivial)))) fun j => ?_
  refine wpn_bl ?_
  refine wpn_lp (fun (n : Nat) e' σ' => ∃ (x21 : Int) (τ' : Hp), agr [(1, .int .i64 p1), (8, .slice A0 p0.length c0), (9, .int .i64 (p0.length : Int)), (10, .int .i64 x21)] e' ∧ Obs τ' σ' [] ∧ Hp.le τ τ' ∧ RdT zj τ' (.slice A0 p0.length c0) p0 ∧ zdx p0 p1 n x21 = some rr) big ⟨0, _, ar (ar (ar (ar trivial))), hO, hL, r0, hF⟩ ?_
  clear hF hO hL
  rintro n38 e σ ⟨x21, _, hA, hO, hL, r20, hF⟩
  rw [← sets_agr _ _ hA]
  cases n38 with
  | zero => exact nomatch (show none = some rr from hF)
  | succ n38 =>
    replace hF : zdN (zdx p0 p1 n38) p0 p1 x21 = some rr := hF
    unfold zdN at hF
    refine wpn_qa hO [] [(1, .int .i64 p1), (8, .slice A0 p0.length c0), (9, .int .i64 (p0.length : Int)), (10, .int .i64 x21), (11, .bool (decide (x21 < (p0.length : Int))))] (ar (ar (ar (ar (ar trivial))))) fun j => ?_
    rcases ite_some hF with ⟨hb39, hF⟩ | ⟨hb39, hF⟩
    · refine wpn_cT (congrArg Value.bool hb39) ?_
      refine wpn_sk ?_
      refine wpn_bl ?_
      refine wpn_q hO 1 [] [(1, .int .i64 p1), (8, .slice A0 p0.length c0), (9, .int .i64 (p0.length : Int)), (10, .int .i64 x21), (12, .int .i64 x21)] (ar (ar (ar (ar (ar trivial))))) fun j => ?_
      obtain ⟨y40, g41, hF⟩ := bind_some hF
      refine wpn_idx (T := zj) r20 hO.base rfl rfl g41 (by decide) fun a42 _ k43 m44 => ?_
      obtain ⟨v45, v49, rfl, r46, r50⟩ := k43
      obtain ⟨A47, c48, rfl, -⟩ := r46.form
      obtain ⟨A51, c52, rfl, -⟩ := r50.form
      refine wpn_ld rfl ((m44.le hO.base).all rfl) ?_
      refine wpn_al hO fun b53 σ hO => ?_
      have hO : Obs _ _ [_] := hO
      refine wpn_q hO 1 [] [(1, .int .i64 p1), (6, .int .i64 x21), (7, .pointer (some ⟨b53, 0, none⟩)), (8, .slice A0 p0.length c0), (9, .int .i64 (p0.length : Int)), (10, .int .i64 x21), (14, .agg #[(.string y40.Name), (.int .i64 y40.From), (.int .i64 y40.To), (.slice A47 y40.Vars.length c48), (.slice A51 y40.Spans.length c52)])] (ar (ar (ar (ar (ar (ar (ar trivial))))))) fun j => ?_
      refine wpn_st hO (i := 0) rfl (off := 0) rfl rfl rfl rfl (Nat.le_of_ble_eq_true rfl) rfl fun σ hO => ?_
      have hO : Obs _ _ [_] := hO
      refine wpn_nil ?_
      refine wpn_qa hO [0, 0] [(1, .int .i64 p1), (6, .int .i64 x21), (8, .slice A0 p0.length c0), (9, .int .i64 (p0.length : Int)), (10, .int .i64 x21), (24, .bool ((decide (y40.From ≤ p1)) && (decide (p1 < y40.To))))] (And.intro (And.intro rfl rfl) (And.intro (And.intro rfl rfl) (And.intro (And.intro rfl rfl) (fun _ => ar (ar (ar (ar (ar (ar trivial))))))))) fun j => ?_
      refine wpn_clast ?_
      rcases ite_some hF with ⟨hb54, hF⟩ | ⟨hb54, hF⟩
      · refine wpn_cT (congrArg Value.bool hb54) ?_
        refine wpn_assoc ?_
        refine wpn_qa hO [] [(4, .int .i64 x21), (5, .bool true)] (ar (ar trivial)) fun j => ?_
        refine wpn_rt ?_
        refine inb_r1 ?_
        refine thn_r1 ?_
        refine thn_r1 ?_
        refine inb_r1 ?_
        refine thn_r1 ?_
        injection hF with hF
        subst hF
        have hO := hO.sel [] (by decide)
        exact hQ _ _ _ _ _ rfl hO hL ⟨rfl, rfl⟩
      · refine wpn_cF (congrArg Value.bool hb54) ?_
        refine wpn_sk ?_
        refine wpn_end ?_
        refine inb_i ?_
        refine thn_i ?_
        refine wpn_rlast ?_
        refine wpn_qa hO [] [(1, .int .i64 p1), (8, .slice A0 p0.length c0), (9, .int .i64 (p0.length : Int)), (10, .int .i64 (IntKind.i64.wrap (x21 + 1)))] (ar (ar (ar (ar trivial)))) fun j => ?_
        refine wpn_end ?_
        refine thn_i ?_
        have hO := hO.sel [] (by decide)
        exact ⟨n38, Nat.lt_succ_self _, (IntKind.i64.wrap (x21 + 1)), _, ar (ar (ar (ar trivial))), hO, hL, r20, hF⟩
    · refine wpn_cF (congrArg Value.bool hb39) ?_
      refine wpn_ex ?_
      refine thn_x ?_
      refine inb_x ?_
      refine thn_i ?_
      refine wpn_qa hO [] [(4, .int .i64 0), (5, .bool false)] (ar (ar trivial)) fun j => ?_
      refine wpn_r1 ?_
      injection hF with hF
      subst hF
      exact hQ _ _ _ _ _ rfl hO hL ⟨rfl, rfl⟩
theorem zeu {τ : Hp} {v0 : Value} {p0 : (List zc)} {v1 : Value} {p1 : (List zi)} {p2 : Int} {p3 : ByteArray} (r0 : RdT zj τ v0 p0) (r1 : RdT zl τ v1 p1) {rr : Int × Bool} (hF : zdP p0 p1 p2 p3 = some rr) :
    Ctr Try.prog 12 #[v0, v1, .int .i64 p2, .string p3] τ [] (fun v τ' vs' => v = .tuple #[.int .i64 rr.1, .bool rr.2] ∧ vs' = []) := by
  obtain ⟨A0, c0, rfl, -⟩ := r0.form
  obtain ⟨A1, c1, rfl, -⟩ := r1.form
  refine ctr_of (args := [.slice A0 p0.length c0, .slice A1 p1.length c1, .int .i64 p2, .string p3]) hm Try.func12 s12 rfl fun w0 σ hO Q hQ => ?_
  unfold zdP at hF
  have hL := Hp.le.refl τ
  show wpn _ _ a12.body _ _ _
  unfold a12
  dsimp only
  refine wpn_qa hO [] [(0, .slice A0 p0.length c0), (1, .slice A1 p1.length c1), (2, .int .i64 p2), (3, .string p3), (8, .int .i64 0), (9, .bool false)] (ar (ar (ar (ar (ar (ar trivial)))))) fun j => ?_
  refine wpn_assoc ?_
  refine wpn_qa hO [] [(0, .slice A0 p0.length c0), (1, .slice A1 p1.length c1), (2, .int .i64 p2), (3, .string p3), (8, .int .i64 0), (9, .bool false), (21, .bool ((decide (p2 < 0)) || (decide (p2 ≥ (p1.length : Int)))))] (And.intro (And.intro rfl rfl) (fun _ => ar (ar (ar (ar (ar (ar (ar trivial)))))))) fun j => ?_
  rcases ite_some hF with ⟨hb5, hF⟩ | ⟨hb5, hF⟩
  · refine wpn_cT (congrArg Value.bool hb5) ?_
    refine wpn_assoc ?_
    refine wpn_qa hO [] [(8, .int .i64 0), (9, .bool false)] (ar (ar trivial)) fun j => ?_
    refine wpn_rt ?_
    injection hF with hF
    subst hF
    exact hQ _ _ _ _ _ rfl hO hL ⟨rfl, rfl⟩
  · refine wpn_cF (congrArg Value.bool hb5) ?_
    refine wpn_sk ?_
    refine wpn_q hO 2 [] [(0, .slice A0 p0.length c0), (3, .string p3), (8, .int .i64 0), (9, .bool false), (22, .slice A1 p1.length c1), (23, .int .i64 p2)] (ar (ar (ar (ar (ar (ar trivial)))))) fun j => ?_
    obtain ⟨y6, g7, hF⟩ := bind_some hF
    refine wpn_idx (T := zl) r1 hO.base rfl rfl g7 (by decide) fun a8 _ k9 m10 => ?_
    obtain ⟨v11, rfl, r12⟩ := k9
    obtain ⟨A13, c14, rfl, -⟩ := r12.form
    refine wpn_ld rfl ((m10.le hO.base).all rfl) ?_
    refine wpn_al hO fun b15 σ hO => ?_
    have hO : Obs _ _ [_] := hO
    refine wpn_st hO (i := 0) rfl (off := 0) rfl rfl rfl rfl (Nat.le_of_ble_eq_true rfl) rfl fun σ hO => ?_
    have hO : Obs _ _ [_] := hO
    refine wpn_nil ?_
    refine wpn_assoc ?_
    refine wpn_qa hO [0, 0] [(0, .slice A0 p0.length c0), (3, .string p3), (8, .int .i64 0), (9, .bool false), (10, .pointer (some ⟨b15, 0, none⟩)), (35, .bool ((decide (y6.Func < 0)) || (decide (y6.Func ≥ (p0.length : Int)))))] (And.intro (And.intro rfl rfl) (And.intro (And.intro rfl rfl) (And.intro (And.intro rfl rfl) (fun _ => ar (ar (ar (ar (ar (ar trivial))))))))) fun j => ?_
    rcases ite_some hF with ⟨hb16, hF⟩ | ⟨hb16, hF⟩
    · refine wpn_cT (congrArg Value.bool hb16) ?_
      refine wpn_assoc ?_
      refine wpn_qa hO [] [(8, .int .i64 0), (9, .bool false)] (ar (ar trivial)) fun j => ?_
      refine wpn_rt ?_
      injection hF with hF
      subst hF
      have hO := hO.sel [] (by decide)
      exact hQ _ _ _ _ _ rfl hO hL ⟨rfl, rfl⟩
    · refine wpn_cF (congrArg Value.bool hb16) ?_
      refine wpn_sk ?_
      refine wpn_assoc ?_
      refine wpn_qa hO [0] [(0, .slice A0 p0.length c0), (3, .string p3), (8, .int .i64 0), (9, .bool false), (10, .pointer (some ⟨b15, 0, none⟩)), (37, .slice A13 y6.Scope.length c14), (38, .int .i64 (y6.Scope.length : Int)), (39, .int .i64 0)] (And.intro (And.intro rfl rfl) (ar (ar (ar (ar (ar (ar (ar (ar trivial))))))))) fun j => ?_
      refine wpn_bl ?_
      refine wpn_lp (fun (n : Nat) e' σ' => ∃ (x53 : Int) (x54 : Bool) (x57 : Int) (τ' : Hp), agr [(0, .slice A0 p0.length c0), (3, .string p3), (8, .int .i64 x53), (9, .bool x54), (10, .pointer (some ⟨b15, 0, none⟩)), (37, .slice A13 y6.Scope.length c14), (38, .int .i64 (y6.Scope.length : Int)), (39, .int .i64 x57)] e' ∧ Obs τ' σ' [some (b15, ⟨[.int .i64 y6.Func, .int .i64 y6.Line, .slice A13 y6.Scope.length c14], 59, 3, true⟩)] ∧ Hp.le τ τ' ∧ RdT zj τ' (.slice A0 p0.length c0) p0 ∧ RdT (Ty.int .i64) τ' (.slice A13 y6.Scope.length c14) y6.Scope ∧ RdT (Ty.int .i64) τ' (.slice A13 y6.Scope.length c14) y6.Scope ∧ zdp p0 p3 y6 n x53 x54 x57 = some rr) big ⟨0, false, 0, _, ar (ar (ar (ar (ar (ar (ar (ar trivial))))))), hO, hL, r0, r12, r12, hF⟩ ?_
      clear hF hO hL
      rintro n90 e σ ⟨x53, x54, x57, _, hA, hO, hL, r52, r55, r56, hF⟩
      rw [← sets_agr _ _ hA]
      cases n90 with
      | zero => exact nomatch (show none = some rr from hF)
      | succ n90 =>
        replace hF : zdQ (zdp p0 p3 y6 n90) p0 p3 y6 x53 x54 x57 = some rr := hF
        unfold zdQ at hF
        refine wpn_qa hO [] [(0, .slice A0 p0.length c0), (3, .string p3), (8, .int .i64 x53), (9, .bool x54), (10, .pointer (some ⟨b15, 0, none⟩)), (37, .slice A13 y6.Scope.length c14), (38, .int .i64 (y6.Scope.length : Int)), (39, .int .i64 x57), (40, .bool (decide (x57 < (y6.Scope.length : Int))))] (ar (ar (ar (ar (ar (ar (ar (ar (ar trivial))))))))) fun j => ?_
        rcases ite_some hF with ⟨hb91, hF⟩ | ⟨hb91, hF⟩
        · refine wpn_cT (congrArg Value.bool hb91) ?_
          refine wpn_sk ?_
          refine wpn_bl ?_
          obtain ⟨y92, g93, hF⟩ := bind_some hF
          refine wpn_idx (T := (Ty.int .i64)) r56 hO.base rfl rfl g93 (by decide) fun a94 _ k95 m96 => ?_
          obtain rfl : _ = ([.int .i64 y92] : List Value) := k95
          refine wpn_ld rfl (m96.le hO.base).fst ?_
          refine wpn_qa hO [] [(0, .slice A0 p0.length c0), (3, .string p3), (8, .int .i64 x53), (9, .bool x54), (10, .pointer (some ⟨b15, 0, none⟩)), (12, .int .i64 y92), (37, .slice A13 y6.Scope.length c14), (38, .int .i64 (y6.Scope.length : Int)), (39, .int .i64 x57)] (ar (ar (ar (ar (ar (ar (ar (ar (ar trivial))))))))) fun j => ?_
          refine wpn_q hO 3 [0] [(0, .slice A0 p0.length c0), (3, .string p3), (8, .int .i64 x53), (9, .bool x54), (10, .pointer (some ⟨b15, 0, none⟩)), (12, .int .i64 y92), (37, .slice A13 y6.Scope.length c14), (38, .int .i64 (y6.Scope.length : Int)), (39, .int .i64 x57), (43, .slice A0 p0.length c0), (45, .int .i64 y6.Func)] (And.intro (And.intro rfl rfl) (ar (ar (ar (ar (ar (ar (ar (ar (ar (ar (ar trivial)))))))))))) fun j => ?_
          obtain ⟨y97, g98, hF⟩ := bind_some hF
          refine wpn_idx (T := zj) r52 hO.base rfl rfl g98 (by decide) fun a99 _ k100 m101 => ?_
          obtain ⟨v102, v106, rfl, r103, r107⟩ := k100
          obtain ⟨A104, c105, rfl, -⟩ := r103.form
          obtain ⟨A108, c109, rfl, -⟩ := r107.form
          refine wpn_q hO 1 [] [(0, .slice A0 p0.length c0), (3, .string p3), (8, .int .i64 x53), (9, .bool x54), (10, .pointer (some ⟨b15, 0, none⟩)), (12, .int .i64 y92), (37, .slice A13 y6.Scope.length c14), (38, .int .i64 (y6.Scope.length : Int)), (39, .int .i64 x57), (47, .pointer (some (a99.add 3)))] (ar (ar (ar (ar (ar (ar (ar (ar (ar (ar trivial)))))))))) fun j => ?_
          refine wpn_ld rfl ((m101.le hO.base).one 3 rfl) ?_
          refine wpn_qa hO [] [(0, .slice A0 p0.length c0), (3, .string p3), (8, .int .i64 x53), (9, .bool x54), (10, .pointer (some ⟨b15, 0, none⟩)), (12, .int .i64 y92), (13, .slice A104 y97.Vars.length c105), (37, .slice A13 y6.Scope.length c14), (38, .int .i64 (y6.Scope.length : Int)), (39, .int .i64 x57)] (ar (ar (ar (ar (ar (ar (ar (ar (ar (ar trivial)))))))))) fun j => ?_
          refine wpn_q hO 6 [] [(0, .slice A0 p0.length c0), (3, .string p3), (8, .int .i64 x53), (9, .bool x54), (10, .pointer (some ⟨b15, 0, none⟩)), (12, .int .i64 y92), (13, .slice A104 y97.Vars.length c105), (37, .slice A13 y6.Scope.length c14), (38, .int .i64 (y6.Scope.length : Int)), (39, .int .i64 x57), (57, .bool ((decide (y92 ≥ 0)) && (decide (y92 < (y97.Vars.length : Int)))))] (And.intro (And.intro rfl rfl) (fun _ => ar (ar (ar (ar (ar (ar (ar (ar (ar (ar (ar trivial)))))))))))) fun j => ?_
          obtain ⟨c110, h111, hF⟩ := bind_some hF
          refine wpn_midq 2 [(65, .bool c110), (0, .slice A0 p0.length c0), (3, .string p3), (8, .int .i64 x53), (9, .bool x54), (10, .pointer (some ⟨b15, 0, none⟩)), (12, .int .i64 y92), (37, .slice A13 y6.Scope.length c14), (38, .int .i64 (y6.Scope.length : Int)), (39, .int .i64 x57)] (fun Q hQ => ?_) fun j => ?_
          · have hF := h111
            rcases ite_some hF with ⟨hb112, hF⟩ | ⟨hb112, hF⟩
            · refine wpn_gT (congrArg (fun x => isB (.bool x) true) hb112) ?_
              refine wpn_q hO 2 [] [(0, .slice A0 p0.length c0), (3, .string p3), (8, .int .i64 x53), (9, .bool x54), (10, .pointer (some ⟨b15, 0, none⟩)), (12, .int .i64 y92), (37, .slice A13 y6.Scope.length c14), (38, .int .i64 (y6.Scope.length : Int)), (39, .int .i64 x57), (57, .bool ((decide (y92 ≥ 0)) && (decide (y92 < (y97.Vars.length : Int))))), (58, .slice A104 y97.Vars.length c105), (59, .int .i64 y92)] (ar (ar (ar (ar (ar (ar (ar (ar (ar (ar (ar (ar trivial)))))))))))) fun j => ?_
              obtain ⟨y113, g114, hF⟩ := bind_some hF
              refine wpn_idx (T := zn) r103 hO.base rfl rfl g114 (by decide) fun a115 _ k116 m117 => ?_
              obtain ⟨v118, rfl, r119⟩ := k116
              obtain ⟨A120, c121, rfl, -⟩ := r119.form
              refine wpn_q hO 1 [] [(0, .slice A0 p0.length c0), (3, .string p3), (8, .int .i64 x53), (9, .bool x54), (10, .pointer (some ⟨b15, 0, none⟩)), (12, .int .i64 y92), (37, .slice A13 y6.Scope.length c14), (38, .int .i64 (y6.Scope.length : Int)), (39, .int .i64 x57), (57, .bool ((decide (y92 ≥ 0)) && (decide (y92 < (y97.Vars.length : Int))))), (61, .pointer (some a115))] (ar (ar (ar (ar (ar (ar (ar (ar (ar (ar (ar trivial))))))))))) fun j => ?_
              refine wpn_ld rfl (m117.le hO.base).fst ?_
              refine wpn_q hO 2 [] [(0, .slice A0 p0.length c0), (3, .string p3), (8, .int .i64 x53), (9, .bool x54), (10, .pointer (some ⟨b15, 0, none⟩)), (12, .int .i64 y92), (37, .slice A13 y6.Scope.length c14), (38, .int .i64 (y6.Scope.length : Int)), (39, .int .i64 x57), (57, .bool ((decide (y92 ≥ 0)) && (decide (y92 < (y97.Vars.length : Int))))), (64, .bool (strEq y113.Name p3))] (ar (ar (ar (ar (ar (ar (ar (ar (ar (ar (ar trivial))))))))))) fun j => ?_
              refine wpn_pk (congrArg Value.bool hb112) ?_
              refine wpn_nil ?_
              injection hF with hF
              subst hF
              refine wpn_end ?_
              exact hQ _ (ar (ar (ar (ar (ar (ar (ar (ar (ar (ar trivial))))))))))
            · refine wpn_gF (congrArg (fun x => isB (.bool x) true) hb112) ?_
              refine wpn_pk (congrArg Value.bool hb112) ?_
              refine wpn_nil ?_
              injection hF with hF
              subst hF
              refine wpn_end ?_
              exact hQ _ (ar (ar (ar (ar (ar (ar (ar (ar (ar (ar trivial))))))))))
          · refine wpn_nil ?_
            refine wpn_clast ?_
            rcases ite_some hF with ⟨hb122, hF⟩ | ⟨hb122, hF⟩
            · refine wpn_cT (congrArg Value.bool hb122) ?_
              refine wpn_qa hO [] [(0, .slice A0 p0.length c0), (3, .string p3), (8, .int .i64 y92), (9, .bool true), (10, .pointer (some ⟨b15, 0, none⟩)), (37, .slice A13 y6.Scope.length c14), (38, .int .i64 (y6.Scope.length : Int)), (39, .int .i64 x57)] (ar (ar (ar (ar (ar (ar (ar (ar trivial)))))))) fun j => ?_
              refine wpn_end ?_
              refine inb_i ?_
              refine thn_i ?_
              refine wpn_rlast ?_
              refine wpn_qa hO [] [(0, .slice A0 p0.length c0), (3, .string p3), (8, .int .i64 y92), (9, .bool true), (10, .pointer (some ⟨b15, 0, none⟩)), (37, .slice A13 y6.Scope.length c14), (38, .int .i64 (y6.Scope.length : Int)), (39, .int .i64 (IntKind.i64.wrap (x57 + 1)))] (ar (ar (ar (ar (ar (ar (ar (ar trivial)))))))) fun j => ?_
              refine wpn_end ?_
              refine thn_i ?_
              exact ⟨n90, Nat.lt_succ_self _, y92, true, (IntKind.i64.wrap (x57 + 1)), _, ar (ar (ar (ar (ar (ar (ar (ar trivial))))))), hO, hL, r52, r55, r56, hF⟩
            · refine wpn_cF (congrArg Value.bool hb122) ?_
              refine wpn_sk ?_
              refine wpn_end ?_
              refine inb_i ?_
              refine thn_i ?_
              refine wpn_rlast ?_
              refine wpn_qa hO [] [(0, .slice A0 p0.length c0), (3, .string p3), (8, .int .i64 x53), (9, .bool x54), (10, .pointer (some ⟨b15, 0, none⟩)), (37, .slice A13 y6.Scope.length c14), (38, .int .i64 (y6.Scope.length : Int)), (39, .int .i64 (IntKind.i64.wrap (x57 + 1)))] (ar (ar (ar (ar (ar (ar (ar (ar trivial)))))))) fun j => ?_
              refine wpn_end ?_
              refine thn_i ?_
              exact ⟨n90, Nat.lt_succ_self _, x53, x54, (IntKind.i64.wrap (x57 + 1)), _, ar (ar (ar (ar (ar (ar (ar (ar trivial))))))), hO, hL, r52, r55, r56, hF⟩
        · refine wpn_cF (congrArg Value.bool hb91) ?_
          refine wpn_ex ?_
          refine thn_x ?_
          refine inb_x ?_
          refine thn_i ?_
          refine wpn_qa hO [] [(8, .int .i64 x53), (9, .bool x54)] (ar (ar trivial)) fun j => ?_
          refine wpn_r1 ?_
          injection hF with hF
          subst hF
          have hO := hO.sel [] (by decide)
          exact hQ _ _ _ _ _ rfl hO hL ⟨rfl, rfl⟩
theorem zfx {τ : Hp} {p0 : zh} {v0_5 : Value} {p1 : zh} {v1_5 : Value} (r0_5 : RdT Ty.str τ v0_5 p0.Fields) (r1_5 : RdT Ty.str τ v1_5 p1.Fields) {rr : Bool} (hF : zbc p0 p1 = some rr) :
    Ctr Try.prog 24 #[.agg #[.string p0.Name, .int .u8 p0.Type_.Kind.toNat, .int .i64 p0.Type_.N, .string p0.Type_.Name, .int .i64 p0.Words, v0_5], .agg #[.string p1.Name, .int .u8 p1.Type_.Kind.toNat, .int .i64 p1.Type_.N, .string p1.Type_.Name, .int .i64 p1.Words, v1_5]] τ [] (fun v τ' vs' => v = .bool rr ∧ vs' = []) := by
  obtain ⟨A0_5, c0_5, rfl, -⟩ := r0_5.form
  obtain ⟨A1_5, c1_5, rfl, -⟩ := r1_5.form
  refine ctr_of (args := [.agg #[.string p0.Name, .int .u8 p0.Type_.Kind.toNat, .int .i64 p0.Type_.N, .string p0.Type_.Name, .int .i64 p0.Words, (.slice A0_5 p0.Fields.length c0_5)], .agg #[.string p1.Name, .int .u8 p1.Type_.Kind.toNat, .int .i64 p1.Type_.N, .string p1.Type_.Name, .int .i64 p1.Words, (.slice A1_5 p1.Fields.length c1_5)]]) hm Try.func24 s24 rfl fun w0 σ hO Q hQ => ?_
  unfold zbc at hF
  have hL := Hp.le.refl τ
  show wpn _ _ a24.body _ _ _
  unfold a24
  dsimp only
  refine wpn_bx (n := 6) hO rfl rfl fun b3 σ hO => ?_
  have hO : Obs _ _ [_] := hO
  refine wpn_bx (n := 6) hO rfl rfl fun b4 σ hO => ?_
  have hO : Obs _ _ [_, _] := hO
  refine wpn_qa hO [] [(2, .pointer (some ⟨b3, 0, none⟩)), (3, .pointer (some ⟨b4, 0, none⟩))] (ar (ar trivial)) fun j => ?_
  refine wpn_assoc ?_
  refine wpn_qa hO [0, 1, 0, 1, 0, 1, 0, 1] [(2, .pointer (some ⟨b3, 0, none⟩)), (3, .pointer (some ⟨b4, 0, none⟩)), (33, .bool ((((!(strEq p0.Name p1.Name)) || (!(( (p0.Type_.Kind.toNat : Int) == (p1.Type_.Kind.toNat : Int)) && (( p0.Type_.N == p1.Type_.N) && ((strEq p0.Type_.Name p1.Type_.Name) && true))))) || (p0.Words != p1.Words)) || ((p0.Fields.length : Int) != (p1.Fields.length : Int))))] (And.intro (And.intro rfl rfl) (And.intro (And.intro rfl rfl) (And.intro (And.intro rfl rfl) (And.intro (And.intro rfl rfl) (And.intro (And.intro rfl rfl) (fun _ => And.intro (And.intro rfl rfl) (And.intro (And.intro rfl rfl) (And.intro (And.intro rfl rfl) (fun _ => And.intro (And.intro rfl rfl) (And.intro (And.intro rfl rfl) (And.intro (And.intro rfl rfl) (fun _ => ar (ar (ar trivial)))))))))))))) fun j => ?_
  rcases ite_some hF with ⟨hb5, hF⟩ | ⟨hb5, hF⟩
  · refine wpn_cT (congrArg Value.bool hb5) ?_
    refine wpn_assoc ?_
    refine wpn_qa hO [] [(4, .bool false)] (ar trivial) fun j => ?_
    refine wpn_rt ?_
    injection hF with hF
    subst hF
    have hO := hO.sel [] (by decide)
    exact hQ _ _ _ _ _ rfl hO hL ⟨rfl, rfl⟩
  · refine wpn_cF (congrArg Value.bool hb5) ?_
    refine wpn_sk ?_
    refine wpn_assoc ?_
    refine wpn_qa hO [] [(2, .pointer (some ⟨b3, 0, none⟩)), (3, .pointer (some ⟨b4, 0, none⟩)), (5, .int .i64 0)] (ar (ar (ar trivial))) fun j => ?_
    refine wpn_bl ?_
    refine wpn_lp (fun (n : Nat) e' σ' => ∃ (x22 : Int) (τ' : Hp), agr [(2, .pointer (some ⟨b3, 0, none⟩)), (3, .pointer (some ⟨b4, 0, none⟩)), (5, .int .i64 x22)] e' ∧ Obs τ' σ' [some (b3, ⟨[.string p0.Name, .int .u8 (p0.Type_.Kind.toNat : Int), .int .i64 p0.Type_.N, .string p0.Type_.Name, .int .i64 p0.Words, .slice A0_5 p0.Fields.length c0_5], 64, 6, true⟩), some (b4, ⟨[.string p1.Name, .int .u8 (p1.Type_.Kind.toNat : Int), .int .i64 p1.Type_.N, .string p1.Type_.Name, .int .i64 p1.Words, .slice A1_5 p1.Fields.length c1_5], 64, 6, true⟩)] ∧ Hp.le τ τ' ∧ RdT Ty.str τ' (.slice A0_5 p0.Fields.length c0_5) p0.Fields ∧ RdT Ty.str τ' (.slice A1_5 p1.Fields.length c1_5) p1.Fields ∧ zc0 p0 p1 n x22 = some rr) big ⟨0, _, ar (ar (ar trivial)), hO, hL, r0_5, r1_5, hF⟩ ?_
    clear hF hO hL
    rintro n35 e σ ⟨x22, _, hA, hO, hL, r20, r21, hF⟩
    rw [← sets_agr _ _ hA]
    cases n35 with
    | zero => exact nomatch (show none = some rr from hF)
    | succ n35 =>
      replace hF : zbS (zc0 p0 p1 n35) p0 p1 x22 = some rr := hF
      unfold zbS at hF
      refine wpn_assoc ?_
      refine wpn_qa hO [0] [(2, .pointer (some ⟨b3, 0, none⟩)), (3, .pointer (some ⟨b4, 0, none⟩)), (5, .int .i64 x22), (38, .bool (decide (x22 < (p0.Fields.length : Int))))] (And.intro (And.intro rfl rfl) (ar (ar (ar (ar trivial))))) fun j => ?_
      rcases ite_some hF with ⟨hb36, hF⟩ | ⟨hb36, hF⟩
      · refine wpn_cT (congrArg Value.bool hb36) ?_
        refine wpn_sk ?_
        refine wpn_bl ?_
        refine wpn_p2r ?_
        refine wpn_q hO 3 [0] [(2, .pointer (some ⟨b3, 0, none⟩)), (3, .pointer (some ⟨b4, 0, none⟩)), (5, .int .i64 x22), (42, .slice A0_5 p0.Fields.length c0_5), (43, .int .i64 x22)] (And.intro (And.intro rfl rfl) (ar (ar (ar (ar (ar trivial)))))) fun j => ?_
        obtain ⟨y37, g38, hF⟩ := bind_some hF
        refine wpn_idx (T := Ty.str) r20 hO.base rfl rfl g38 (by decide) fun a39 _ k40 m41 => ?_
        obtain rfl : _ = ([.string y37] : List Value) := k40
        refine wpn_ld rfl (m41.le hO.base).fst ?_
        refine wpn_q hO 3 [1] [(2, .pointer (some ⟨b3, 0, none⟩)), (3, .pointer (some ⟨b4, 0, none⟩)), (5, .int .i64 x22), (45, .string y37), (47, .slice A1_5 p1.Fields.length c1_5), (48, .int .i64 x22)] (And.intro (And.intro rfl rfl) (ar (ar (ar (ar (ar (ar trivial))))))) fun j => ?_
        obtain ⟨y42, g43, hF⟩ := bind_some hF
        refine wpn_idx (T := Ty.str) r21 hO.base rfl rfl g43 (by decide) fun a44 _ k45 m46 => ?_
        obtain rfl : _ = ([.string y42] : List Value) := k45
        refine wpn_ld rfl (m46.le hO.base).fst ?_
        refine wpn_qa hO [] [(2, .pointer (some ⟨b3, 0, none⟩)), (3, .pointer (some ⟨b4, 0, none⟩)), (5, .int .i64 x22), (51, .bool (!(strEq y37 y42)))] (ar (ar (ar (ar trivial)))) fun j => ?_
        refine wpn_clast ?_
        rcases ite_some hF with ⟨hb47, hF⟩ | ⟨hb47, hF⟩
        · refine wpn_cT (congrArg Value.bool hb47) ?_
          refine wpn_assoc ?_
          refine wpn_qa hO [] [(4, .bool false)] (ar trivial) fun j => ?_
          refine wpn_rt ?_
          refine inb_r1 ?_
          refine thn_r1 ?_
          refine thn_r1 ?_
          refine inb_r1 ?_
          refine thn_r1 ?_
          injection hF with hF
          subst hF
          have hO := hO.sel [] (by decide)
          exact hQ _ _ _ _ _ rfl hO hL ⟨rfl, rfl⟩
        · refine wpn_cF (congrArg Value.bool hb47) ?_
          refine wpn_sk ?_
          refine wpn_end ?_
          refine inb_i ?_
          refine thn_i ?_
          refine wpn_rlast ?_
          refine wpn_qa hO [] [(2, .pointer (some ⟨b3, 0, none⟩)), (3, .pointer (some ⟨b4, 0, none⟩)), (5, .int .i64 (IntKind.i64.wrap (x22 + 1)))] (ar (ar (ar trivial))) fun j => ?_
          refine wpn_end ?_
          refine thn_i ?_
          exact ⟨n35, Nat.lt_succ_self _, (IntKind.i64.wrap (x22 + 1)), _, ar (ar (ar trivial)), hO, hL, r20, r21, hF⟩
      · refine wpn_cF (congrArg Value.bool hb36) ?_
        refine wpn_ex ?_
        refine thn_x ?_
        refine inb_x ?_
        refine thn_i ?_
        refine wpn_qa hO [] [(4, .bool true)] (ar trivial) fun j => ?_
        refine wpn_r1 ?_
        injection hF with hF
        subst hF
        have hO := hO.sel [] (by decide)
        exact hQ _ _ _ _ _ rfl hO hL ⟨rfl, rfl⟩
theorem zes {τ : Hp} {v0 : Value} {p0 : (List zg)} {v1 : Value} {p1 : (List zg)} (r0 : RdT zq τ v0 p0) (r1 : RdT zq τ v1 p1) {rr : Bool} (hF : zbv p0 p1 = some rr) :
    Ctr Try.prog 44 #[v0, v1] τ [] (fun v τ' vs' => v = .bool rr ∧ vs' = []) := by
  obtain ⟨A0, c0, rfl, -⟩ := r0.form
  obtain ⟨A1, c1, rfl, -⟩ := r1.form
  refine ctr_of (args := [.slice A0 p0.length c0, .slice A1 p1.length c1]) hm Try.func44 s44 rfl fun w0 σ hO Q hQ => ?_
  unfold zbv at hF
  have hL := Hp.le.refl τ
  show wpn _ _ a44.body _ _ _
  unfold a44
  dsimp only
  refine wpn_qa hO [] [(0, .slice A0 p0.length c0), (1, .slice A1 p1.length c1)] (ar (ar trivial)) fun j => ?_
  refine wpn_assoc ?_
  refine wpn_qa hO [] [(0, .slice A0 p0.length c0), (1, .slice A1 p1.length c1), (10, .bool ((p0.length : Int) != (p1.length : Int)))] (ar (ar (ar trivial))) fun j => ?_
  rcases ite_some hF with ⟨hb3, hF⟩ | ⟨hb3, hF⟩
  · refine wpn_cT (congrArg Value.bool hb3) ?_
    refine wpn_assoc ?_
    refine wpn_qa hO [] [(4, .bool false)] (ar trivial) fun j => ?_
    refine wpn_rt ?_
    injection hF with hF
    subst hF
    exact hQ _ _ _ _ _ rfl hO hL ⟨rfl, rfl⟩
  · refine wpn_cF (congrArg Value.bool hb3) ?_
    refine wpn_sk ?_
    refine wpn_assoc ?_
    refine wpn_qa hO [] [(0, .slice A0 p0.length c0), (1, .slice A1 p1.length c1), (5, .int .i64 0)] (ar (ar (ar trivial))) fun j => ?_
    refine wpn_bl ?_
    refine wpn_lp (fun (n : Nat) e' σ' => ∃ (x20 : Int) (τ' : Hp), agr [(0, .slice A0 p0.length c0), (1, .slice A1 p1.length c1), (5, .int .i64 x20)] e' ∧ Obs τ' σ' [] ∧ Hp.le τ τ' ∧ RdT zq τ' (.slice A0 p0.length c0) p0 ∧ RdT zq τ' (.slice A1 p1.length c1) p1 ∧ zbF p0 p1 n x20 = some rr) big ⟨0, _, ar (ar (ar trivial)), hO, hL, r0, r1, hF⟩ ?_
    clear hF hO hL
    rintro n33 e σ ⟨x20, _, hA, hO, hL, r18, r19, hF⟩
    rw [← sets_agr _ _ hA]
    cases n33 with
    | zero => exact nomatch (show none = some rr from hF)
    | succ n33 =>
      replace hF : zch (zbF p0 p1 n33) p0 p1 x20 = some rr := hF
      unfold zch at hF
      refine wpn_assoc ?_
      refine wpn_qa hO [] [(0, .slice A0 p0.length c0), (1, .slice A1 p1.length c1), (5, .int .i64 x20), (14, .bool (decide (x20 < (p0.length : Int))))] (ar (ar (ar (ar trivial)))) fun j => ?_
      rcases ite_some hF with ⟨hb34, hF⟩ | ⟨hb34, hF⟩
      · refine wpn_cT (congrArg Value.bool hb34) ?_
        refine wpn_sk ?_
        refine wpn_bl ?_
        refine wpn_p2r ?_
        refine wpn_q hO 2 [] [(0, .slice A0 p0.length c0), (1, .slice A1 p1.length c1), (5, .int .i64 x20), (17, .slice A0 p0.length c0), (18, .int .i64 x20)] (ar (ar (ar (ar (ar trivial))))) fun j => ?_
        obtain ⟨y35, g36, hF⟩ := bind_some hF
        refine wpn_idx (T := zq) r18 hO.base rfl rfl g36 (by decide) fun a37 _ k38 m39 => ?_
        obtain rfl : _ = ([.int .u8 y35.Kind.toNat, .int .i64 y35.N] : List Value) := k38
        refine wpn_ld rfl ((m39.le hO.base).all rfl) ?_
        refine wpn_q hO 2 [] [(0, .slice A0 p0.length c0), (1, .slice A1 p1.length c1), (5, .int .i64 x20), (20, .agg #[(.int .u8 (y35.Kind.toNat : Int)), (.int .i64 y35.N)]), (21, .slice A1 p1.length c1), (22, .int .i64 x20)] (ar (ar (ar (ar (ar (ar trivial)))))) fun j => ?_
        obtain ⟨y40, g41, hF⟩ := bind_some hF
        refine wpn_idx (T := zq) r19 hO.base rfl rfl g41 (by decide) fun a42 _ k43 m44 => ?_
        obtain rfl : _ = ([.int .u8 y40.Kind.toNat, .int .i64 y40.N] : List Value) := k43
        refine wpn_ld rfl ((m44.le hO.base).all rfl) ?_
        refine wpn_qa hO [] [(0, .slice A0 p0.length c0), (1, .slice A1 p1.length c1), (5, .int .i64 x20), (25, .bool (!(( (y35.Kind.toNat : Int) == (y40.Kind.toNat : Int)) && (( y35.N == y40.N) && true))))] (ar (ar (ar (ar trivial)))) fun j => ?_
        refine wpn_clast ?_
        rcases ite_some hF with ⟨hb45, hF⟩ | ⟨hb45, hF⟩
        · refine wpn_cT (congrArg Value.bool hb45) ?_
          refine wpn_assoc ?_
          refine wpn_qa hO [] [(4, .bool false)] (ar trivial) fun j => ?_
          refine wpn_rt ?_
          refine inb_r1 ?_
          refine thn_r1 ?_
          refine thn_r1 ?_
          refine inb_r1 ?_
          refine thn_r1 ?_
          injection hF with hF
          subst hF
          exact hQ _ _ _ _ _ rfl hO hL ⟨rfl, rfl⟩
        · refine wpn_cF (congrArg Value.bool hb45) ?_
          refine wpn_sk ?_
          refine wpn_end ?_
          refine inb_i ?_
          refine thn_i ?_
          refine wpn_rlast ?_
          refine wpn_qa hO [] [(0, .slice A0 p0.length c0), (1, .slice A1 p1.length c1), (5, .int .i64 (IntKind.i64.wrap (x20 + 1)))] (ar (ar (ar trivial))) fun j => ?_
          refine wpn_end ?_
          refine thn_i ?_
          exact ⟨n33, Nat.lt_succ_self _, (IntKind.i64.wrap (x20 + 1)), _, ar (ar (ar trivial)), hO, hL, r18, r19, hF⟩
      · refine wpn_cF (congrArg Value.bool hb34) ?_
        refine wpn_ex ?_
        refine thn_x ?_
        refine inb_x ?_
        refine thn_i ?_
        refine wpn_qa hO [] [(4, .bool true)] (ar trivial) fun j => ?_
        refine wpn_r1 ?_
        injection hF with hF
        subst hF
        exact hQ _ _ _ _ _ rfl hO hL ⟨rfl, rfl⟩
theorem zeY {τ : Hp} {v0 : Value} {p0 : (List ze)} {v1 : Value} {p1 : (List ze)} (r0 : RdT zk τ v0 p0) (r1 : RdT zk τ v1 p1) {rr : Bool} (hF : zbQ p0 p1 = some rr) :
    Ctr Try.prog 25 #[v0, v1] τ [] (fun v τ' vs' => v = .bool rr ∧ vs' = []) := by
  obtain ⟨A0, c0, rfl, -⟩ := r0.form
  obtain ⟨A1, c1, rfl, -⟩ := r1.form
  refine ctr_of (args := [.slice A0 p0.length c0, .slice A1 p1.length c1]) hm Try.func25 s25 rfl fun w0 σ hO Q hQ => ?_
  unfold zbQ at hF
  have hL := Hp.le.refl τ
  show wpn _ _ a25.body _ _ _
  unfold a25
  dsimp only
  refine wpn_qa hO [] [(0, .slice A0 p0.length c0), (1, .slice A1 p1.length c1)] (ar (ar trivial)) fun j => ?_
  refine wpn_assoc ?_
  refine wpn_qa hO [] [(0, .slice A0 p0.length c0), (1, .slice A1 p1.length c1), (10, .bool ((p0.length : Int) != (p1.length : Int)))] (ar (ar (ar trivial))) fun j => ?_
  rcases ite_some hF with ⟨hb3, hF⟩ | ⟨hb3, hF⟩
  · refine wpn_cT (congrArg Value.bool hb3) ?_
    refine wpn_assoc ?_
    refine wpn_qa hO [] [(4, .bool false)] (ar trivial) fun j => ?_
    refine wpn_rt ?_
    injection hF with hF
    subst hF
    exact hQ _ _ _ _ _ rfl hO hL ⟨rfl, rfl⟩
  · refine wpn_cF (congrArg Value.bool hb3) ?_
    refine wpn_sk ?_
    refine wpn_assoc ?_
    refine wpn_qa hO [] [(0, .slice A0 p0.length c0), (1, .slice A1 p1.length c1), (5, .int .i64 0)] (ar (ar (ar trivial))) fun j => ?_
    refine wpn_bl ?_
    refine wpn_lp (fun (n : Nat) e' σ' => ∃ (x74 : Int) (τ' : Hp), agr [(0, .slice A0 p0.length c0), (1, .slice A1 p1.length c1), (5, .int .i64 x74)] e' ∧ Obs τ' σ' [] ∧ Hp.le τ τ' ∧ RdT zk τ' (.slice A0 p0.length c0) p0 ∧ RdT zk τ' (.slice A1 p1.length c1) p1 ∧ zcr p0 p1 n x74 = some rr) big ⟨0, _, ar (ar (ar trivial)), hO, hL, r0, r1, hF⟩ ?_
    clear hF hO hL
    rintro n141 e σ ⟨x74, _, hA, hO, hL, r72, r73, hF⟩
    rw [← sets_agr _ _ hA]
    cases n141 with
    | zero => exact nomatch (show none = some rr from hF)
    | succ n141 =>
      replace hF : zcw (zcr p0 p1 n141) p0 p1 x74 = some rr := hF
      unfold zcw at hF
      refine wpn_assoc ?_
      refine wpn_qa hO [] [(0, .slice A0 p0.length c0), (1, .slice A1 p1.length c1), (5, .int .i64 x74), (14, .bool (decide (x74 < (p0.length : Int))))] (ar (ar (ar (ar trivial)))) fun j => ?_
      rcases ite_some hF with ⟨hb142, hF⟩ | ⟨hb142, hF⟩
      · refine wpn_cT (congrArg Value.bool hb142) ?_
        refine wpn_sk ?_
        refine wpn_bl ?_
        refine wpn_p2r ?_
        refine wpn_q hO 2 [] [(0, .slice A0 p0.length c0), (1, .slice A1 p1.length c1), (5, .int .i64 x74), (17, .slice A0 p0.length c0), (18, .int .i64 x74)] (ar (ar (ar (ar (ar trivial))))) fun j => ?_
        obtain ⟨y143, g144, hF⟩ := bind_some hF
        refine wpn_idx (T := zk) r72 hO.base rfl rfl g144 (by decide) fun a145 _ k146 m147 => ?_
        obtain ⟨v148, rfl, r149⟩ := k146
        obtain ⟨A150, c151, rfl, -⟩ := r149.form
        refine wpn_q hO 1 [] [(0, .slice A0 p0.length c0), (1, .slice A1 p1.length c1), (5, .int .i64 x74), (20, .pointer (some a145))] (ar (ar (ar (ar trivial)))) fun j => ?_
        refine wpn_ld rfl (m147.le hO.base).fst ?_
        refine wpn_q hO 2 [] [(0, .slice A0 p0.length c0), (1, .slice A1 p1.length c1), (5, .int .i64 x74), (21, .int .i64 y143.From), (22, .slice A1 p1.length c1), (23, .int .i64 x74)] (ar (ar (ar (ar (ar (ar trivial)))))) fun j => ?_
        obtain ⟨y152, g153, hF⟩ := bind_some hF
        refine wpn_idx (T := zk) r73 hO.base rfl rfl g153 (by decide) fun a154 _ k155 m156 => ?_
        obtain ⟨v157, rfl, r158⟩ := k155
        obtain ⟨A159, c160, rfl, -⟩ := r158.form
        refine wpn_q hO 1 [] [(0, .slice A0 p0.length c0), (1, .slice A1 p1.length c1), (5, .int .i64 x74), (21, .int .i64 y143.From), (25, .pointer (some a154))] (ar (ar (ar (ar (ar trivial))))) fun j => ?_
        refine wpn_ld rfl (m156.le hO.base).fst ?_
        refine wpn_q hO 2 [] [(0, .slice A0 p0.length c0), (1, .slice A1 p1.length c1), (5, .int .i64 x74), (28, .bool (y143.From != y152.From))] (ar (ar (ar (ar trivial)))) fun j => ?_
        obtain ⟨c161, h162, hF⟩ := bind_some hF
        refine wpn_midq 2 [(40, .bool c161), (0, .slice A0 p0.length c0), (1, .slice A1 p1.length c1), (5, .int .i64 x74)] (fun Q hQ => ?_) fun j => ?_
        · have hF := h162
          rcases ite_some hF with ⟨hb163, hF⟩ | ⟨hb163, hF⟩
          · refine wpn_gF (congrArg (fun x => isB (.bool x) false) hb163) ?_
            refine wpn_pk (congrArg Value.bool hb163) ?_
            refine wpn_nil ?_
            injection hF with hF
            subst hF
            refine wpn_end ?_
            exact hQ _ (ar (ar (ar (ar trivial))))
          · refine wpn_gT (congrArg (fun x => isB (.bool x) false) hb163) ?_
            refine wpn_q hO 2 [] [(0, .slice A0 p0.length c0), (1, .slice A1 p1.length c1), (5, .int .i64 x74), (28, .bool (y143.From != y152.From)), (29, .slice A0 p0.length c0), (30, .int .i64 x74)] (ar (ar (ar (ar (ar (ar trivial)))))) fun j => ?_
            obtain ⟨y164, g165, hF⟩ := bind_some hF
            refine wpn_idx (T := zk) r72 hO.base rfl rfl g165 (by decide) fun a166 _ k167 m168 => ?_
            obtain ⟨v169, rfl, r170⟩ := k167
            obtain ⟨A171, c172, rfl, -⟩ := r170.form
            refine wpn_q hO 1 [] [(0, .slice A0 p0.length c0), (1, .slice A1 p1.length c1), (5, .int .i64 x74), (28, .bool (y143.From != y152.From)), (32, .pointer (some (a166.add 1)))] (ar (ar (ar (ar (ar trivial))))) fun j => ?_
            refine wpn_ld rfl ((m168.le hO.base).one 1 rfl) ?_
            refine wpn_q hO 2 [] [(0, .slice A0 p0.length c0), (1, .slice A1 p1.length c1), (5, .int .i64 x74), (28, .bool (y143.From != y152.From)), (33, .int .i64 y164.To), (34, .slice A1 p1.length c1), (35, .int .i64 x74)] (ar (ar (ar (ar (ar (ar (ar trivial))))))) fun j => ?_
            obtain ⟨y173, g174, hF⟩ := bind_some hF
            refine wpn_idx (T := zk) r73 hO.base rfl rfl g174 (by decide) fun a175 _ k176 m177 => ?_
            obtain ⟨v178, rfl, r179⟩ := k176
            obtain ⟨A180, c181, rfl, -⟩ := r179.form
            refine wpn_q hO 1 [] [(0, .slice A0 p0.length c0), (1, .slice A1 p1.length c1), (5, .int .i64 x74), (28, .bool (y143.From != y152.From)), (33, .int .i64 y164.To), (37, .pointer (some (a175.add 1)))] (ar (ar (ar (ar (ar (ar trivial)))))) fun j => ?_
            refine wpn_ld rfl ((m177.le hO.base).one 1 rfl) ?_
            refine wpn_q hO 1 [] [(0, .slice A0 p0.length c0), (1, .slice A1 p1.length c1), (5, .int .i64 x74), (28, .bool (y143.From != y152.From)), (39, .bool (y164.To != y173.To))] (ar (ar (ar (ar (ar trivial))))) fun j => ?_
            refine wpn_pk (congrArg Value.bool hb163) ?_
            refine wpn_nil ?_
            injection hF with hF
            subst hF
            refine wpn_end ?_
            exact hQ _ (ar (ar (ar (ar trivial))))
        · refine wpn_q hO 1 [] [(0, .slice A0 p0.length c0), (1, .slice A1 p1.length c1), (5, .int .i64 x74), (41, .bool c161)] (ar (ar (ar (ar trivial)))) fun j => ?_
          obtain ⟨c182, h183, hF⟩ := bind_some hF
          refine wpn_mid 2 (fun e' σ' => ∃ (τ' : Hp), agr [(54, .bool c182), (0, .slice A0 p0.length c0), (1, .slice A1 p1.length c1), (5, .int .i64 x74)] e' ∧ Obs τ' σ' [] ∧ Hp.le τ τ' ∧ RdT zk τ' (.slice A0 p0.length c0) p0 ∧ RdT zk τ' (.slice A1 p1.length c1) p1) ?_ ?_
          · have hF := h183
            rcases ite_some hF with ⟨hb184, hF⟩ | ⟨hb184, hF⟩
            · refine wpn_gF (congrArg (fun x => isB (.bool x) false) hb184) ?_
              refine wpn_pk (congrArg Value.bool hb184) ?_
              refine wpn_nil ?_
              injection hF with hF
              subst hF
              refine wpn_end ?_
              exact ⟨rfl, _, ar (ar (ar (ar trivial))), hO, hL, r72, r73⟩
            · refine wpn_gT (congrArg (fun x => isB (.bool x) false) hb184) ?_
              refine wpn_q hO 2 [] [(0, .slice A0 p0.length c0), (1, .slice A1 p1.length c1), (5, .int .i64 x74), (41, .bool c161), (42, .slice A0 p0.length c0), (43, .int .i64 x74)] (ar (ar (ar (ar (ar (ar trivial)))))) fun j => ?_
              obtain ⟨y185, g186, hF⟩ := bind_some hF
              refine wpn_idx (T := zk) r72 hO.base rfl rfl g186 (by decide) fun a187 _ k188 m189 => ?_
              obtain ⟨v190, rfl, r191⟩ := k188
              obtain ⟨A192, c193, rfl, -⟩ := r191.form
              refine wpn_q hO 1 [] [(0, .slice A0 p0.length c0), (1, .slice A1 p1.length c1), (5, .int .i64 x74), (41, .bool c161), (45, .pointer (some (a187.add 2)))] (ar (ar (ar (ar (ar trivial))))) fun j => ?_
              refine wpn_ld rfl ((m189.le hO.base).one 2 rfl) ?_
              refine wpn_q hO 2 [] [(0, .slice A0 p0.length c0), (1, .slice A1 p1.length c1), (5, .int .i64 x74), (41, .bool c161), (46, .slice A192 y185.At.length c193), (47, .slice A1 p1.length c1), (48, .int .i64 x74)] (ar (ar (ar (ar (ar (ar (ar trivial))))))) fun j => ?_
              obtain ⟨y194, g195, hF⟩ := bind_some hF
              refine wpn_idx (T := zk) r73 hO.base rfl rfl g195 (by decide) fun a196 _ k197 m198 => ?_
              obtain ⟨v199, rfl, r200⟩ := k197
              obtain ⟨A201, c202, rfl, -⟩ := r200.form
              refine wpn_q hO 1 [] [(0, .slice A0 p0.length c0), (1, .slice A1 p1.length c1), (5, .int .i64 x74), (41, .bool c161), (46, .slice A192 y185.At.length c193), (50, .pointer (some (a196.add 2)))] (ar (ar (ar (ar (ar (ar trivial)))))) fun j => ?_
              refine wpn_ld rfl ((m198.le hO.base).one 2 rfl) ?_
              obtain ⟨c203, h204, hF⟩ := bind_some hF
              refine wpn_c0 hO (zes r191 r200 h204) rfl fun _ σ _ _ hO h205 h206 => ?_
              have hL := hL.trans h205
              have r72 := r72.le h205
              have r73 := r73.le h205
              have r191 := r191.le h205
              have m198 := m198.le h205
              have r200 := r200.le h205
              obtain ⟨rfl, rfl⟩ := h206
              have hO : Obs _ _ [] := hO
              refine wpn_q hO 1 [] [(0, .slice A0 p0.length c0), (1, .slice A1 p1.length c1), (5, .int .i64 x74), (41, .bool c161), (53, .bool (!c203))] (ar (ar (ar (ar (ar trivial))))) fun j => ?_
              refine wpn_pk (congrArg Value.bool hb184) ?_
              refine wpn_nil ?_
              injection hF with hF
              subst hF
              refine wpn_end ?_
              exact ⟨rfl, _, ar (ar (ar (ar trivial))), hO, hL, r72, r73⟩
          · rintro e σ ⟨_, hA, hO, hL, r72, r73⟩
            rw [← sets_agr _ _ hA]
            refine wpn_nil ?_
            refine wpn_clast ?_
            rcases ite_some hF with ⟨hb207, hF⟩ | ⟨hb207, hF⟩
            · refine wpn_cT (congrArg Value.bool hb207) ?_
              refine wpn_assoc ?_
              refine wpn_qa hO [] [(4, .bool false)] (ar trivial) fun j => ?_
              refine wpn_rt ?_
              refine inb_r1 ?_
              refine thn_r1 ?_
              refine thn_r1 ?_
              refine inb_r1 ?_
              refine thn_r1 ?_
              injection hF with hF
              subst hF
              exact hQ _ _ _ _ _ rfl hO hL ⟨rfl, rfl⟩
            · refine wpn_cF (congrArg Value.bool hb207) ?_
              refine wpn_sk ?_
              refine wpn_end ?_
              refine inb_i ?_
              refine thn_i ?_
              refine wpn_rlast ?_
              refine wpn_qa hO [] [(0, .slice A0 p0.length c0), (1, .slice A1 p1.length c1), (5, .int .i64 (IntKind.i64.wrap (x74 + 1)))] (ar (ar (ar trivial))) fun j => ?_
              refine wpn_end ?_
              refine thn_i ?_
              exact ⟨n141, Nat.lt_succ_self _, (IntKind.i64.wrap (x74 + 1)), _, ar (ar (ar trivial)), hO, hL, r72, r73, hF⟩
      · refine wpn_cF (congrArg Value.bool hb142) ?_
        refine wpn_ex ?_
        refine thn_x ?_
        refine inb_x ?_
        refine thn_i ?_
        refine wpn_qa hO [] [(4, .bool true)] (ar trivial) fun j => ?_
        refine wpn_r1 ?_
        injection hF with hF
        subst hF
        exact hQ _ _ _ _ _ rfl hO hL ⟨rfl, rfl⟩
theorem zd0 {τ : Hp} {v0 : Value} {p0 : (List zc)} {v1 : Value} {p1 : (List zc)} (r0 : RdT zj τ v0 p0) (r1 : RdT zj τ v1 p1) {rr : Bool} (hF : zbh p0 p1 = some rr) :
    Ctr Try.prog 14 #[v0, v1] τ [] (fun v τ' vs' => v = .bool rr ∧ vs' = []) := by
  obtain ⟨A0, c0, rfl, -⟩ := r0.form
  obtain ⟨A1, c1, rfl, -⟩ := r1.form
  refine ctr_of (args := [.slice A0 p0.length c0, .slice A1 p1.length c1]) hm Try.func14 s14 rfl fun w0 σ hO Q hQ => ?_
  unfold zbh at hF
  have hL := Hp.le.refl τ
  show wpn _ _ a14.body _ _ _
  unfold a14
  dsimp only
  refine wpn_qa hO [] [(0, .slice A0 p0.length c0), (1, .slice A1 p1.length c1)] (ar (ar trivial)) fun j => ?_
  refine wpn_assoc ?_
  refine wpn_qa hO [] [(0, .slice A0 p0.length c0), (1, .slice A1 p1.length c1), (12, .bool ((p0.length : Int) != (p1.length : Int)))] (ar (ar (ar trivial))) fun j => ?_
  rcases ite_some hF with ⟨hb3, hF⟩ | ⟨hb3, hF⟩
  · refine wpn_cT (congrArg Value.bool hb3) ?_
    refine wpn_assoc ?_
    refine wpn_qa hO [] [(4, .bool false)] (ar trivial) fun j => ?_
    refine wpn_rt ?_
    injection hF with hF
    subst hF
    exact hQ _ _ _ _ _ rfl hO hL ⟨rfl, rfl⟩
  · refine wpn_cF (congrArg Value.bool hb3) ?_
    refine wpn_sk ?_
    refine wpn_assoc ?_
    refine wpn_qa hO [] [(0, .slice A0 p0.length c0), (1, .slice A1 p1.length c1), (5, .int .i64 0)] (ar (ar (ar trivial))) fun j => ?_
    refine wpn_bl ?_
    refine wpn_lp (fun (n : Nat) e' σ' => ∃ (x932 : Int) (τ' : Hp), agr [(0, .slice A0 p0.length c0), (1, .slice A1 p1.length c1), (5, .int .i64 x932)] e' ∧ Obs τ' σ' [] ∧ Hp.le τ τ' ∧ RdT zj τ' (.slice A0 p0.length c0) p0 ∧ RdT zj τ' (.slice A1 p1.length c1) p1 ∧ zz p0 p1 n x932 = some rr) big ⟨0, _, ar (ar (ar trivial)), hO, hL, r0, r1, hF⟩ ?_
    clear hF hO hL
    rintro n1857 e σ ⟨x932, _, hA, hO, hL, r930, r931, hF⟩
    rw [← sets_agr _ _ hA]
    cases n1857 with
    | zero => exact nomatch (show none = some rr from hF)
    | succ n1857 =>
      replace hF : zc2 (zz p0 p1 n1857) p0 p1 x932 = some rr := hF
      unfold zc2 at hF
      refine wpn_assoc ?_
      refine wpn_qa hO [] [(0, .slice A0 p0.length c0), (1, .slice A1 p1.length c1), (5, .int .i64 x932), (16, .bool (decide (x932 < (p0.length : Int))))] (ar (ar (ar (ar trivial)))) fun j => ?_
      rcases ite_some hF with ⟨hb1858, hF⟩ | ⟨hb1858, hF⟩
      · refine wpn_cT (congrArg Value.bool hb1858) ?_
        refine wpn_sk ?_
        refine wpn_bl ?_
        refine wpn_assoc ?_
        refine wpn_p2r ?_
        refine wpn_q hO 2 [] [(0, .slice A0 p0.length c0), (1, .slice A1 p1.length c1), (5, .int .i64 x932), (19, .slice A0 p0.length c0), (20, .int .i64 x932)] (ar (ar (ar (ar (ar trivial))))) fun j => ?_
        obtain ⟨y1859, g1860, hF⟩ := bind_some hF
        refine wpn_idx (T := zj) r930 hO.base rfl rfl g1860 (by decide) fun a1861 _ k1862 m1863 => ?_
        obtain ⟨v1864, v1868, rfl, r1865, r1869⟩ := k1862
        obtain ⟨A1866, c1867, rfl, -⟩ := r1865.form
        obtain ⟨A1870, c1871, rfl, -⟩ := r1869.form
        refine wpn_q hO 1 [] [(0, .slice A0 p0.length c0), (1, .slice A1 p1.length c1), (5, .int .i64 x932), (22, .pointer (some a1861))] (ar (ar (ar (ar trivial)))) fun j => ?_
        refine wpn_ld rfl (m1863.le hO.base).fst ?_
        refine wpn_q hO 2 [] [(0, .slice A0 p0.length c0), (1, .slice A1 p1.length c1), (5, .int .i64 x932), (23, .string y1859.Name), (24, .slice A1 p1.length c1), (25, .int .i64 x932)] (ar (ar (ar (ar (ar (ar trivial)))))) fun j => ?_
        obtain ⟨y1872, g1873, hF⟩ := bind_some hF
        refine wpn_idx (T := zj) r931 hO.base rfl rfl g1873 (by decide) fun a1874 _ k1875 m1876 => ?_
        obtain ⟨v1877, v1881, rfl, r1878, r1882⟩ := k1875
        obtain ⟨A1879, c1880, rfl, -⟩ := r1878.form
        obtain ⟨A1883, c1884, rfl, -⟩ := r1882.form
        refine wpn_q hO 1 [] [(0, .slice A0 p0.length c0), (1, .slice A1 p1.length c1), (5, .int .i64 x932), (23, .string y1859.Name), (27, .pointer (some a1874))] (ar (ar (ar (ar (ar trivial))))) fun j => ?_
        refine wpn_ld rfl (m1876.le hO.base).fst ?_
        refine wpn_q hO 2 [] [(0, .slice A0 p0.length c0), (1, .slice A1 p1.length c1), (5, .int .i64 x932), (30, .bool (!(strEq y1859.Name y1872.Name)))] (ar (ar (ar (ar trivial)))) fun j => ?_
        obtain ⟨c1885, h1886, hF⟩ := bind_some hF
        refine wpn_midq 2 [(42, .bool c1885), (0, .slice A0 p0.length c0), (1, .slice A1 p1.length c1), (5, .int .i64 x932)] (fun Q hQ => ?_) fun j => ?_
        · have hF := h1886
          rcases ite_some hF with ⟨hb1887, hF⟩ | ⟨hb1887, hF⟩
          · refine wpn_gF (congrArg (fun x => isB (.bool x) false) hb1887) ?_
            refine wpn_pk (congrArg Value.bool hb1887) ?_
            refine wpn_nil ?_
            injection hF with hF
            subst hF
            refine wpn_end ?_
            exact hQ _ (ar (ar (ar (ar trivial))))
          · refine wpn_gT (congrArg (fun x => isB (.bool x) false) hb1887) ?_
            refine wpn_q hO 2 [] [(0, .slice A0 p0.length c0), (1, .slice A1 p1.length c1), (5, .int .i64 x932), (30, .bool (!(strEq y1859.Name y1872.Name))), (31, .slice A0 p0.length c0), (32, .int .i64 x932)] (ar (ar (ar (ar (ar (ar trivial)))))) fun j => ?_
            obtain ⟨y1888, g1889, hF⟩ := bind_some hF
            refine wpn_idx (T := zj) r930 hO.base rfl rfl g1889 (by decide) fun a1890 _ k1891 m1892 => ?_
            obtain ⟨v1893, v1897, rfl, r1894, r1898⟩ := k1891
            obtain ⟨A1895, c1896, rfl, -⟩ := r1894.form
            obtain ⟨A1899, c1900, rfl, -⟩ := r1898.form
            refine wpn_q hO 1 [] [(0, .slice A0 p0.length c0), (1, .slice A1 p1.length c1), (5, .int .i64 x932), (30, .bool (!(strEq y1859.Name y1872.Name))), (34, .pointer (some (a1890.add 1)))] (ar (ar (ar (ar (ar trivial))))) fun j => ?_
            refine wpn_ld rfl ((m1892.le hO.base).one 1 rfl) ?_
            refine wpn_q hO 2 [] [(0, .slice A0 p0.length c0), (1, .slice A1 p1.length c1), (5, .int .i64 x932), (30, .bool (!(strEq y1859.Name y1872.Name))), (35, .int .i64 y1888.From), (36, .slice A1 p1.length c1), (37, .int .i64 x932)] (ar (ar (ar (ar (ar (ar (ar trivial))))))) fun j => ?_
            obtain ⟨y1901, g1902, hF⟩ := bind_some hF
            refine wpn_idx (T := zj) r931 hO.base rfl rfl g1902 (by decide) fun a1903 _ k1904 m1905 => ?_
            obtain ⟨v1906, v1910, rfl, r1907, r1911⟩ := k1904
            obtain ⟨A1908, c1909, rfl, -⟩ := r1907.form
            obtain ⟨A1912, c1913, rfl, -⟩ := r1911.form
            refine wpn_q hO 1 [] [(0, .slice A0 p0.length c0), (1, .slice A1 p1.length c1), (5, .int .i64 x932), (30, .bool (!(strEq y1859.Name y1872.Name))), (35, .int .i64 y1888.From), (39, .pointer (some (a1903.add 1)))] (ar (ar (ar (ar (ar (ar trivial)))))) fun j => ?_
            refine wpn_ld rfl ((m1905.le hO.base).one 1 rfl) ?_
            refine wpn_q hO 1 [] [(0, .slice A0 p0.length c0), (1, .slice A1 p1.length c1), (5, .int .i64 x932), (30, .bool (!(strEq y1859.Name y1872.Name))), (41, .bool (y1888.From != y1901.From))] (ar (ar (ar (ar (ar trivial))))) fun j => ?_
            refine wpn_pk (congrArg Value.bool hb1887) ?_
            refine wpn_nil ?_
            injection hF with hF
            subst hF
            refine wpn_end ?_
            exact hQ _ (ar (ar (ar (ar trivial))))
        · refine wpn_q hO 1 [] [(0, .slice A0 p0.length c0), (1, .slice A1 p1.length c1), (5, .int .i64 x932), (43, .bool c1885)] (ar (ar (ar (ar trivial)))) fun j => ?_
          obtain ⟨c1914, h1915, hF⟩ := bind_some hF
          refine wpn_midq 2 [(55, .bool c1914), (0, .slice A0 p0.length c0), (1, .slice A1 p1.length c1), (5, .int .i64 x932)] (fun Q hQ => ?_) fun j => ?_
          · have hF := h1915
            rcases ite_some hF with ⟨hb1916, hF⟩ | ⟨hb1916, hF⟩
            · refine wpn_gF (congrArg (fun x => isB (.bool x) false) hb1916) ?_
              refine wpn_pk (congrArg Value.bool hb1916) ?_
              refine wpn_nil ?_
              injection hF with hF
              subst hF
              refine wpn_end ?_
              exact hQ _ (ar (ar (ar (ar trivial))))
            · refine wpn_gT (congrArg (fun x => isB (.bool x) false) hb1916) ?_
              refine wpn_q hO 2 [] [(0, .slice A0 p0.length c0), (1, .slice A1 p1.length c1), (5, .int .i64 x932), (43, .bool c1885), (44, .slice A0 p0.length c0), (45, .int .i64 x932)] (ar (ar (ar (ar (ar (ar trivial)))))) fun j => ?_
              obtain ⟨y1917, g1918, hF⟩ := bind_some hF
              refine wpn_idx (T := zj) r930 hO.base rfl rfl g1918 (by decide) fun a1919 _ k1920 m1921 => ?_
              obtain ⟨v1922, v1926, rfl, r1923, r1927⟩ := k1920
              obtain ⟨A1924, c1925, rfl, -⟩ := r1923.form
              obtain ⟨A1928, c1929, rfl, -⟩ := r1927.form
              refine wpn_q hO 1 [] [(0, .slice A0 p0.length c0), (1, .slice A1 p1.length c1), (5, .int .i64 x932), (43, .bool c1885), (47, .pointer (some (a1919.add 2)))] (ar (ar (ar (ar (ar trivial))))) fun j => ?_
              refine wpn_ld rfl ((m1921.le hO.base).one 2 rfl) ?_
              refine wpn_q hO 2 [] [(0, .slice A0 p0.length c0), (1, .slice A1 p1.length c1), (5, .int .i64 x932), (43, .bool c1885), (48, .int .i64 y1917.To), (49, .slice A1 p1.length c1), (50, .int .i64 x932)] (ar (ar (ar (ar (ar (ar (ar trivial))))))) fun j => ?_
              obtain ⟨y1930, g1931, hF⟩ := bind_some hF
              refine wpn_idx (T := zj) r931 hO.base rfl rfl g1931 (by decide) fun a1932 _ k1933 m1934 => ?_
              obtain ⟨v1935, v1939, rfl, r1936, r1940⟩ := k1933
              obtain ⟨A1937, c1938, rfl, -⟩ := r1936.form
              obtain ⟨A1941, c1942, rfl, -⟩ := r1940.form
              refine wpn_q hO 1 [] [(0, .slice A0 p0.length c0), (1, .slice A1 p1.length c1), (5, .int .i64 x932), (43, .bool c1885), (48, .int .i64 y1917.To), (52, .pointer (some (a1932.add 2)))] (ar (ar (ar (ar (ar (ar trivial)))))) fun j => ?_
              refine wpn_ld rfl ((m1934.le hO.base).one 2 rfl) ?_
              refine wpn_q hO 1 [] [(0, .slice A0 p0.length c0), (1, .slice A1 p1.length c1), (5, .int .i64 x932), (43, .bool c1885), (54, .bool (y1917.To != y1930.To))] (ar (ar (ar (ar (ar trivial))))) fun j => ?_
              refine wpn_pk (congrArg Value.bool hb1916) ?_
              refine wpn_nil ?_
              injection hF with hF
              subst hF
              refine wpn_end ?_
              exact hQ _ (ar (ar (ar (ar trivial))))
          · refine wpn_q hO 1 [] [(0, .slice A0 p0.length c0), (1, .slice A1 p1.length c1), (5, .int .i64 x932), (56, .bool c1914)] (ar (ar (ar (ar trivial)))) fun j => ?_
            obtain ⟨c1943, h1944, hF⟩ := bind_some hF
            refine wpn_midq 2 [(70, .bool c1943), (0, .slice A0 p0.length c0), (1, .slice A1 p1.length c1), (5, .int .i64 x932)] (fun Q hQ => ?_) fun j => ?_
            · have hF := h1944
              rcases ite_some hF with ⟨hb1945, hF⟩ | ⟨hb1945, hF⟩
              · refine wpn_gF (congrArg (fun x => isB (.bool x) false) hb1945) ?_
                refine wpn_pk (congrArg Value.bool hb1945) ?_
                refine wpn_nil ?_
                injection hF with hF
                subst hF
                refine wpn_end ?_
                exact hQ _ (ar (ar (ar (ar trivial))))
              · refine wpn_gT (congrArg (fun x => isB (.bool x) false) hb1945) ?_
                refine wpn_q hO 2 [] [(0, .slice A0 p0.length c0), (1, .slice A1 p1.length c1), (5, .int .i64 x932), (56, .bool c1914), (57, .slice A0 p0.length c0), (58, .int .i64 x932)] (ar (ar (ar (ar (ar (ar trivial)))))) fun j => ?_
                obtain ⟨y1946, g1947, hF⟩ := bind_some hF
                refine wpn_idx (T := zj) r930 hO.base rfl rfl g1947 (by decide) fun a1948 _ k1949 m1950 => ?_
                obtain ⟨v1951, v1955, rfl, r1952, r1956⟩ := k1949
                obtain ⟨A1953, c1954, rfl, -⟩ := r1952.form
                obtain ⟨A1957, c1958, rfl, -⟩ := r1956.form
                refine wpn_q hO 1 [] [(0, .slice A0 p0.length c0), (1, .slice A1 p1.length c1), (5, .int .i64 x932), (56, .bool c1914), (60, .pointer (some (a1948.add 3)))] (ar (ar (ar (ar (ar trivial))))) fun j => ?_
                refine wpn_ld rfl ((m1950.le hO.base).one 3 rfl) ?_
                refine wpn_q hO 3 [] [(0, .slice A0 p0.length c0), (1, .slice A1 p1.length c1), (5, .int .i64 x932), (56, .bool c1914), (62, .int .i64 (y1946.Vars.length : Int)), (63, .slice A1 p1.length c1), (64, .int .i64 x932)] (ar (ar (ar (ar (ar (ar (ar trivial))))))) fun j => ?_
                obtain ⟨y1959, g1960, hF⟩ := bind_some hF
                refine wpn_idx (T := zj) r931 hO.base rfl rfl g1960 (by decide) fun a1961 _ k1962 m1963 => ?_
                obtain ⟨v1964, v1968, rfl, r1965, r1969⟩ := k1962
                obtain ⟨A1966, c1967, rfl, -⟩ := r1965.form
                obtain ⟨A1970, c1971, rfl, -⟩ := r1969.form
                refine wpn_q hO 1 [] [(0, .slice A0 p0.length c0), (1, .slice A1 p1.length c1), (5, .int .i64 x932), (56, .bool c1914), (62, .int .i64 (y1946.Vars.length : Int)), (66, .pointer (some (a1961.add 3)))] (ar (ar (ar (ar (ar (ar trivial)))))) fun j => ?_
                refine wpn_ld rfl ((m1963.le hO.base).one 3 rfl) ?_
                refine wpn_q hO 2 [] [(0, .slice A0 p0.length c0), (1, .slice A1 p1.length c1), (5, .int .i64 x932), (56, .bool c1914), (69, .bool ((y1946.Vars.length : Int) != (y1959.Vars.length : Int)))] (ar (ar (ar (ar (ar trivial))))) fun j => ?_
                refine wpn_pk (congrArg Value.bool hb1945) ?_
                refine wpn_nil ?_
                injection hF with hF
                subst hF
                refine wpn_end ?_
                exact hQ _ (ar (ar (ar (ar trivial))))
            · refine wpn_q hO 1 [] [(0, .slice A0 p0.length c0), (1, .slice A1 p1.length c1), (5, .int .i64 x932), (71, .bool c1943)] (ar (ar (ar (ar trivial)))) fun j => ?_
              obtain ⟨c1972, h1973, hF⟩ := bind_some hF
              refine wpn_midq 2 [(85, .bool c1972), (0, .slice A0 p0.length c0), (1, .slice A1 p1.length c1), (5, .int .i64 x932)] (fun Q hQ => ?_) fun j => ?_
              · have hF := h1973
                rcases ite_some hF with ⟨hb1974, hF⟩ | ⟨hb1974, hF⟩
                · refine wpn_gF (congrArg (fun x => isB (.bool x) false) hb1974) ?_
                  refine wpn_pk (congrArg Value.bool hb1974) ?_
                  refine wpn_nil ?_
                  injection hF with hF
                  subst hF
                  refine wpn_end ?_
                  exact hQ _ (ar (ar (ar (ar trivial))))
                · refine wpn_gT (congrArg (fun x => isB (.bool x) false) hb1974) ?_
                  refine wpn_q hO 2 [] [(0, .slice A0 p0.length c0), (1, .slice A1 p1.length c1), (5, .int .i64 x932), (71, .bool c1943), (72, .slice A0 p0.length c0), (73, .int .i64 x932)] (ar (ar (ar (ar (ar (ar trivial)))))) fun j => ?_
                  obtain ⟨y1975, g1976, hF⟩ := bind_some hF
                  refine wpn_idx (T := zj) r930 hO.base rfl rfl g1976 (by decide) fun a1977 _ k1978 m1979 => ?_
                  obtain ⟨v1980, v1984, rfl, r1981, r1985⟩ := k1978
                  obtain ⟨A1982, c1983, rfl, -⟩ := r1981.form
                  obtain ⟨A1986, c1987, rfl, -⟩ := r1985.form
                  refine wpn_q hO 1 [] [(0, .slice A0 p0.length c0), (1, .slice A1 p1.length c1), (5, .int .i64 x932), (71, .bool c1943), (75, .pointer (some (a1977.add 4)))] (ar (ar (ar (ar (ar trivial))))) fun j => ?_
                  refine wpn_ld rfl ((m1979.le hO.base).one 4 rfl) ?_
                  refine wpn_q hO 3 [] [(0, .slice A0 p0.length c0), (1, .slice A1 p1.length c1), (5, .int .i64 x932), (71, .bool c1943), (77, .int .i64 (y1975.Spans.length : Int)), (78, .slice A1 p1.length c1), (79, .int .i64 x932)] (ar (ar (ar (ar (ar (ar (ar trivial))))))) fun j => ?_
                  obtain ⟨y1988, g1989, hF⟩ := bind_some hF
                  refine wpn_idx (T := zj) r931 hO.base rfl rfl g1989 (by decide) fun a1990 _ k1991 m1992 => ?_
                  obtain ⟨v1993, v1997, rfl, r1994, r1998⟩ := k1991
                  obtain ⟨A1995, c1996, rfl, -⟩ := r1994.form
                  obtain ⟨A1999, c2000, rfl, -⟩ := r1998.form
                  refine wpn_q hO 1 [] [(0, .slice A0 p0.length c0), (1, .slice A1 p1.length c1), (5, .int .i64 x932), (71, .bool c1943), (77, .int .i64 (y1975.Spans.length : Int)), (81, .pointer (some (a1990.add 4)))] (ar (ar (ar (ar (ar (ar trivial)))))) fun j => ?_
                  refine wpn_ld rfl ((m1992.le hO.base).one 4 rfl) ?_
                  refine wpn_q hO 2 [] [(0, .slice A0 p0.length c0), (1, .slice A1 p1.length c1), (5, .int .i64 x932), (71, .bool c1943), (84, .bool ((y1975.Spans.length : Int) != (y1988.Spans.length : Int)))] (ar (ar (ar (ar (ar trivial))))) fun j => ?_
                  refine wpn_pk (congrArg Value.bool hb1974) ?_
                  refine wpn_nil ?_
                  injection hF with hF
                  subst hF
                  refine wpn_end ?_
                  exact hQ _ (ar (ar (ar (ar trivial))))
              · refine wpn_nil ?_
                rcases ite_some hF with ⟨hb2001, hF⟩ | ⟨hb2001, hF⟩
                · refine wpn_cT (congrArg Value.bool hb2001) ?_
                  refine wpn_assoc ?_
                  refine wpn_qa hO [] [(4, .bool false)] (ar trivial) fun j => ?_
                  refine wpn_rt ?_
                  refine inb_r1 ?_
                  refine thn_r1 ?_
                  refine thn_r1 ?_
                  refine inb_r1 ?_
                  refine thn_r1 ?_
                  injection hF with hF
                  subst hF
                  exact hQ _ _ _ _ _ rfl hO hL ⟨rfl, rfl⟩
                · refine wpn_cF (congrArg Value.bool hb2001) ?_
                  refine wpn_sk ?_
                  refine wpn_assoc ?_
                  refine wpn_qa hO [] [(0, .slice A0 p0.length c0), (1, .slice A1 p1.length c1), (5, .int .i64 x932), (6, .int .i64 0)] (ar (ar (ar (ar trivial)))) fun j => ?_
                  refine wpn_bl ?_
                  refine wpn_lp (fun (n : Nat) e' σ' => ∃ (x2264 : Int) (τ' : Hp), agr [(0, .slice A0 p0.length c0), (1, .slice A1 p1.length c1), (5, .int .i64 x932), (6, .int .i64 x2264)] e' ∧ Obs τ' σ' [] ∧ Hp.le τ τ' ∧ RdT zj τ' (.slice A0 p0.length c0) p0 ∧ RdT zj τ' (.slice A1 p1.length c1) p1 ∧ zbI (zz p0 p1 n1857) p0 p1 x932 n x2264 = some rr) big ⟨0, _, ar (ar (ar (ar trivial))), hO, hL, r930, r931, hF⟩ ?_
                  clear hF hO hL
                  rintro n2523 e σ ⟨x2264, _, hA, hO, hL, r2262, r2263, hF⟩
                  rw [← sets_agr _ _ hA]
                  cases n2523 with
                  | zero => exact nomatch (show none = some rr from hF)
                  | succ n2523 =>
                    replace hF : zbu (zbI (zz p0 p1 n1857) p0 p1 x932 n2523) (zz p0 p1 n1857) p0 p1 x932 x2264 = some rr := hF
                    unfold zbu at hF
                    refine wpn_assoc ?_
                    refine wpn_q hO 3 [] [(0, .slice A0 p0.length c0), (1, .slice A1 p1.length c1), (5, .int .i64 x932), (6, .int .i64 x2264), (86, .int .i64 x2264), (87, .slice A0 p0.length c0), (88, .int .i64 x932)] (ar (ar (ar (ar (ar (ar (ar trivial))))))) fun j => ?_
                    obtain ⟨y2524, g2525, hF⟩ := bind_some hF
                    refine wpn_idx (T := zj) r2262 hO.base rfl rfl g2525 (by decide) fun a2526 _ k2527 m2528 => ?_
                    obtain ⟨v2529, v2533, rfl, r2530, r2534⟩ := k2527
                    obtain ⟨A2531, c2532, rfl, -⟩ := r2530.form
                    obtain ⟨A2535, c2536, rfl, -⟩ := r2534.form
                    refine wpn_q hO 1 [] [(0, .slice A0 p0.length c0), (1, .slice A1 p1.length c1), (5, .int .i64 x932), (6, .int .i64 x2264), (86, .int .i64 x2264), (90, .pointer (some (a2526.add 3)))] (ar (ar (ar (ar (ar (ar trivial)))))) fun j => ?_
                    refine wpn_ld rfl ((m2528.le hO.base).one 3 rfl) ?_
                    refine wpn_qa hO [] [(0, .slice A0 p0.length c0), (1, .slice A1 p1.length c1), (5, .int .i64 x932), (6, .int .i64 x2264), (93, .bool (decide (x2264 < (y2524.Vars.length : Int))))] (ar (ar (ar (ar (ar trivial))))) fun j => ?_
                    rcases ite_some hF with ⟨hb2537, hF⟩ | ⟨hb2537, hF⟩
                    · refine wpn_cT (congrArg Value.bool hb2537) ?_
                      refine wpn_sk ?_
                      refine wpn_bl ?_
                      refine wpn_p2r ?_
                      refine wpn_q hO 2 [] [(0, .slice A0 p0.length c0), (1, .slice A1 p1.length c1), (5, .int .i64 x932), (6, .int .i64 x2264), (96, .slice A0 p0.length c0), (97, .int .i64 x932)] (ar (ar (ar (ar (ar (ar trivial)))))) fun j => ?_
                      obtain ⟨y2538, g2539, hF⟩ := bind_some hF
                      refine wpn_idx (T := zj) r2262 hO.base rfl rfl g2539 (by decide) fun a2540 _ k2541 m2542 => ?_
                      obtain ⟨v2543, v2547, rfl, r2544, r2548⟩ := k2541
                      obtain ⟨A2545, c2546, rfl, -⟩ := r2544.form
                      obtain ⟨A2549, c2550, rfl, -⟩ := r2548.form
                      refine wpn_q hO 1 [] [(0, .slice A0 p0.length c0), (1, .slice A1 p1.length c1), (5, .int .i64 x932), (6, .int .i64 x2264), (99, .pointer (some (a2540.add 3)))] (ar (ar (ar (ar (ar trivial))))) fun j => ?_
                      refine wpn_ld rfl ((m2542.le hO.base).one 3 rfl) ?_
                      refine wpn_q hO 1 [] [(0, .slice A0 p0.length c0), (1, .slice A1 p1.length c1), (5, .int .i64 x932), (6, .int .i64 x2264), (100, .slice A2545 y2538.Vars.length c2546), (101, .int .i64 x2264)] (ar (ar (ar (ar (ar (ar trivial)))))) fun j => ?_
                      obtain ⟨y2551, g2552, hF⟩ := bind_some hF
                      refine wpn_idx (T := zn) r2544 hO.base rfl rfl g2552 (by decide) fun a2553 _ k2554 m2555 => ?_
                      obtain ⟨v2556, rfl, r2557⟩ := k2554
                      obtain ⟨A2558, c2559, rfl, -⟩ := r2557.form
                      refine wpn_ld rfl ((m2555.le hO.base).all rfl) ?_
                      refine wpn_q hO 2 [] [(0, .slice A0 p0.length c0), (1, .slice A1 p1.length c1), (5, .int .i64 x932), (6, .int .i64 x2264), (103, .agg #[(.string y2551.Name), (.int .u8 (y2551.Type_.Kind.toNat : Int)), (.int .i64 y2551.Type_.N), (.string y2551.Type_.Name), (.int .i64 y2551.Words), (.slice A2558 y2551.Fields.length c2559)]), (104, .slice A1 p1.length c1), (105, .int .i64 x932)] (ar (ar (ar (ar (ar (ar (ar trivial))))))) fun j => ?_
                      obtain ⟨y2560, g2561, hF⟩ := bind_some hF
                      refine wpn_idx (T := zj) r2263 hO.base rfl rfl g2561 (by decide) fun a2562 _ k2563 m2564 => ?_
                      obtain ⟨v2565, v2569, rfl, r2566, r2570⟩ := k2563
                      obtain ⟨A2567, c2568, rfl, -⟩ := r2566.form
                      obtain ⟨A2571, c2572, rfl, -⟩ := r2570.form
                      refine wpn_q hO 1 [] [(0, .slice A0 p0.length c0), (1, .slice A1 p1.length c1), (5, .int .i64 x932), (6, .int .i64 x2264), (103, .agg #[(.string y2551.Name), (.int .u8 (y2551.Type_.Kind.toNat : Int)), (.int .i64 y2551.Type_.N), (.string y2551.Type_.Name), (.int .i64 y2551.Words), (.slice A2558 y2551.Fields.length c2559)]), (107, .pointer (some (a2562.add 3)))] (ar (ar (ar (ar (ar (ar trivial)))))) fun j => ?_
                      refine wpn_ld rfl ((m2564.le hO.base).one 3 rfl) ?_
                      refine wpn_q hO 1 [] [(0, .slice A0 p0.length c0), (1, .slice A1 p1.length c1), (5, .int .i64 x932), (6, .int .i64 x2264), (103, .agg #[(.string y2551.Name), (.int .u8 (y2551.Type_.Kind.toNat : Int)), (.int .i64 y2551.Type_.N), (.string y2551.Type_.Name), (.int .i64 y2551.Words), (.slice A2558 y2551.Fields.length c2559)]), (108, .slice A2567 y2560.Vars.length c2568), (109, .int .i64 x2264)] (ar (ar (ar (ar (ar (ar (ar trivial))))))) fun j => ?_
                      obtain ⟨y2573, g2574, hF⟩ := bind_some hF
                      refine wpn_idx (T := zn) r2566 hO.base rfl rfl g2574 (by decide) fun a2575 _ k2576 m2577 => ?_
                      obtain ⟨v2578, rfl, r2579⟩ := k2576
                      obtain ⟨A2580, c2581, rfl, -⟩ := r2579.form
                      refine wpn_ld rfl ((m2577.le hO.base).all rfl) ?_
                      obtain ⟨c2582, h2583, hF⟩ := bind_some hF
                      refine wpn_c0 hO (zfx (p0 := (⟨y2551.Name, (⟨y2551.Type_.Kind, y2551.Type_.N, y2551.Type_.Name⟩ : zp), y2551.Words, y2551.Fields⟩ : zh)) (p1 := (⟨y2573.Name, (⟨y2573.Type_.Kind, y2573.Type_.N, y2573.Type_.Name⟩ : zp), y2573.Words, y2573.Fields⟩ : zh)) r2557 r2579 h2583) rfl fun _ σ _ _ hO h2584 h2585 => ?_
                      have hL := hL.trans h2584
                      have r2262 := r2262.le h2584
                      have r2263 := r2263.le h2584
                      have r2557 := r2557.le h2584
                      have r2566 := r2566.le h2584
                      have m2577 := m2577.le h2584
                      have r2579 := r2579.le h2584
                      obtain ⟨rfl, rfl⟩ := h2585
                      have hO : Obs _ _ [] := hO
                      refine wpn_qa hO [] [(0, .slice A0 p0.length c0), (1, .slice A1 p1.length c1), (5, .int .i64 x932), (6, .int .i64 x2264), (113, .bool (!c2582))] (ar (ar (ar (ar (ar trivial))))) fun j => ?_
                      refine wpn_clast ?_
                      rcases ite_some hF with ⟨hb2586, hF⟩ | ⟨hb2586, hF⟩
                      · refine wpn_cT (congrArg Value.bool hb2586) ?_
                        refine wpn_assoc ?_
                        refine wpn_qa hO [] [(4, .bool false)] (ar trivial) fun j => ?_
                        refine wpn_rt ?_
                        refine inb_r1 ?_
                        refine thn_r1 ?_
                        refine thn_r1 ?_
                        refine inb_r1 ?_
                        refine thn_r1 ?_
                        refine inb_r1 ?_
                        refine thn_r1 ?_
                        refine thn_r1 ?_
                        refine inb_r1 ?_
                        refine thn_r1 ?_
                        injection hF with hF
                        subst hF
                        exact hQ _ _ _ _ _ rfl hO hL ⟨rfl, rfl⟩
                      · refine wpn_cF (congrArg Value.bool hb2586) ?_
                        refine wpn_sk ?_
                        refine wpn_end ?_
                        refine inb_i ?_
                        refine thn_i ?_
                        refine wpn_rlast ?_
                        refine wpn_qa hO [] [(0, .slice A0 p0.length c0), (1, .slice A1 p1.length c1), (5, .int .i64 x932), (6, .int .i64 (IntKind.i64.wrap (x2264 + 1)))] (ar (ar (ar (ar trivial)))) fun j => ?_
                        refine wpn_end ?_
                        refine thn_i ?_
                        exact ⟨n2523, Nat.lt_succ_self _, (IntKind.i64.wrap (x2264 + 1)), _, ar (ar (ar (ar trivial))), hO, hL, r2262, r2263, hF⟩
                    · refine wpn_cF (congrArg Value.bool hb2537) ?_
                      refine wpn_ex ?_
                      refine thn_x ?_
                      refine inb_x ?_
                      refine thn_i ?_
                      refine wpn_qa hO [] [(0, .slice A0 p0.length c0), (1, .slice A1 p1.length c1), (5, .int .i64 x932), (7, .int .i64 0)] (ar (ar (ar (ar trivial)))) fun j => ?_
                      refine wpn_blast ?_
                      refine wpn_bl ?_
                      refine wpn_lp (fun (n : Nat) e' σ' => ∃ (x2654 : Int) (τ' : Hp), agr [(0, .slice A0 p0.length c0), (1, .slice A1 p1.length c1), (5, .int .i64 x932), (7, .int .i64 x2654)] e' ∧ Obs τ' σ' [] ∧ Hp.le τ τ' ∧ RdT zj τ' (.slice A0 p0.length c0) p0 ∧ RdT zj τ' (.slice A1 p1.length c1) p1 ∧ zcM (zz p0 p1 n1857) p0 p1 x932 n x2654 = some rr) big ⟨0, _, ar (ar (ar (ar trivial))), hO, hL, r2262, r2263, hF⟩ ?_
                      clear hF hO hL
                      rintro n2718 e σ ⟨x2654, _, hA, hO, hL, r2652, r2653, hF⟩
                      rw [← sets_agr _ _ hA]
                      cases n2718 with
                      | zero => exact nomatch (show none = some rr from hF)
                      | succ n2718 =>
                        replace hF : zcy (zcM (zz p0 p1 n1857) p0 p1 x932 n2718) (zz p0 p1 n1857) p0 p1 x932 x2654 = some rr := hF
                        unfold zcy at hF
                        refine wpn_assoc ?_
                        refine wpn_q hO 3 [] [(0, .slice A0 p0.length c0), (1, .slice A1 p1.length c1), (5, .int .i64 x932), (7, .int .i64 x2654), (114, .int .i64 x2654), (115, .slice A0 p0.length c0), (116, .int .i64 x932)] (ar (ar (ar (ar (ar (ar (ar trivial))))))) fun j => ?_
                        obtain ⟨y2719, g2720, hF⟩ := bind_some hF
                        refine wpn_idx (T := zj) r2652 hO.base rfl rfl g2720 (by decide) fun a2721 _ k2722 m2723 => ?_
                        obtain ⟨v2724, v2728, rfl, r2725, r2729⟩ := k2722
                        obtain ⟨A2726, c2727, rfl, -⟩ := r2725.form
                        obtain ⟨A2730, c2731, rfl, -⟩ := r2729.form
                        refine wpn_q hO 1 [] [(0, .slice A0 p0.length c0), (1, .slice A1 p1.length c1), (5, .int .i64 x932), (7, .int .i64 x2654), (114, .int .i64 x2654), (118, .pointer (some (a2721.add 4)))] (ar (ar (ar (ar (ar (ar trivial)))))) fun j => ?_
                        refine wpn_ld rfl ((m2723.le hO.base).one 4 rfl) ?_
                        refine wpn_qa hO [] [(0, .slice A0 p0.length c0), (1, .slice A1 p1.length c1), (5, .int .i64 x932), (7, .int .i64 x2654), (121, .bool (decide (x2654 < (y2719.Spans.length : Int))))] (ar (ar (ar (ar (ar trivial))))) fun j => ?_
                        rcases ite_some hF with ⟨hb2732, hF⟩ | ⟨hb2732, hF⟩
                        · refine wpn_cT (congrArg Value.bool hb2732) ?_
                          refine wpn_sk ?_
                          refine wpn_bl ?_
                          refine wpn_p2r ?_
                          refine wpn_q hO 2 [] [(0, .slice A0 p0.length c0), (1, .slice A1 p1.length c1), (5, .int .i64 x932), (7, .int .i64 x2654), (124, .slice A0 p0.length c0), (125, .int .i64 x932)] (ar (ar (ar (ar (ar (ar trivial)))))) fun j => ?_
                          obtain ⟨y2733, g2734, hF⟩ := bind_some hF
                          refine wpn_idx (T := zj) r2652 hO.base rfl rfl g2734 (by decide) fun a2735 _ k2736 m2737 => ?_
                          obtain ⟨v2738, v2742, rfl, r2739, r2743⟩ := k2736
                          obtain ⟨A2740, c2741, rfl, -⟩ := r2739.form
                          obtain ⟨A2744, c2745, rfl, -⟩ := r2743.form
                          refine wpn_q hO 1 [] [(0, .slice A0 p0.length c0), (1, .slice A1 p1.length c1), (5, .int .i64 x932), (7, .int .i64 x2654), (127, .pointer (some (a2735.add 4)))] (ar (ar (ar (ar (ar trivial))))) fun j => ?_
                          refine wpn_ld rfl ((m2737.le hO.base).one 4 rfl) ?_
                          refine wpn_q hO 1 [] [(0, .slice A0 p0.length c0), (1, .slice A1 p1.length c1), (5, .int .i64 x932), (7, .int .i64 x2654), (128, .slice A2744 y2733.Spans.length c2745), (129, .int .i64 x2654)] (ar (ar (ar (ar (ar (ar trivial)))))) fun j => ?_
                          obtain ⟨y2746, g2747, hF⟩ := bind_some hF
                          refine wpn_idx (T := (Ty.slice zk)) r2743 hO.base rfl rfl g2747 (by decide) fun a2748 _ k2749 m2750 => ?_
                          obtain ⟨v2751, rfl, r2752⟩ := k2749
                          obtain ⟨A2753, c2754, rfl, -⟩ := r2752.form
                          refine wpn_ld rfl (m2750.le hO.base).fst ?_
                          refine wpn_q hO 2 [] [(0, .slice A0 p0.length c0), (1, .slice A1 p1.length c1), (5, .int .i64 x932), (7, .int .i64 x2654), (131, .slice A2753 y2746.length c2754), (132, .slice A1 p1.length c1), (133, .int .i64 x932)] (ar (ar (ar (ar (ar (ar (ar trivial))))))) fun j => ?_
                          obtain ⟨y2755, g2756, hF⟩ := bind_some hF
                          refine wpn_idx (T := zj) r2653 hO.base rfl rfl g2756 (by decide) fun a2757 _ k2758 m2759 => ?_
                          obtain ⟨v2760, v2764, rfl, r2761, r2765⟩ := k2758
                          obtain ⟨A2762, c2763, rfl, -⟩ := r2761.form
                          obtain ⟨A2766, c2767, rfl, -⟩ := r2765.form
                          refine wpn_q hO 1 [] [(0, .slice A0 p0.length c0), (1, .slice A1 p1.length c1), (5, .int .i64 x932), (7, .int .i64 x2654), (131, .slice A2753 y2746.length c2754), (135, .pointer (some (a2757.add 4)))] (ar (ar (ar (ar (ar (ar trivial)))))) fun j => ?_
                          refine wpn_ld rfl ((m2759.le hO.base).one 4 rfl) ?_
                          refine wpn_q hO 1 [] [(0, .slice A0 p0.length c0), (1, .slice A1 p1.length c1), (5, .int .i64 x932), (7, .int .i64 x2654), (131, .slice A2753 y2746.length c2754), (136, .slice A2766 y2755.Spans.length c2767), (137, .int .i64 x2654)] (ar (ar (ar (ar (ar (ar (ar trivial))))))) fun j => ?_
                          obtain ⟨y2768, g2769, hF⟩ := bind_some hF
                          refine wpn_idx (T := (Ty.slice zk)) r2765 hO.base rfl rfl g2769 (by decide) fun a2770 _ k2771 m2772 => ?_
                          obtain ⟨v2773, rfl, r2774⟩ := k2771
                          obtain ⟨A2775, c2776, rfl, -⟩ := r2774.form
                          refine wpn_ld rfl (m2772.le hO.base).fst ?_
                          obtain ⟨c2777, h2778, hF⟩ := bind_some hF
                          refine wpn_c0 hO (zeY r2752 r2774 h2778) rfl fun _ σ _ _ hO h2779 h2780 => ?_
                          have hL := hL.trans h2779
                          have r2652 := r2652.le h2779
                          have r2653 := r2653.le h2779
                          have r2752 := r2752.le h2779
                          have r2765 := r2765.le h2779
                          have m2772 := m2772.le h2779
                          have r2774 := r2774.le h2779
                          obtain ⟨rfl, rfl⟩ := h2780
                          have hO : Obs _ _ [] := hO
                          refine wpn_qa hO [] [(0, .slice A0 p0.length c0), (1, .slice A1 p1.length c1), (5, .int .i64 x932), (7, .int .i64 x2654), (141, .bool (!c2777))] (ar (ar (ar (ar (ar trivial))))) fun j => ?_
                          refine wpn_clast ?_
                          rcases ite_some hF with ⟨hb2781, hF⟩ | ⟨hb2781, hF⟩
                          · refine wpn_cT (congrArg Value.bool hb2781) ?_
                            refine wpn_assoc ?_
                            refine wpn_qa hO [] [(4, .bool false)] (ar trivial) fun j => ?_
                            refine wpn_rt ?_
                            refine inb_r1 ?_
                            refine thn_r1 ?_
                            refine thn_r1 ?_
                            refine inb_r1 ?_
                            refine thn_r1 ?_
                            refine inb_r1 ?_
                            refine thn_r1 ?_
                            refine thn_r1 ?_
                            refine inb_r1 ?_
                            refine thn_r1 ?_
                            injection hF with hF
                            subst hF
                            exact hQ _ _ _ _ _ rfl hO hL ⟨rfl, rfl⟩
                          · refine wpn_cF (congrArg Value.bool hb2781) ?_
                            refine wpn_sk ?_
                            refine wpn_end ?_
                            refine inb_i ?_
                            refine thn_i ?_
                            refine wpn_rlast ?_
                            refine wpn_qa hO [] [(0, .slice A0 p0.length c0), (1, .slice A1 p1.length c1), (5, .int .i64 x932), (7, .int .i64 (IntKind.i64.wrap (x2654 + 1)))] (ar (ar (ar (ar trivial)))) fun j => ?_
                            refine wpn_end ?_
                            refine thn_i ?_
                            exact ⟨n2718, Nat.lt_succ_self _, (IntKind.i64.wrap (x2654 + 1)), _, ar (ar (ar (ar trivial))), hO, hL, r2652, r2653, hF⟩
                        · refine wpn_cF (congrArg Value.bool hb2732) ?_
                          refine wpn_ex ?_
                          refine thn_x ?_
                          refine inb_x ?_
                          refine thn_i ?_
                          refine wpn_end ?_
                          refine inb_i ?_
                          refine thn_i ?_
                          refine wpn_rlast ?_
                          refine wpn_qa hO [] [(0, .slice A0 p0.length c0), (1, .slice A1 p1.length c1), (5, .int .i64 (IntKind.i64.wrap (x932 + 1)))] (ar (ar (ar trivial))) fun j => ?_
                          refine wpn_end ?_
                          refine thn_i ?_
                          exact ⟨n1857, Nat.lt_succ_self _, (IntKind.i64.wrap (x932 + 1)), _, ar (ar (ar trivial)), hO, hL, r2652, r2653, hF⟩
      · refine wpn_cF (congrArg Value.bool hb1858) ?_
        refine wpn_ex ?_
        refine thn_x ?_
        refine inb_x ?_
        refine thn_i ?_
        refine wpn_qa hO [] [(4, .bool true)] (ar trivial) fun j => ?_
        refine wpn_r1 ?_
        injection hF with hF
        subst hF
        exact hQ _ _ _ _ _ rfl hO hL ⟨rfl, rfl⟩
theorem zdT {τ : Hp} {v0 : Value} {p0 : (List zi)} {v1 : Value} {p1 : (List zi)} (r0 : RdT zl τ v0 p0) (r1 : RdT zl τ v1 p1) {rr : Bool} (hF : zbd p0 p1 = some rr) :
    Ctr Try.prog 15 #[v0, v1] τ [] (fun v τ' vs' => v = .bool rr ∧ vs' = []) := by
  obtain ⟨A0, c0, rfl, -⟩ := r0.form
  obtain ⟨A1, c1, rfl, -⟩ := r1.form
  refine ctr_of (args := [.slice A0 p0.length c0, .slice A1 p1.length c1]) hm Try.func15 s15 rfl fun w0 σ hO Q hQ => ?_
  unfold zbd at hF
  have hL := Hp.le.refl τ
  show wpn _ _ a15.body _ _ _
  unfold a15
  dsimp only
  refine wpn_qa hO [] [(0, .slice A0 p0.length c0), (1, .slice A1 p1.length c1)] (ar (ar trivial)) fun j => ?_
  refine wpn_assoc ?_
  refine wpn_qa hO [] [(0, .slice A0 p0.length c0), (1, .slice A1 p1.length c1), (11, .bool ((p0.length : Int) != (p1.length : Int)))] (ar (ar (ar trivial))) fun j => ?_
  rcases ite_some hF with ⟨hb3, hF⟩ | ⟨hb3, hF⟩
  · refine wpn_cT (congrArg Value.bool hb3) ?_
    refine wpn_assoc ?_
    refine wpn_qa hO [] [(4, .bool false)] (ar trivial) fun j => ?_
    refine wpn_rt ?_
    injection hF with hF
    subst hF
    exact hQ _ _ _ _ _ rfl hO hL ⟨rfl, rfl⟩
  · refine wpn_cF (congrArg Value.bool hb3) ?_
    refine wpn_sk ?_
    refine wpn_assoc ?_
    refine wpn_qa hO [] [(0, .slice A0 p0.length c0), (1, .slice A1 p1.length c1), (5, .int .i64 0)] (ar (ar (ar trivial))) fun j => ?_
    refine wpn_bl ?_
    refine wpn_lp (fun (n : Nat) e' σ' => ∃ (x193 : Int) (τ' : Hp), agr [(0, .slice A0 p0.length c0), (1, .slice A1 p1.length c1), (5, .int .i64 x193)] e' ∧ Obs τ' σ' [] ∧ Hp.le τ τ' ∧ RdT zl τ' (.slice A0 p0.length c0) p0 ∧ RdT zl τ' (.slice A1 p1.length c1) p1 ∧ zI p0 p1 n x193 = some rr) big ⟨0, _, ar (ar (ar trivial)), hO, hL, r0, r1, hF⟩ ?_
    clear hF hO hL
    rintro n379 e σ ⟨x193, _, hA, hO, hL, r191, r192, hF⟩
    rw [← sets_agr _ _ hA]
    cases n379 with
    | zero => exact nomatch (show none = some rr from hF)
    | succ n379 =>
      replace hF : zb0 (zI p0 p1 n379) p0 p1 x193 = some rr := hF
      unfold zb0 at hF
      refine wpn_assoc ?_
      refine wpn_qa hO [] [(0, .slice A0 p0.length c0), (1, .slice A1 p1.length c1), (5, .int .i64 x193), (15, .bool (decide (x193 < (p0.length : Int))))] (ar (ar (ar (ar trivial)))) fun j => ?_
      rcases ite_some hF with ⟨hb380, hF⟩ | ⟨hb380, hF⟩
      · refine wpn_cT (congrArg Value.bool hb380) ?_
        refine wpn_sk ?_
        refine wpn_bl ?_
        refine wpn_assoc ?_
        refine wpn_p2r ?_
        refine wpn_q hO 2 [] [(0, .slice A0 p0.length c0), (1, .slice A1 p1.length c1), (5, .int .i64 x193), (18, .slice A0 p0.length c0), (19, .int .i64 x193)] (ar (ar (ar (ar (ar trivial))))) fun j => ?_
        obtain ⟨y381, g382, hF⟩ := bind_some hF
        refine wpn_idx (T := zl) r191 hO.base rfl rfl g382 (by decide) fun a383 _ k384 m385 => ?_
        obtain ⟨v386, rfl, r387⟩ := k384
        obtain ⟨A388, c389, rfl, -⟩ := r387.form
        refine wpn_q hO 1 [] [(0, .slice A0 p0.length c0), (1, .slice A1 p1.length c1), (5, .int .i64 x193), (21, .pointer (some a383))] (ar (ar (ar (ar trivial)))) fun j => ?_
        refine wpn_ld rfl (m385.le hO.base).fst ?_
        refine wpn_q hO 2 [] [(0, .slice A0 p0.length c0), (1, .slice A1 p1.length c1), (5, .int .i64 x193), (22, .int .i64 y381.Func), (23, .slice A1 p1.length c1), (24, .int .i64 x193)] (ar (ar (ar (ar (ar (ar trivial)))))) fun j => ?_
        obtain ⟨y390, g391, hF⟩ := bind_some hF
        refine wpn_idx (T := zl) r192 hO.base rfl rfl g391 (by decide) fun a392 _ k393 m394 => ?_
        obtain ⟨v395, rfl, r396⟩ := k393
        obtain ⟨A397, c398, rfl, -⟩ := r396.form
        refine wpn_q hO 1 [] [(0, .slice A0 p0.length c0), (1, .slice A1 p1.length c1), (5, .int .i64 x193), (22, .int .i64 y381.Func), (26, .pointer (some a392))] (ar (ar (ar (ar (ar trivial))))) fun j => ?_
        refine wpn_ld rfl (m394.le hO.base).fst ?_
        refine wpn_q hO 2 [] [(0, .slice A0 p0.length c0), (1, .slice A1 p1.length c1), (5, .int .i64 x193), (29, .bool (y381.Func != y390.Func))] (ar (ar (ar (ar trivial)))) fun j => ?_
        obtain ⟨c399, h400, hF⟩ := bind_some hF
        refine wpn_midq 2 [(41, .bool c399), (0, .slice A0 p0.length c0), (1, .slice A1 p1.length c1), (5, .int .i64 x193)] (fun Q hQ => ?_) fun j => ?_
        · have hF := h400
          rcases ite_some hF with ⟨hb401, hF⟩ | ⟨hb401, hF⟩
          · refine wpn_gF (congrArg (fun x => isB (.bool x) false) hb401) ?_
            refine wpn_pk (congrArg Value.bool hb401) ?_
            refine wpn_nil ?_
            injection hF with hF
            subst hF
            refine wpn_end ?_
            exact hQ _ (ar (ar (ar (ar trivial))))
          · refine wpn_gT (congrArg (fun x => isB (.bool x) false) hb401) ?_
            refine wpn_q hO 2 [] [(0, .slice A0 p0.length c0), (1, .slice A1 p1.length c1), (5, .int .i64 x193), (29, .bool (y381.Func != y390.Func)), (30, .slice A0 p0.length c0), (31, .int .i64 x193)] (ar (ar (ar (ar (ar (ar trivial)))))) fun j => ?_
            obtain ⟨y402, g403, hF⟩ := bind_some hF
            refine wpn_idx (T := zl) r191 hO.base rfl rfl g403 (by decide) fun a404 _ k405 m406 => ?_
            obtain ⟨v407, rfl, r408⟩ := k405
            obtain ⟨A409, c410, rfl, -⟩ := r408.form
            refine wpn_q hO 1 [] [(0, .slice A0 p0.length c0), (1, .slice A1 p1.length c1), (5, .int .i64 x193), (29, .bool (y381.Func != y390.Func)), (33, .pointer (some (a404.add 1)))] (ar (ar (ar (ar (ar trivial))))) fun j => ?_
            refine wpn_ld rfl ((m406.le hO.base).one 1 rfl) ?_
            refine wpn_q hO 2 [] [(0, .slice A0 p0.length c0), (1, .slice A1 p1.length c1), (5, .int .i64 x193), (29, .bool (y381.Func != y390.Func)), (34, .int .i64 y402.Line), (35, .slice A1 p1.length c1), (36, .int .i64 x193)] (ar (ar (ar (ar (ar (ar (ar trivial))))))) fun j => ?_
            obtain ⟨y411, g412, hF⟩ := bind_some hF
            refine wpn_idx (T := zl) r192 hO.base rfl rfl g412 (by decide) fun a413 _ k414 m415 => ?_
            obtain ⟨v416, rfl, r417⟩ := k414
            obtain ⟨A418, c419, rfl, -⟩ := r417.form
            refine wpn_q hO 1 [] [(0, .slice A0 p0.length c0), (1, .slice A1 p1.length c1), (5, .int .i64 x193), (29, .bool (y381.Func != y390.Func)), (34, .int .i64 y402.Line), (38, .pointer (some (a413.add 1)))] (ar (ar (ar (ar (ar (ar trivial)))))) fun j => ?_
            refine wpn_ld rfl ((m415.le hO.base).one 1 rfl) ?_
            refine wpn_q hO 1 [] [(0, .slice A0 p0.length c0), (1, .slice A1 p1.length c1), (5, .int .i64 x193), (29, .bool (y381.Func != y390.Func)), (40, .bool (y402.Line != y411.Line))] (ar (ar (ar (ar (ar trivial))))) fun j => ?_
            refine wpn_pk (congrArg Value.bool hb401) ?_
            refine wpn_nil ?_
            injection hF with hF
            subst hF
            refine wpn_end ?_
            exact hQ _ (ar (ar (ar (ar trivial))))
        · refine wpn_q hO 1 [] [(0, .slice A0 p0.length c0), (1, .slice A1 p1.length c1), (5, .int .i64 x193), (42, .bool c399)] (ar (ar (ar (ar trivial)))) fun j => ?_
          obtain ⟨c420, h421, hF⟩ := bind_some hF
          refine wpn_midq 2 [(56, .bool c420), (0, .slice A0 p0.length c0), (1, .slice A1 p1.length c1), (5, .int .i64 x193)] (fun Q hQ => ?_) fun j => ?_
          · have hF := h421
            rcases ite_some hF with ⟨hb422, hF⟩ | ⟨hb422, hF⟩
            · refine wpn_gF (congrArg (fun x => isB (.bool x) false) hb422) ?_
              refine wpn_pk (congrArg Value.bool hb422) ?_
              refine wpn_nil ?_
              injection hF with hF
              subst hF
              refine wpn_end ?_
              exact hQ _ (ar (ar (ar (ar trivial))))
            · refine wpn_gT (congrArg (fun x => isB (.bool x) false) hb422) ?_
              refine wpn_q hO 2 [] [(0, .slice A0 p0.length c0), (1, .slice A1 p1.length c1), (5, .int .i64 x193), (42, .bool c399), (43, .slice A0 p0.length c0), (44, .int .i64 x193)] (ar (ar (ar (ar (ar (ar trivial)))))) fun j => ?_
              obtain ⟨y423, g424, hF⟩ := bind_some hF
              refine wpn_idx (T := zl) r191 hO.base rfl rfl g424 (by decide) fun a425 _ k426 m427 => ?_
              obtain ⟨v428, rfl, r429⟩ := k426
              obtain ⟨A430, c431, rfl, -⟩ := r429.form
              refine wpn_q hO 1 [] [(0, .slice A0 p0.length c0), (1, .slice A1 p1.length c1), (5, .int .i64 x193), (42, .bool c399), (46, .pointer (some (a425.add 2)))] (ar (ar (ar (ar (ar trivial))))) fun j => ?_
              refine wpn_ld rfl ((m427.le hO.base).one 2 rfl) ?_
              refine wpn_q hO 3 [] [(0, .slice A0 p0.length c0), (1, .slice A1 p1.length c1), (5, .int .i64 x193), (42, .bool c399), (48, .int .i64 (y423.Scope.length : Int)), (49, .slice A1 p1.length c1), (50, .int .i64 x193)] (ar (ar (ar (ar (ar (ar (ar trivial))))))) fun j => ?_
              obtain ⟨y432, g433, hF⟩ := bind_some hF
              refine wpn_idx (T := zl) r192 hO.base rfl rfl g433 (by decide) fun a434 _ k435 m436 => ?_
              obtain ⟨v437, rfl, r438⟩ := k435
              obtain ⟨A439, c440, rfl, -⟩ := r438.form
              refine wpn_q hO 1 [] [(0, .slice A0 p0.length c0), (1, .slice A1 p1.length c1), (5, .int .i64 x193), (42, .bool c399), (48, .int .i64 (y423.Scope.length : Int)), (52, .pointer (some (a434.add 2)))] (ar (ar (ar (ar (ar (ar trivial)))))) fun j => ?_
              refine wpn_ld rfl ((m436.le hO.base).one 2 rfl) ?_
              refine wpn_q hO 2 [] [(0, .slice A0 p0.length c0), (1, .slice A1 p1.length c1), (5, .int .i64 x193), (42, .bool c399), (55, .bool ((y423.Scope.length : Int) != (y432.Scope.length : Int)))] (ar (ar (ar (ar (ar trivial))))) fun j => ?_
              refine wpn_pk (congrArg Value.bool hb422) ?_
              refine wpn_nil ?_
              injection hF with hF
              subst hF
              refine wpn_end ?_
              exact hQ _ (ar (ar (ar (ar trivial))))
          · refine wpn_nil ?_
            rcases ite_some hF with ⟨hb441, hF⟩ | ⟨hb441, hF⟩
            · refine wpn_cT (congrArg Value.bool hb441) ?_
              refine wpn_assoc ?_
              refine wpn_qa hO [] [(4, .bool false)] (ar trivial) fun j => ?_
              refine wpn_rt ?_
              refine inb_r1 ?_
              refine thn_r1 ?_
              refine thn_r1 ?_
              refine inb_r1 ?_
              refine thn_r1 ?_
              injection hF with hF
              subst hF
              exact hQ _ _ _ _ _ rfl hO hL ⟨rfl, rfl⟩
            · refine wpn_cF (congrArg Value.bool hb441) ?_
              refine wpn_sk ?_
              refine wpn_qa hO [] [(0, .slice A0 p0.length c0), (1, .slice A1 p1.length c1), (5, .int .i64 x193), (6, .int .i64 0)] (ar (ar (ar (ar trivial)))) fun j => ?_
              refine wpn_blast ?_
              refine wpn_bl ?_
              refine wpn_lp (fun (n : Nat) e' σ' => ∃ (x485 : Int) (τ' : Hp), agr [(0, .slice A0 p0.length c0), (1, .slice A1 p1.length c1), (5, .int .i64 x193), (6, .int .i64 x485)] e' ∧ Obs τ' σ' [] ∧ Hp.le τ τ' ∧ RdT zl τ' (.slice A0 p0.length c0) p0 ∧ RdT zl τ' (.slice A1 p1.length c1) p1 ∧ zb5 (zI p0 p1 n379) p0 p1 x193 n x485 = some rr) big ⟨0, _, ar (ar (ar (ar trivial))), hO, hL, r191, r192, hF⟩ ?_
              clear hF hO hL
              rintro n525 e σ ⟨x485, _, hA, hO, hL, r483, r484, hF⟩
              rw [← sets_agr _ _ hA]
              cases n525 with
              | zero => exact nomatch (show none = some rr from hF)
              | succ n525 =>
                replace hF : zc4 (zb5 (zI p0 p1 n379) p0 p1 x193 n525) (zI p0 p1 n379) p0 p1 x193 x485 = some rr := hF
                unfold zc4 at hF
                refine wpn_assoc ?_
                refine wpn_q hO 3 [] [(0, .slice A0 p0.length c0), (1, .slice A1 p1.length c1), (5, .int .i64 x193), (6, .int .i64 x485), (57, .int .i64 x485), (58, .slice A0 p0.length c0), (59, .int .i64 x193)] (ar (ar (ar (ar (ar (ar (ar trivial))))))) fun j => ?_
                obtain ⟨y526, g527, hF⟩ := bind_some hF
                refine wpn_idx (T := zl) r483 hO.base rfl rfl g527 (by decide) fun a528 _ k529 m530 => ?_
                obtain ⟨v531, rfl, r532⟩ := k529
                obtain ⟨A533, c534, rfl, -⟩ := r532.form
                refine wpn_q hO 1 [] [(0, .slice A0 p0.length c0), (1, .slice A1 p1.length c1), (5, .int .i64 x193), (6, .int .i64 x485), (57, .int .i64 x485), (61, .pointer (some (a528.add 2)))] (ar (ar (ar (ar (ar (ar trivial)))))) fun j => ?_
                refine wpn_ld rfl ((m530.le hO.base).one 2 rfl) ?_
                refine wpn_qa hO [] [(0, .slice A0 p0.length c0), (1, .slice A1 p1.length c1), (5, .int .i64 x193), (6, .int .i64 x485), (64, .bool (decide (x485 < (y526.Scope.length : Int))))] (ar (ar (ar (ar (ar trivial))))) fun j => ?_
                rcases ite_some hF with ⟨hb535, hF⟩ | ⟨hb535, hF⟩
                · refine wpn_cT (congrArg Value.bool hb535) ?_
                  refine wpn_sk ?_
                  refine wpn_bl ?_
                  refine wpn_p2r ?_
                  refine wpn_q hO 2 [] [(0, .slice A0 p0.length c0), (1, .slice A1 p1.length c1), (5, .int .i64 x193), (6, .int .i64 x485), (67, .slice A0 p0.length c0), (68, .int .i64 x193)] (ar (ar (ar (ar (ar (ar trivial)))))) fun j => ?_
                  obtain ⟨y536, g537, hF⟩ := bind_some hF
                  refine wpn_idx (T := zl) r483 hO.base rfl rfl g537 (by decide) fun a538 _ k539 m540 => ?_
                  obtain ⟨v541, rfl, r542⟩ := k539
                  obtain ⟨A543, c544, rfl, -⟩ := r542.form
                  refine wpn_q hO 1 [] [(0, .slice A0 p0.length c0), (1, .slice A1 p1.length c1), (5, .int .i64 x193), (6, .int .i64 x485), (70, .pointer (some (a538.add 2)))] (ar (ar (ar (ar (ar trivial))))) fun j => ?_
                  refine wpn_ld rfl ((m540.le hO.base).one 2 rfl) ?_
                  refine wpn_q hO 1 [] [(0, .slice A0 p0.length c0), (1, .slice A1 p1.length c1), (5, .int .i64 x193), (6, .int .i64 x485), (71, .slice A543 y536.Scope.length c544), (72, .int .i64 x485)] (ar (ar (ar (ar (ar (ar trivial)))))) fun j => ?_
                  obtain ⟨y545, g546, hF⟩ := bind_some hF
                  refine wpn_idx (T := (Ty.int .i64)) r542 hO.base rfl rfl g546 (by decide) fun a547 _ k548 m549 => ?_
                  obtain rfl : _ = ([.int .i64 y545] : List Value) := k548
                  refine wpn_ld rfl (m549.le hO.base).fst ?_
                  refine wpn_q hO 2 [] [(0, .slice A0 p0.length c0), (1, .slice A1 p1.length c1), (5, .int .i64 x193), (6, .int .i64 x485), (74, .int .i64 y545), (75, .slice A1 p1.length c1), (76, .int .i64 x193)] (ar (ar (ar (ar (ar (ar (ar trivial))))))) fun j => ?_
                  obtain ⟨y550, g551, hF⟩ := bind_some hF
                  refine wpn_idx (T := zl) r484 hO.base rfl rfl g551 (by decide) fun a552 _ k553 m554 => ?_
                  obtain ⟨v555, rfl, r556⟩ := k553
                  obtain ⟨A557, c558, rfl, -⟩ := r556.form
                  refine wpn_q hO 1 [] [(0, .slice A0 p0.length c0), (1, .slice A1 p1.length c1), (5, .int .i64 x193), (6, .int .i64 x485), (74, .int .i64 y545), (78, .pointer (some (a552.add 2)))] (ar (ar (ar (ar (ar (ar trivial)))))) fun j => ?_
                  refine wpn_ld rfl ((m554.le hO.base).one 2 rfl) ?_
                  refine wpn_q hO 1 [] [(0, .slice A0 p0.length c0), (1, .slice A1 p1.length c1), (5, .int .i64 x193), (6, .int .i64 x485), (74, .int .i64 y545), (79, .slice A557 y550.Scope.length c558), (80, .int .i64 x485)] (ar (ar (ar (ar (ar (ar (ar trivial))))))) fun j => ?_
                  obtain ⟨y559, g560, hF⟩ := bind_some hF
                  refine wpn_idx (T := (Ty.int .i64)) r556 hO.base rfl rfl g560 (by decide) fun a561 _ k562 m563 => ?_
                  obtain rfl : _ = ([.int .i64 y559] : List Value) := k562
                  refine wpn_ld rfl (m563.le hO.base).fst ?_
                  refine wpn_qa hO [] [(0, .slice A0 p0.length c0), (1, .slice A1 p1.length c1), (5, .int .i64 x193), (6, .int .i64 x485), (83, .bool (y545 != y559))] (ar (ar (ar (ar (ar trivial))))) fun j => ?_
                  refine wpn_clast ?_
                  rcases ite_some hF with ⟨hb564, hF⟩ | ⟨hb564, hF⟩
                  · refine wpn_cT (congrArg Value.bool hb564) ?_
                    refine wpn_assoc ?_
                    refine wpn_qa hO [] [(4, .bool false)] (ar trivial) fun j => ?_
                    refine wpn_rt ?_
                    refine inb_r1 ?_
                    refine thn_r1 ?_
                    refine thn_r1 ?_
                    refine inb_r1 ?_
                    refine thn_r1 ?_
                    refine inb_r1 ?_
                    refine thn_r1 ?_
                    refine thn_r1 ?_
                    refine inb_r1 ?_
                    refine thn_r1 ?_
                    injection hF with hF
                    subst hF
                    exact hQ _ _ _ _ _ rfl hO hL ⟨rfl, rfl⟩
                  · refine wpn_cF (congrArg Value.bool hb564) ?_
                    refine wpn_sk ?_
                    refine wpn_end ?_
                    refine inb_i ?_
                    refine thn_i ?_
                    refine wpn_rlast ?_
                    refine wpn_qa hO [] [(0, .slice A0 p0.length c0), (1, .slice A1 p1.length c1), (5, .int .i64 x193), (6, .int .i64 (IntKind.i64.wrap (x485 + 1)))] (ar (ar (ar (ar trivial)))) fun j => ?_
                    refine wpn_end ?_
                    refine thn_i ?_
                    exact ⟨n525, Nat.lt_succ_self _, (IntKind.i64.wrap (x485 + 1)), _, ar (ar (ar (ar trivial))), hO, hL, r483, r484, hF⟩
                · refine wpn_cF (congrArg Value.bool hb535) ?_
                  refine wpn_ex ?_
                  refine thn_x ?_
                  refine inb_x ?_
                  refine thn_i ?_
                  refine wpn_end ?_
                  refine inb_i ?_
                  refine thn_i ?_
                  refine wpn_rlast ?_
                  refine wpn_qa hO [] [(0, .slice A0 p0.length c0), (1, .slice A1 p1.length c1), (5, .int .i64 (IntKind.i64.wrap (x193 + 1)))] (ar (ar (ar trivial))) fun j => ?_
                  refine wpn_end ?_
                  refine thn_i ?_
                  exact ⟨n379, Nat.lt_succ_self _, (IntKind.i64.wrap (x193 + 1)), _, ar (ar (ar trivial)), hO, hL, r483, r484, hF⟩
      · refine wpn_cF (congrArg Value.bool hb380) ?_
        refine wpn_ex ?_
        refine thn_x ?_
        refine inb_x ?_
        refine thn_i ?_
        refine wpn_qa hO [] [(4, .bool true)] (ar trivial) fun j => ?_
        refine wpn_r1 ?_
        injection hF with hF
        subst hF
        exact hQ _ _ _ _ _ rfl hO hL ⟨rfl, rfl⟩
theorem zdm {τ : Hp} {p0 : ByteArray}  {rr : Bool} (hF : z3 p0 = some rr) :
    Ctr Try.prog 48 #[.string p0] τ [] (fun v τ' vs' => v = .bool rr ∧ vs' = []) := by
  refine ctr_of (args := [.string p0]) hm Try.func48 s48 rfl fun w0 σ hO Q hQ => ?_
  unfold z3 at hF
  have hL := Hp.le.refl τ
  show wpn _ _ a48.body _ _ _
  unfold a48
  dsimp only
  refine wpn_qa hO [] [(0, .string p0)] (ar trivial) fun j => ?_
  refine wpn_assoc ?_
  refine wpn_q hO 1 [] [(0, .string p0), (5, .string p0)] (ar (ar trivial)) fun j => ?_
  refine wpn_tb hO rfl fun _ σ _ hO h5 r2 => ?_
  have hL := hL.trans h5
  obtain ⟨A3, c4, rfl, -⟩ := r2.form
  refine wpn_qa hO [] [(0, .string p0), (6, .slice A3 (p0.data.toList).length c4), (7, .int .i64 ((p0.data.toList).length : Int)), (8, .int .i64 0)] (ar (ar (ar (ar trivial)))) fun j => ?_
  refine wpn_bl ?_
  refine wpn_lp (fun (n : Nat) e' σ' => ∃ (x21 : Int) (τ' : Hp), agr [(0, .string p0), (6, .slice A3 (p0.data.toList).length c4), (7, .int .i64 ((p0.data.toList).length : Int)), (8, .int .i64 x21)] e' ∧ Obs τ' σ' [] ∧ Hp.le τ τ' ∧ RdT Ty.u8 τ' (.slice A3 (p0.data.toList).length c4) (p0.data.toList) ∧ zbX p0 n x21 = some rr) big ⟨0, _, ar (ar (ar (ar trivial))), hO, hL, r2, hF⟩ ?_
  clear hF hO hL
  rintro n35 e σ ⟨x21, _, hA, hO, hL, r20, hF⟩
  rw [← sets_agr _ _ hA]
  cases n35 with
  | zero => exact nomatch (show none = some rr from hF)
  | succ n35 =>
    replace hF : zbt (zbX p0 n35) p0 x21 = some rr := hF
    unfold zbt at hF
    refine wpn_qa hO [] [(0, .string p0), (6, .slice A3 (p0.data.toList).length c4), (7, .int .i64 ((p0.data.toList).length : Int)), (8, .int .i64 x21), (9, .bool (decide (x21 < ((p0.data.toList).length : Int))))] (ar (ar (ar (ar (ar trivial))))) fun j => ?_
    rcases ite_some hF with ⟨hb36, hF⟩ | ⟨hb36, hF⟩
    · refine wpn_cT (congrArg Value.bool hb36) ?_
      refine wpn_sk ?_
      refine wpn_bl ?_
      obtain ⟨y37, g38, hF⟩ := bind_some hF
      refine wpn_idx (T := Ty.u8) r20 hO.base rfl rfl g38 (by decide) fun a39 _ k40 m41 => ?_
      obtain rfl : _ = ([.int .u8 y37.toNat] : List Value) := k40
      refine wpn_ld rfl (m41.le hO.base).fst ?_
      refine wpn_qa hO [] [(0, .string p0), (4, .int .u8 (y37.toNat : Int)), (6, .slice A3 (p0.data.toList).length c4), (7, .int .i64 ((p0.data.toList).length : Int)), (8, .int .i64 x21)] (ar (ar (ar (ar (ar trivial))))) fun j => ?_
      refine wpn_blast ?_
      refine wpn_bl ?_
      refine wpn_assoc ?_
      refine wpn_qa hO [] [(0, .string p0), (4, .int .u8 (y37.toNat : Int)), (6, .slice A3 (p0.data.toList).length c4), (7, .int .i64 ((p0.data.toList).length : Int)), (8, .int .i64 x21), (12, .bool ((decide ((y37.toNat : Int) ≥ 97)) && (decide ((y37.toNat : Int) ≤ 122))))] (And.intro (And.intro rfl rfl) (fun _ => ar (ar (ar (ar (ar (ar trivial))))))) fun j => ?_
      rcases ite_some hF with ⟨hb42, hF⟩ | ⟨hb42, hF⟩
      · refine wpn_cT (congrArg Value.bool hb42) ?_
        refine wpn_sk ?_
        refine wpn_clast ?_
        rcases ite_some hF with ⟨hb43, hF⟩ | ⟨hb43, hF⟩
        · refine wpn_cT (congrArg Value.bool hb43) ?_
          refine wpn_sk ?_
          refine wpn_end ?_
          refine inb_i ?_
          refine thn_i ?_
          refine wpn_end ?_
          refine inb_i ?_
          refine thn_i ?_
          refine wpn_rlast ?_
          refine wpn_qa hO [] [(0, .string p0), (6, .slice A3 (p0.data.toList).length c4), (7, .int .i64 ((p0.data.toList).length : Int)), (8, .int .i64 (IntKind.i64.wrap (x21 + 1)))] (ar (ar (ar (ar trivial)))) fun j => ?_
          refine wpn_end ?_
          refine thn_i ?_
          exact ⟨n35, Nat.lt_succ_self _, (IntKind.i64.wrap (x21 + 1)), _, ar (ar (ar (ar trivial))), hO, hL, r20, hF⟩
        · refine wpn_cF (congrArg Value.bool hb43) ?_
          refine wpn_assoc ?_
          refine wpn_qa hO [] [(2, .bool false)] (ar trivial) fun j => ?_
          refine wpn_rt ?_
          refine inb_r1 ?_
          refine thn_r1 ?_
          refine inb_r1 ?_
          refine thn_r1 ?_
          refine thn_r1 ?_
          refine inb_r1 ?_
          refine thn_r1 ?_
          injection hF with hF
          subst hF
          exact hQ _ _ _ _ _ rfl hO hL ⟨rfl, rfl⟩
      · refine wpn_cF (congrArg Value.bool hb42) ?_
        refine wpn_assoc ?_
        refine wpn_qa hO [] [(0, .string p0), (4, .int .u8 (y37.toNat : Int)), (6, .slice A3 (p0.data.toList).length c4), (7, .int .i64 ((p0.data.toList).length : Int)), (8, .int .i64 x21), (12, .bool ((decide ((y37.toNat : Int) ≥ 65)) && (decide ((y37.toNat : Int) ≤ 90))))] (And.intro (And.intro rfl rfl) (fun _ => ar (ar (ar (ar (ar (ar trivial))))))) fun j => ?_
        rcases ite_some hF with ⟨hb44, hF⟩ | ⟨hb44, hF⟩
        · refine wpn_cT (congrArg Value.bool hb44) ?_
          refine wpn_sk ?_
          refine wpn_clast ?_
          rcases ite_some hF with ⟨hb45, hF⟩ | ⟨hb45, hF⟩
          · refine wpn_cT (congrArg Value.bool hb45) ?_
            refine wpn_sk ?_
            refine wpn_end ?_
            refine inb_i ?_
            refine thn_i ?_
            refine wpn_end ?_
            refine inb_i ?_
            refine thn_i ?_
            refine wpn_rlast ?_
            refine wpn_qa hO [] [(0, .string p0), (6, .slice A3 (p0.data.toList).length c4), (7, .int .i64 ((p0.data.toList).length : Int)), (8, .int .i64 (IntKind.i64.wrap (x21 + 1)))] (ar (ar (ar (ar trivial)))) fun j => ?_
            refine wpn_end ?_
            refine thn_i ?_
            exact ⟨n35, Nat.lt_succ_self _, (IntKind.i64.wrap (x21 + 1)), _, ar (ar (ar (ar trivial))), hO, hL, r20, hF⟩
          · refine wpn_cF (congrArg Value.bool hb45) ?_
            refine wpn_assoc ?_
            refine wpn_qa hO [] [(2, .bool false)] (ar trivial) fun j => ?_
            refine wpn_rt ?_
            refine inb_r1 ?_
            refine thn_r1 ?_
            refine inb_r1 ?_
            refine thn_r1 ?_
            refine thn_r1 ?_
            refine inb_r1 ?_
            refine thn_r1 ?_
            injection hF with hF
            subst hF
            exact hQ _ _ _ _ _ rfl hO hL ⟨rfl, rfl⟩
        · refine wpn_cF (congrArg Value.bool hb44) ?_
          refine wpn_assoc ?_
          refine wpn_qa hO [] [(0, .string p0), (4, .int .u8 (y37.toNat : Int)), (6, .slice A3 (p0.data.toList).length c4), (7, .int .i64 ((p0.data.toList).length : Int)), (8, .int .i64 x21), (12, .bool ((decide ((y37.toNat : Int) ≥ 48)) && (decide ((y37.toNat : Int) ≤ 57))))] (And.intro (And.intro rfl rfl) (fun _ => ar (ar (ar (ar (ar (ar trivial))))))) fun j => ?_
          rcases ite_some hF with ⟨hb46, hF⟩ | ⟨hb46, hF⟩
          · refine wpn_cT (congrArg Value.bool hb46) ?_
            refine wpn_sk ?_
            refine wpn_clast ?_
            rcases ite_some hF with ⟨hb47, hF⟩ | ⟨hb47, hF⟩
            · refine wpn_cT (congrArg Value.bool hb47) ?_
              refine wpn_sk ?_
              refine wpn_end ?_
              refine inb_i ?_
              refine thn_i ?_
              refine wpn_end ?_
              refine inb_i ?_
              refine thn_i ?_
              refine wpn_rlast ?_
              refine wpn_qa hO [] [(0, .string p0), (6, .slice A3 (p0.data.toList).length c4), (7, .int .i64 ((p0.data.toList).length : Int)), (8, .int .i64 (IntKind.i64.wrap (x21 + 1)))] (ar (ar (ar (ar trivial)))) fun j => ?_
              refine wpn_end ?_
              refine thn_i ?_
              exact ⟨n35, Nat.lt_succ_self _, (IntKind.i64.wrap (x21 + 1)), _, ar (ar (ar (ar trivial))), hO, hL, r20, hF⟩
            · refine wpn_cF (congrArg Value.bool hb47) ?_
              refine wpn_assoc ?_
              refine wpn_qa hO [] [(2, .bool false)] (ar trivial) fun j => ?_
              refine wpn_rt ?_
              refine inb_r1 ?_
              refine thn_r1 ?_
              refine inb_r1 ?_
              refine thn_r1 ?_
              refine thn_r1 ?_
              refine inb_r1 ?_
              refine thn_r1 ?_
              injection hF with hF
              subst hF
              exact hQ _ _ _ _ _ rfl hO hL ⟨rfl, rfl⟩
          · refine wpn_cF (congrArg Value.bool hb46) ?_
            refine wpn_qa hO [] [(0, .string p0), (6, .slice A3 (p0.data.toList).length c4), (7, .int .i64 ((p0.data.toList).length : Int)), (8, .int .i64 x21), (12, .bool ((y37.toNat : Int) == 95))] (ar (ar (ar (ar (ar trivial))))) fun j => ?_
            refine wpn_clast ?_
            rcases ite_some hF with ⟨hb48, hF⟩ | ⟨hb48, hF⟩
            · refine wpn_cT (congrArg Value.bool hb48) ?_
              refine wpn_sk ?_
              refine wpn_end ?_
              refine inb_i ?_
              refine thn_i ?_
              refine wpn_end ?_
              refine inb_i ?_
              refine thn_i ?_
              refine wpn_rlast ?_
              refine wpn_qa hO [] [(0, .string p0), (6, .slice A3 (p0.data.toList).length c4), (7, .int .i64 ((p0.data.toList).length : Int)), (8, .int .i64 (IntKind.i64.wrap (x21 + 1)))] (ar (ar (ar (ar trivial)))) fun j => ?_
              refine wpn_end ?_
              refine thn_i ?_
              exact ⟨n35, Nat.lt_succ_self _, (IntKind.i64.wrap (x21 + 1)), _, ar (ar (ar (ar trivial))), hO, hL, r20, hF⟩
            · refine wpn_cF (congrArg Value.bool hb48) ?_
              refine wpn_assoc ?_
              refine wpn_qa hO [] [(2, .bool false)] (ar trivial) fun j => ?_
              refine wpn_rt ?_
              refine inb_r1 ?_
              refine thn_r1 ?_
              refine inb_r1 ?_
              refine thn_r1 ?_
              refine thn_r1 ?_
              refine inb_r1 ?_
              refine thn_r1 ?_
              injection hF with hF
              subst hF
              exact hQ _ _ _ _ _ rfl hO hL ⟨rfl, rfl⟩
    · refine wpn_cF (congrArg Value.bool hb36) ?_
      refine wpn_ex ?_
      refine thn_x ?_
      refine inb_x ?_
      refine thn_i ?_
      refine wpn_qa hO [] [(2, .bool ((decide ((p0.size : Int) ≥ 1)) && (decide ((p0.size : Int) ≤ 24))))] (And.intro (And.intro rfl rfl) (fun _ => ar trivial)) fun j => ?_
      refine wpn_r1 ?_
      injection hF with hF
      subst hF
      exact hQ _ _ _ _ _ rfl hO hL ⟨rfl, rfl⟩
theorem zeW {τ : Hp} {p0 : zh} {v0_5 : Value} (r0_5 : RdT Ty.str τ v0_5 p0.Fields) {rr : Bool} (hF : zbm p0 = some rr) :
    Ctr Try.prog 49 #[.agg #[.string p0.Name, .int .u8 p0.Type_.Kind.toNat, .int .i64 p0.Type_.N, .string p0.Type_.Name, .int .i64 p0.Words, v0_5]] τ [] (fun v τ' vs' => v = .bool rr ∧ vs' = []) := by
  obtain ⟨A0_5, c0_5, rfl, -⟩ := r0_5.form
  refine ctr_of (args := [.agg #[.string p0.Name, .int .u8 p0.Type_.Kind.toNat, .int .i64 p0.Type_.N, .string p0.Type_.Name, .int .i64 p0.Words, (.slice A0_5 p0.Fields.length c0_5)]]) hm Try.func49 s49 rfl fun w0 σ hO Q hQ => ?_
  unfold zbm at hF
  have hL := Hp.le.refl τ
  show wpn _ _ a49.body _ _ _
  unfold a49
  dsimp only
  refine wpn_bx (n := 6) hO rfl rfl fun b2 σ hO => ?_
  have hO : Obs _ _ [_] := hO
  refine wpn_qa hO [] [(1, .pointer (some ⟨b2, 0, none⟩))] (ar trivial) fun j => ?_
  refine wpn_assoc ?_
  refine wpn_q hO 2 [0] [(1, .pointer (some ⟨b2, 0, none⟩)), (8, .string p0.Name)] (And.intro (And.intro rfl rfl) (ar (ar trivial))) fun j => ?_
  obtain ⟨c3, h4, hF⟩ := bind_some hF
  refine wpn_c0 hO (zdm h4) rfl fun _ σ _ _ hO h5 h6 => ?_
  have hL := hL.trans h5
  have r0_5 := r0_5.le h5
  obtain ⟨rfl, rfl⟩ := h6
  have hO : Obs _ _ [_] := hO
  refine wpn_qa hO [] [(1, .pointer (some ⟨b2, 0, none⟩)), (10, .bool (!c3))] (ar (ar trivial)) fun j => ?_
  rcases ite_some hF with ⟨hb7, hF⟩ | ⟨hb7, hF⟩
  · refine wpn_cT (congrArg Value.bool hb7) ?_
    refine wpn_assoc ?_
    refine wpn_qa hO [] [(2, .bool false)] (ar trivial) fun j => ?_
    refine wpn_rt ?_
    injection hF with hF
    subst hF
    have hO := hO.sel [] (by decide)
    exact hQ _ _ _ _ _ rfl hO hL ⟨rfl, rfl⟩
  · refine wpn_cF (congrArg Value.bool hb7) ?_
    refine wpn_sk ?_
    refine wpn_qa hO [0, 0] [(1, .pointer (some ⟨b2, 0, none⟩)), (3, .bool ((strEq p0.Type_.Name (⟨#[]⟩ : ByteArray)) && ((p0.Fields.length : Int) == 0)))] (And.intro (And.intro rfl rfl) (And.intro (And.intro rfl rfl) (And.intro (And.intro rfl rfl) (fun _ => ar (ar trivial))))) fun j => ?_
    refine wpn_assoc ?_
    refine wpn_qa hO [0] [(1, .pointer (some ⟨b2, 0, none⟩)), (3, .bool ((strEq p0.Type_.Name (⟨#[]⟩ : ByteArray)) && ((p0.Fields.length : Int) == 0))), (23, .int .u8 (p0.Type_.Kind.toNat : Int))] (And.intro (And.intro rfl rfl) (ar (ar (ar trivial)))) fun j => ?_
    refine wpn_bl ?_
    refine wpn_assoc ?_
    refine wpn_qa hO [] [(1, .pointer (some ⟨b2, 0, none⟩)), (3, .bool ((strEq p0.Type_.Name (⟨#[]⟩ : ByteArray)) && ((p0.Fields.length : Int) == 0))), (23, .int .u8 (p0.Type_.Kind.toNat : Int)), (24, .bool ((p0.Type_.Kind.toNat : Int) == 1))] (ar (ar (ar (ar trivial)))) fun j => ?_
    refine wpn_cut (fun e' σ' => ∃ (x10 : Bool) (τ' : Hp), agr [(1, .pointer (some ⟨b2, 0, none⟩)), (3, .bool ((strEq p0.Type_.Name (⟨#[]⟩ : ByteArray)) && ((p0.Fields.length : Int) == 0))), (23, .int .u8 (p0.Type_.Kind.toNat : Int)), (24, .bool x10)] e' ∧ Obs τ' σ' [some (b2, ⟨[.string p0.Name, .int .u8 (p0.Type_.Kind.toNat : Int), .int .i64 p0.Type_.N, .string p0.Type_.Name, .int .i64 p0.Words, .slice A0_5 p0.Fields.length c0_5], 64, 6, true⟩)] ∧ Hp.le τ τ' ∧ RdT Ty.str τ' (.slice A0_5 p0.Fields.length c0_5) p0.Fields ∧ zbN p0 x10 = some rr) ?_ ?_
    · refine wpn_clast ?_
      rcases ite_some hF with ⟨hb62, hF⟩ | ⟨hb62, hF⟩
      · refine wpn_cT (congrArg Value.bool hb62) ?_
        refine wpn_sk ?_
        refine wpn_end ?_
        refine thn_i ?_
        exact ⟨((p0.Type_.Kind.toNat : Int) == 1), _, ar (ar (ar (ar trivial))), hO, hL, r0_5, hF⟩
      · refine wpn_cF (congrArg Value.bool hb62) ?_
        refine wpn_qa hO [] [(1, .pointer (some ⟨b2, 0, none⟩)), (3, .bool ((strEq p0.Type_.Name (⟨#[]⟩ : ByteArray)) && ((p0.Fields.length : Int) == 0))), (23, .int .u8 (p0.Type_.Kind.toNat : Int)), (24, .bool ((p0.Type_.Kind.toNat : Int) == 2))] (ar (ar (ar (ar trivial)))) fun j => ?_
        refine wpn_end ?_
        refine thn_i ?_
        exact ⟨((p0.Type_.Kind.toNat : Int) == 2), _, ar (ar (ar (ar trivial))), hO, hL, r0_5, hF⟩
    · rintro e σ ⟨x10, _, hA, hO, hL, r9, hF⟩
      rw [← sets_agr _ _ hA]
      unfold zbN at hF
      refine wpn_clast ?_
      rcases ite_some hF with ⟨hb11, hF⟩ | ⟨hb11, hF⟩
      · refine wpn_cT (congrArg Value.bool hb11) ?_
        refine wpn_assoc ?_
        refine wpn_qa hO [0, 0] [(2, .bool ((((strEq p0.Type_.Name (⟨#[]⟩ : ByteArray)) && ((p0.Fields.length : Int) == 0)) && (p0.Type_.N == 0)) && (p0.Words == 1)))] (And.intro (And.intro rfl rfl) (And.intro (And.intro rfl rfl) (fun _ => And.intro (And.intro rfl rfl) (And.intro (And.intro rfl rfl) (fun _ => ar trivial))))) fun j => ?_
        refine wpn_rt ?_
        refine inb_r1 ?_
        refine thn_r1 ?_
        injection hF with hF
        subst hF
        have hO := hO.sel [] (by decide)
        exact hQ _ _ _ _ _ rfl hO hL ⟨rfl, rfl⟩
      · refine wpn_cF (congrArg Value.bool hb11) ?_
        refine wpn_assoc ?_
        refine wpn_qa hO [] [(1, .pointer (some ⟨b2, 0, none⟩)), (3, .bool ((strEq p0.Type_.Name (⟨#[]⟩ : ByteArray)) && ((p0.Fields.length : Int) == 0))), (23, .int .u8 (p0.Type_.Kind.toNat : Int)), (39, .bool ((p0.Type_.Kind.toNat : Int) == 3))] (ar (ar (ar (ar trivial)))) fun j => ?_
        rcases ite_some hF with ⟨hb12, hF⟩ | ⟨hb12, hF⟩
        · refine wpn_cT (congrArg Value.bool hb12) ?_
          refine wpn_assoc ?_
          refine wpn_qa hO [0, 0, 0, 0] [(2, .bool (((((strEq p0.Type_.Name (⟨#[]⟩ : ByteArray)) && ((p0.Fields.length : Int) == 0)) && (decide (p0.Type_.N ≥ 1))) && (decide (p0.Type_.N ≤ 16))) && (p0.Words == p0.Type_.N)))] (And.intro (And.intro rfl rfl) (And.intro (And.intro rfl rfl) (fun _ => And.intro (And.intro rfl rfl) (And.intro (And.intro rfl rfl) (fun _ => And.intro (And.intro rfl rfl) (And.intro (And.intro rfl rfl) (And.intro (And.intro rfl rfl) (fun _ => ar trivial)))))))) fun j => ?_
          refine wpn_rt ?_
          refine inb_r1 ?_
          refine thn_r1 ?_
          injection hF with hF
          subst hF
          have hO := hO.sel [] (by decide)
          exact hQ _ _ _ _ _ rfl hO hL ⟨rfl, rfl⟩
        · refine wpn_cF (congrArg Value.bool hb12) ?_
          refine wpn_assoc ?_
          refine wpn_qa hO [] [(1, .pointer (some ⟨b2, 0, none⟩)), (62, .bool ((p0.Type_.Kind.toNat : Int) == 4))] (ar (ar trivial)) fun j => ?_
          rcases ite_some hF with ⟨hb13, hF⟩ | ⟨hb13, hF⟩
          · refine wpn_cT (congrArg Value.bool hb13) ?_
            refine wpn_assoc ?_
            refine wpn_q hO 3 [0] [(1, .pointer (some ⟨b2, 0, none⟩)), (66, .string p0.Type_.Name)] (And.intro (And.intro rfl rfl) (ar (ar trivial))) fun j => ?_
            obtain ⟨c14, h15, hF⟩ := bind_some hF
            refine wpn_c0 hO (zdm h15) rfl fun _ σ _ _ hO h16 h17 => ?_
            have hL := hL.trans h16
            have r9 := r9.le h16
            obtain ⟨rfl, rfl⟩ := h17
            have hO : Obs _ _ [_] := hO
            refine wpn_qa hO [0, 0, 0, 0, 0] [(1, .pointer (some ⟨b2, 0, none⟩)), (4, .bool ((((c14 && (p0.Type_.N == 0)) && (p0.Words == (p0.Fields.length : Int))) && (decide (p0.Words ≥ 1))) && (decide (p0.Words ≤ 8))))] (And.intro (And.intro rfl rfl) (And.intro (And.intro rfl rfl) (fun _ => And.intro (And.intro rfl rfl) (And.intro (And.intro rfl rfl) (And.intro (And.intro rfl rfl) (fun _ => And.intro (And.intro rfl rfl) (And.intro (And.intro rfl rfl) (fun _ => And.intro (And.intro rfl rfl) (And.intro (And.intro rfl rfl) (fun _ => ar (ar trivial))))))))))) fun j => ?_
            refine wpn_assoc ?_
            refine wpn_assoc ?_
            refine wpn_qa hO [0] [(4, .bool ((((c14 && (p0.Type_.N == 0)) && (p0.Words == (p0.Fields.length : Int))) && (decide (p0.Words ≥ 1))) && (decide (p0.Words ≤ 8)))), (93, .slice A0_5 p0.Fields.length c0_5), (94, .int .i64 (p0.Fields.length : Int)), (95, .int .i64 0)] (And.intro (And.intro rfl rfl) (ar (ar (ar (ar trivial))))) fun j => ?_
            refine wpn_bl ?_
            have hO := hO.sel [] (by decide)
            refine wpn_lp (fun (n : Nat) e' σ' => ∃ (x32 : Bool) (x34 : Int) (τ' : Hp), agr [(4, .bool x32), (93, .slice A0_5 p0.Fields.length c0_5), (94, .int .i64 (p0.Fields.length : Int)), (95, .int .i64 x34)] e' ∧ Obs τ' σ' [] ∧ Hp.le τ τ' ∧ RdT Ty.str τ' (.slice A0_5 p0.Fields.length c0_5) p0.Fields ∧ zc3 p0 n x32 x34 = some rr) big ⟨((((c14 && (p0.Type_.N == 0)) && (p0.Words == (p0.Fields.length : Int))) && (decide (p0.Words ≥ 1))) && (decide (p0.Words ≤ 8))), 0, _, ar (ar (ar (ar trivial))), hO, hL, r9, hF⟩ ?_
            clear hF hO hL
            rintro n48 e σ ⟨x32, x34, _, hA, hO, hL, r33, hF⟩
            rw [← sets_agr _ _ hA]
            cases n48 with
            | zero => exact nomatch (show none = some rr from hF)
            | succ n48 =>
              replace hF : zco (zc3 p0 n48) p0 x32 x34 = some rr := hF
              unfold zco at hF
              refine wpn_qa hO [] [(4, .bool x32), (93, .slice A0_5 p0.Fields.length c0_5), (94, .int .i64 (p0.Fields.length : Int)), (95, .int .i64 x34), (96, .bool (decide (x34 < (p0.Fields.length : Int))))] (ar (ar (ar (ar (ar trivial))))) fun j => ?_
              rcases ite_some hF with ⟨hb49, hF⟩ | ⟨hb49, hF⟩
              · refine wpn_cT (congrArg Value.bool hb49) ?_
                refine wpn_sk ?_
                refine wpn_bl ?_
                obtain ⟨y50, g51, hF⟩ := bind_some hF
                refine wpn_idx (T := Ty.str) r33 hO.base rfl rfl g51 (by decide) fun a52 _ k53 m54 => ?_
                obtain rfl : _ = ([.string y50] : List Value) := k53
                refine wpn_ld rfl (m54.le hO.base).fst ?_
                refine wpn_qa hO [] [(4, .bool x32), (6, .string y50), (93, .slice A0_5 p0.Fields.length c0_5), (94, .int .i64 (p0.Fields.length : Int)), (95, .int .i64 x34)] (ar (ar (ar (ar (ar trivial))))) fun j => ?_
                refine wpn_rlast ?_
                refine wpn_q hO 2 [] [(6, .string y50), (93, .slice A0_5 p0.Fields.length c0_5), (94, .int .i64 (p0.Fields.length : Int)), (95, .int .i64 x34), (100, .bool x32)] (ar (ar (ar (ar (ar trivial))))) fun j => ?_
                obtain ⟨c55, h56, hF⟩ := bind_some hF
                refine wpn_mid 2 (fun e' σ' => ∃ (τ' : Hp), agr [(103, .bool c55), (93, .slice A0_5 p0.Fields.length c0_5), (94, .int .i64 (p0.Fields.length : Int)), (95, .int .i64 x34)] e' ∧ Obs τ' σ' [] ∧ Hp.le τ τ' ∧ RdT Ty.str τ' (.slice A0_5 p0.Fields.length c0_5) p0.Fields) ?_ ?_
                · have hF := h56
                  rcases ite_some hF with ⟨hb57, hF⟩ | ⟨hb57, hF⟩
                  · refine wpn_gT (congrArg (fun x => isB (.bool x) true) hb57) ?_
                    refine wpn_q hO 1 [] [(93, .slice A0_5 p0.Fields.length c0_5), (94, .int .i64 (p0.Fields.length : Int)), (95, .int .i64 x34), (100, .bool x32), (101, .string y50)] (ar (ar (ar (ar (ar trivial))))) fun j => ?_
                    obtain ⟨c58, h59, hF⟩ := bind_some hF
                    refine wpn_c0 hO (zdm h59) rfl fun _ σ _ _ hO h60 h61 => ?_
                    have hL := hL.trans h60
                    have r33 := r33.le h60
                    obtain ⟨rfl, rfl⟩ := h61
                    have hO : Obs _ _ [] := hO
                    refine wpn_pk (congrArg Value.bool hb57) ?_
                    refine wpn_nil ?_
                    injection hF with hF
                    subst hF
                    refine wpn_end ?_
                    exact ⟨rfl, _, ar (ar (ar (ar trivial))), hO, hL, r33⟩
                  · refine wpn_gF (congrArg (fun x => isB (.bool x) true) hb57) ?_
                    refine wpn_pk (congrArg Value.bool hb57) ?_
                    refine wpn_nil ?_
                    injection hF with hF
                    subst hF
                    refine wpn_end ?_
                    exact ⟨rfl, _, ar (ar (ar (ar trivial))), hO, hL, r33⟩
                · rintro e σ ⟨_, hA, hO, hL, r33⟩
                  rw [← sets_agr _ _ hA]
                  refine wpn_qa hO [] [(4, .bool c55), (93, .slice A0_5 p0.Fields.length c0_5), (94, .int .i64 (p0.Fields.length : Int)), (95, .int .i64 x34)] (ar (ar (ar (ar trivial)))) fun j => ?_
                  refine wpn_end ?_
                  refine inb_i ?_
                  refine thn_i ?_
                  refine wpn_rlast ?_
                  refine wpn_qa hO [] [(4, .bool c55), (93, .slice A0_5 p0.Fields.length c0_5), (94, .int .i64 (p0.Fields.length : Int)), (95, .int .i64 (IntKind.i64.wrap (x34 + 1)))] (ar (ar (ar (ar trivial)))) fun j => ?_
                  refine wpn_end ?_
                  refine thn_i ?_
                  exact ⟨n48, Nat.lt_succ_self _, c55, (IntKind.i64.wrap (x34 + 1)), _, ar (ar (ar (ar trivial))), hO, hL, r33, hF⟩
              · refine wpn_cF (congrArg Value.bool hb49) ?_
                refine wpn_ex ?_
                refine thn_x ?_
                refine inb_x ?_
                refine thn_i ?_
                refine wpn_assoc ?_
                refine wpn_qa hO [] [(2, .bool x32)] (ar trivial) fun j => ?_
                refine wpn_rt ?_
                refine inb_r1 ?_
                refine thn_r1 ?_
                injection hF with hF
                subst hF
                exact hQ _ _ _ _ _ rfl hO hL ⟨rfl, rfl⟩
          · refine wpn_cF (congrArg Value.bool hb13) ?_
            refine wpn_sk ?_
            refine wpn_end ?_
            refine inb_i ?_
            refine thn_i ?_
            refine wpn_qa hO [] [(2, .bool false)] (ar trivial) fun j => ?_
            refine wpn_r1 ?_
            injection hF with hF
            subst hF
            have hO := hO.sel [] (by decide)
            exact hQ _ _ _ _ _ rfl hO hL ⟨rfl, rfl⟩
theorem zex {τ : Hp} {p0 : zg}  {rr : zo × Bool} (hF : zcL p0 = some rr) :
    Ctr Try.prog 73 #[.agg #[.int .u8 p0.Kind.toNat, .int .i64 p0.N]] τ [] (fun v τ' vs' => v = .tuple #[zv rr.1, .bool rr.2] ∧ vs' = []) := by
  refine ctr_of (args := [.agg #[.int .u8 p0.Kind.toNat, .int .i64 p0.N]]) hm Try.func73 s73 rfl fun w0 σ hO Q hQ => ?_
  unfold zcL at hF
  have hL := Hp.le.refl τ
  show wpn _ _ a73.body _ _ _
  unfold a73
  dsimp only
  refine wpn_bx (n := 2) hO rfl rfl fun b2 σ hO => ?_
  have hO : Obs _ _ [_] := hO
  refine wpn_qa hO [] [(1, .pointer (some ⟨b2, 0, none⟩))] (ar trivial) fun j => ?_
  refine wpn_assoc ?_
  refine wpn_qa hO [0] [(1, .pointer (some ⟨b2, 0, none⟩)), (5, .int .u8 (p0.Kind.toNat : Int))] (And.intro (And.intro rfl rfl) (ar (ar trivial))) fun j => ?_
  refine wpn_bl ?_
  refine wpn_qa hO [] [(1, .pointer (some ⟨b2, 0, none⟩)), (5, .int .u8 (p0.Kind.toNat : Int)), (6, .bool ((p0.Kind.toNat : Int) == 1))] (ar (ar (ar trivial))) fun j => ?_
  refine wpn_clast ?_
  rcases ite_some hF with ⟨hb3, hF⟩ | ⟨hb3, hF⟩
  · refine wpn_cT (congrArg Value.bool hb3) ?_
    refine wpn_assoc ?_
    refine wpn_qa hO [0] [(2, .iface 139 (.int .i64 p0.N)), (3, .bool true)] (And.intro (And.intro rfl rfl) (ar (ar trivial))) fun j => ?_
    refine wpn_rt ?_
    refine inb_r1 ?_
    refine thn_r1 ?_
    injection hF with hF
    subst hF
    have hO := hO.sel [] (by decide)
    exact hQ _ _ _ _ _ rfl hO hL ⟨rfl, rfl⟩
  · refine wpn_cF (congrArg Value.bool hb3) ?_
    refine wpn_assoc ?_
    refine wpn_qa hO [] [(1, .pointer (some ⟨b2, 0, none⟩)), (5, .int .u8 (p0.Kind.toNat : Int)), (11, .bool ((p0.Kind.toNat : Int) == 2))] (ar (ar (ar trivial))) fun j => ?_
    rcases ite_some hF with ⟨hb4, hF⟩ | ⟨hb4, hF⟩
    · refine wpn_cT (congrArg Value.bool hb4) ?_
      refine wpn_assoc ?_
      refine wpn_p2r ?_
      refine wpn_qa hO [0, 0, 0] [(2, .iface 140 (.int .i64 p0.N)), (3, .bool ((decide (p0.N ≥ 0)) && (decide (p0.N < 16))))] (And.intro (And.intro rfl rfl) (And.intro (And.intro rfl rfl) (And.intro (And.intro rfl rfl) (And.intro (And.intro rfl rfl) (fun _ => ar (ar trivial)))))) fun j => ?_
      refine wpn_rt ?_
      refine inb_r1 ?_
      refine thn_r1 ?_
      injection hF with hF
      subst hF
      have hO := hO.sel [] (by decide)
      exact hQ _ _ _ _ _ rfl hO hL ⟨rfl, rfl⟩
    · refine wpn_cF (congrArg Value.bool hb4) ?_
      refine wpn_assoc ?_
      refine wpn_qa hO [] [(1, .pointer (some ⟨b2, 0, none⟩)), (5, .int .u8 (p0.Kind.toNat : Int)), (24, .bool ((p0.Kind.toNat : Int) == 3))] (ar (ar (ar trivial))) fun j => ?_
      rcases ite_some hF with ⟨hb5, hF⟩ | ⟨hb5, hF⟩
      · refine wpn_cT (congrArg Value.bool hb5) ?_
        refine wpn_assoc ?_
        refine wpn_qa hO [0] [(2, .iface 141 (.int .i64 p0.N)), (3, .bool true)] (And.intro (And.intro rfl rfl) (ar (ar trivial))) fun j => ?_
        refine wpn_rt ?_
        refine inb_r1 ?_
        refine thn_r1 ?_
        injection hF with hF
        subst hF
        have hO := hO.sel [] (by decide)
        exact hQ _ _ _ _ _ rfl hO hL ⟨rfl, rfl⟩
      · refine wpn_cF (congrArg Value.bool hb5) ?_
        refine wpn_assoc ?_
        refine wpn_qa hO [] [(1, .pointer (some ⟨b2, 0, none⟩)), (5, .int .u8 (p0.Kind.toNat : Int)), (29, .bool ((p0.Kind.toNat : Int) == 4))] (ar (ar (ar trivial))) fun j => ?_
        rcases ite_some hF with ⟨hb6, hF⟩ | ⟨hb6, hF⟩
        · refine wpn_cT (congrArg Value.bool hb6) ?_
          refine wpn_assoc ?_
          refine wpn_p2r ?_
          refine wpn_qa hO [0] [(2, .iface 143 (.agg #[])), (3, .bool (p0.N == 0))] (And.intro (And.intro rfl rfl) (ar (ar trivial))) fun j => ?_
          refine wpn_rt ?_
          refine inb_r1 ?_
          refine thn_r1 ?_
          injection hF with hF
          subst hF
          have hO := hO.sel [] (by decide)
          exact hQ _ _ _ _ _ rfl hO hL ⟨rfl, rfl⟩
        · refine wpn_cF (congrArg Value.bool hb6) ?_
          refine wpn_assoc ?_
          refine wpn_qa hO [] [(1, .pointer (some ⟨b2, 0, none⟩)), (5, .int .u8 (p0.Kind.toNat : Int)), (36, .bool ((p0.Kind.toNat : Int) == 5))] (ar (ar (ar trivial))) fun j => ?_
          rcases ite_some hF with ⟨hb7, hF⟩ | ⟨hb7, hF⟩
          · refine wpn_cT (congrArg Value.bool hb7) ?_
            refine wpn_assoc ?_
            refine wpn_p2r ?_
            refine wpn_qa hO [0] [(2, .iface 144 (.agg #[])), (3, .bool (p0.N == 0))] (And.intro (And.intro rfl rfl) (ar (ar trivial))) fun j => ?_
            refine wpn_rt ?_
            refine inb_r1 ?_
            refine thn_r1 ?_
            injection hF with hF
            subst hF
            have hO := hO.sel [] (by decide)
            exact hQ _ _ _ _ _ rfl hO hL ⟨rfl, rfl⟩
          · refine wpn_cF (congrArg Value.bool hb7) ?_
            refine wpn_assoc ?_
            refine wpn_qa hO [] [(1, .pointer (some ⟨b2, 0, none⟩)), (43, .bool ((p0.Kind.toNat : Int) == 6))] (ar (ar trivial)) fun j => ?_
            rcases ite_some hF with ⟨hb8, hF⟩ | ⟨hb8, hF⟩
            · refine wpn_cT (congrArg Value.bool hb8) ?_
              refine wpn_assoc ?_
              refine wpn_p2r ?_
              refine wpn_qa hO [0] [(2, .iface 145 (.agg #[])), (3, .bool (p0.N == 0))] (And.intro (And.intro rfl rfl) (ar (ar trivial))) fun j => ?_
              refine wpn_rt ?_
              refine inb_r1 ?_
              refine thn_r1 ?_
              injection hF with hF
              subst hF
              have hO := hO.sel [] (by decide)
              exact hQ _ _ _ _ _ rfl hO hL ⟨rfl, rfl⟩
            · refine wpn_cF (congrArg Value.bool hb8) ?_
              refine wpn_sk ?_
              refine wpn_end ?_
              refine inb_i ?_
              refine thn_i ?_
              refine wpn_qa hO [] [(2, .nilIface), (3, .bool false)] (ar (ar trivial)) fun j => ?_
              refine wpn_r1 ?_
              injection hF with hF
              subst hF
              have hO := hO.sel [] (by decide)
              exact hQ _ _ _ _ _ rfl hO hL ⟨rfl, rfl⟩
theorem zfg {τ : Hp} {p0 : Int}  {rr : Int} (hF : zdb p0 = some rr) :
    Ctr Try.prog 94 #[.int .i64 p0] τ [] (fun v τ' vs' => v = .int .i64 rr ∧ vs' = []) := by
  refine ctr_of (args := [.int .i64 p0]) hm Try.func94 s94 rfl fun w0 σ hO Q hQ => ?_
  unfold zdb at hF
  have hL := Hp.le.refl τ
  show wpn _ _ a94.body _ _ _
  unfold a94
  dsimp only
  refine wpn_qa hO [] [] (trivial) fun j => ?_
  refine wpn_qa hO [] [(2, .int .i64 0)] (ar trivial) fun j => ?_
  refine wpn_r1 ?_
  injection hF with hF
  subst hF
  exact hQ _ _ _ _ _ rfl hO hL ⟨rfl, rfl⟩
theorem zeN {τ : Hp} {p0 : Int}  {rr : Int} (hF : zdn p0 = some rr) :
    Ctr Try.prog 96 #[.int .i64 p0] τ [] (fun v τ' vs' => v = .int .i64 rr ∧ vs' = []) := by
  refine ctr_of (args := [.int .i64 p0]) hm Try.func96 s96 rfl fun w0 σ hO Q hQ => ?_
  unfold zdn at hF
  have hL := Hp.le.refl τ
  show wpn _ _ a96.body _ _ _
  unfold a96
  dsimp only
  refine wpn_qa hO [] [] (trivial) fun j => ?_
  refine wpn_qa hO [] [(2, .int .i64 0)] (ar trivial) fun j => ?_
  refine wpn_r1 ?_
  injection hF with hF
  subst hF
  exact hQ _ _ _ _ _ rfl hO hL ⟨rfl, rfl⟩
theorem zeH {τ : Hp} {p0 : Int}  {rr : Int} (hF : zde p0 = some rr) :
    Ctr Try.prog 98 #[.int .i64 p0] τ [] (fun v τ' vs' => v = .int .i64 rr ∧ vs' = []) := by
  refine ctr_of (args := [.int .i64 p0]) hm Try.func98 s98 rfl fun w0 σ hO Q hQ => ?_
  unfold zde at hF
  have hL := Hp.le.refl τ
  show wpn _ _ a98.body _ _ _
  unfold a98
  dsimp only
  refine wpn_qa hO [] [] (trivial) fun j => ?_
  refine wpn_qa hO [] [(2, .int .i64 0)] (ar trivial) fun j => ?_
  refine wpn_r1 ?_
  injection hF with hF
  subst hF
  exact hQ _ _ _ _ _ rfl hO hL ⟨rfl, rfl⟩
theorem zfG {τ : Hp} {p0 : zdo}  {rr : Int} (hF : zdt p0 = some rr) :
    Ctr Try.prog 100 #[.agg #[]] τ [] (fun v τ' vs' => v = .int .i64 rr ∧ vs' = []) := by
  refine ctr_of (args := [.agg #[]]) hm Try.func100 s100 rfl fun w0 σ hO Q hQ => ?_
  unfold zdt at hF
  have hL := Hp.le.refl τ
  show wpn _ _ a100.body _ _ _
  unfold a100
  dsimp only
  refine wpn_bx (n := 0) hO rfl rfl fun b2 σ hO => ?_
  have hO : Obs _ _ [_] := hO
  refine wpn_qa hO [] [] (trivial) fun j => ?_
  refine wpn_qa hO [] [(2, .int .i64 1)] (ar trivial) fun j => ?_
  refine wpn_r1 ?_
  injection hF with hF
  subst hF
  have hO := hO.sel [] (by decide)
  exact hQ _ _ _ _ _ rfl hO hL ⟨rfl, rfl⟩
theorem zfC {τ : Hp} {p0 : zdg}  {rr : Int} (hF : zds p0 = some rr) :
    Ctr Try.prog 102 #[.agg #[]] τ [] (fun v τ' vs' => v = .int .i64 rr ∧ vs' = []) := by
  refine ctr_of (args := [.agg #[]]) hm Try.func102 s102 rfl fun w0 σ hO Q hQ => ?_
  unfold zds at hF
  have hL := Hp.le.refl τ
  show wpn _ _ a102.body _ _ _
  unfold a102
  dsimp only
  refine wpn_bx (n := 0) hO rfl rfl fun b2 σ hO => ?_
  have hO : Obs _ _ [_] := hO
  refine wpn_qa hO [] [] (trivial) fun j => ?_
  refine wpn_qa hO [] [(2, .int .i64 2)] (ar trivial) fun j => ?_
  refine wpn_r1 ?_
  injection hF with hF
  subst hF
  have hO := hO.sel [] (by decide)
  exact hQ _ _ _ _ _ rfl hO hL ⟨rfl, rfl⟩
theorem zeq {τ : Hp} {p0 : zdc}  {rr : Int} (hF : zda p0 = some rr) :
    Ctr Try.prog 104 #[.agg #[]] τ [] (fun v τ' vs' => v = .int .i64 rr ∧ vs' = []) := by
  refine ctr_of (args := [.agg #[]]) hm Try.func104 s104 rfl fun w0 σ hO Q hQ => ?_
  unfold zda at hF
  have hL := Hp.le.refl τ
  show wpn _ _ a104.body _ _ _
  unfold a104
  dsimp only
  refine wpn_bx (n := 0) hO rfl rfl fun b2 σ hO => ?_
  have hO : Obs _ _ [_] := hO
  refine wpn_qa hO [] [] (trivial) fun j => ?_
  refine wpn_qa hO [] [(2, .int .i64 1)] (ar trivial) fun j => ?_
  refine wpn_r1 ?_
  injection hF with hF
  subst hF
  have hO := hO.sel [] (by decide)
  exact hQ _ _ _ _ _ rfl hO hL ⟨rfl, rfl⟩
theorem zdV {τ : Hp} {x : zo}   {rr : Int} (hF : zc1 x  = some rr) :
    InvC Try.prog (zv x) "theodolite/expr.takes" #[] τ [] (fun v τ' vs' => v = .int .i64 rr ∧ vs' = []) := by
  cases x with
  | nil => exact nomatch (show none = some rr from hF)
  | c_number a => exact ⟨139, _, 94, rfl, fun w => by kernel_rfl, by kernel_rfl, zfg (p0 := a)  hF⟩
  | c_reg a => exact ⟨140, _, 96, rfl, fun w => by kernel_rfl, by kernel_rfl, zeN (p0 := a)  hF⟩
  | c_base a => exact ⟨141, _, 98, rfl, fun w => by kernel_rfl, by kernel_rfl, zeH (p0 := a)  hF⟩
  | c_word a => exact ⟨143, _, 100, rfl, fun w => by kernel_rfl, by kernel_rfl, zfG (p0 := a)  hF⟩
  | c_add a => exact ⟨144, _, 102, rfl, fun w => by kernel_rfl, by kernel_rfl, zfC (p0 := a)  hF⟩
  | c_neg a => exact ⟨145, _, 104, rfl, fun w => by kernel_rfl, by kernel_rfl, zeq (p0 := a)  hF⟩
end Go.Proofs.Ytckcngkkofemjaa
