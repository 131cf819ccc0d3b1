import Derived.Test.YtgkllgoelpfdkaaGreatF
import Derived.Test.YtgkllgoelpfdkaaGreatM00
import Derived.Test.YtgkllgoelpfdkaaGreatM01
namespace Go.Proofs.YtgkllgoelpfdkaaGreat
open Go.Ab Go.RowKit
set_option linter.unusedVariables false
set_option linter.unusedSimpArgs false
set_option maxRecDepth 10000
set_option maxHeartbeats 1000000
theorem zoC {τ : Hp} {p0 : zbe} {v0_0 : Value} {v0_1 : Value} {v0_4 : Value} (r0_0 : RdT zcL τ v0_0 p0.Code) (r0_1 : RdT Ty.u8 τ v0_1 p0.Bytes) (r0_4 : RdT (Ty.int .i64) τ v0_4 p0.Input) {rr : Bool} (hF : zd6 p0 = some rr) :
  Ctr Tryz.prog 6 #[.agg #[v0_0, v0_1, .int .i64 p0.Start, .int .i64 p0.Words, v0_4, .int .i64 p0.Fuel]] τ [] (fun v τ' vs' => v = .bool rr ∧ vs' = []) := by
 obtain ⟨A0_0, c0_0, rfl, -⟩ := r0_0.form
 obtain ⟨A0_1, c0_1, rfl, -⟩ := r0_1.form
 obtain ⟨A0_4, c0_4, rfl, -⟩ := r0_4.form
 refine zw (args := [.agg #[(.slice A0_0 p0.Code.length c0_0), (.slice A0_1 p0.Bytes.length c0_1), .int .i64 p0.Start, .int .i64 p0.Words, (.slice A0_4 p0.Input.length c0_4), .int .i64 p0.Fuel]]) hm Tryz.func6 s6 rfl fun w0 σ hO Q hQ => ?_
 unfold zd6 at hF
 have hL := Hp.le.refl τ
 show wpn _ _ a6.body _ _ _
 unfold a6
 dsimp only
 refine zba (n := 6) hO rfl rfl fun b2 σ hO => ?_
 have hO : Obs _ _ [_] := hO
 refine za hO [] [(1, zqD b2)] zqm fun j => ?_
 refine zb hO 8 [0, 0] [(1, zqD b2), (13, .bool ((decide ((p0.Code.length : Int) > 200)) || (decide ((p0.Bytes.length : Int) > 4096))))] (And.intro (And.intro rfl rfl) (And.intro (And.intro rfl rfl) (And.intro (And.intro rfl rfl) (fun _ => zqB zqm)))) fun j => ?_
 obtain ⟨c3, h4, hF⟩ := bind_some hF
 refine zdR 4 [(22, .bool c3), (1, zqD b2)] (fun Q hQ => ?_) fun j => ?_
 ·have hF := h4
  rcases zi hF with ⟨hb5, hF⟩ | ⟨hb5, hF⟩
  ·refine zX (congrArg (fun x => isB (.bool x) false) hb5) ?_
   refine zX rfl ?_
   refine zX (congrArg (fun x => isB (.bool x) false) hb5) ?_
   refine zA (congrArg Value.bool hb5) ?_
   refine zh ?_
   injection hF with hF
   subst hF
   refine zg ?_
   exact hQ _ zqn
  ·refine zP (congrArg (fun x => isB (.bool x) false) hb5) ?_
   refine zb hO 4 [0] [(1, zqD b2), (13, .bool ((decide ((p0.Code.length : Int) > 200)) || (decide ((p0.Bytes.length : Int) > 4096)))), (17, .bool (decide (p0.Words > 1024)))] (And.intro (And.intro rfl rfl) zqo) fun j => ?_
   rcases zi hF with ⟨hb6, hF⟩ | ⟨hb6, hF⟩
   ·refine zP (congrArg (fun x => isB (.bool x) true) hb6) ?_
    refine zb hO 3 [0] [(1, zqD b2), (13, .bool ((decide ((p0.Code.length : Int) > 200)) || (decide ((p0.Bytes.length : Int) > 4096)))), (17, .bool (decide (p0.Words > 1024))), (20, .bool (decide (p0.Words ≤ 65536)))] (And.intro (And.intro rfl rfl) zqp) fun j => ?_
    refine zP (congrArg (fun x => isB (.bool x) false) hb5) ?_
    refine zA (congrArg Value.bool hb6) ?_
    refine zA (congrArg Value.bool hb5) ?_
    refine zh ?_
    injection hF with hF
    subst hF
    refine zg ?_
    exact hQ _ zqn
   ·refine zX (congrArg (fun x => isB (.bool x) true) hb6) ?_
    refine zP (congrArg (fun x => isB (.bool x) false) hb5) ?_
    refine zA (congrArg Value.bool hb6) ?_
    refine zA (congrArg Value.bool hb5) ?_
    refine zh ?_
    injection hF with hF
    subst hF
    refine zg ?_
    exact hQ _ zqn
 ·refine za hO [0, 0] [(2, .bool ((c3 || (decide ((p0.Input.length : Int) > 100))) || (decide (p0.Fuel > 1000))))] (And.intro (And.intro rfl rfl) (And.intro (And.intro rfl rfl) (fun _ => And.intro (And.intro rfl rfl) (And.intro (And.intro rfl rfl) (fun _ => zqB trivial))))) fun j => ?_
  refine zp ?_
  injection hF with hF
  subst hF
  have hO := hO.sel [] (by decide)
  exact hQ _ _ _ _ _ rfl hO hL ⟨rfl, rfl⟩
theorem ze6 {τ : Hp} {v0 : Value} {p0 : (List UInt8)} (r0 : RdT Ty.u8 τ v0 p0) {rr : (List UInt8)} (hF : zcq p0 = some rr) :
  Ctr Tryz.prog 27 #[v0] τ [] (fun v τ' vs' => ∃ (v0 : Value) (o0 : Ob), v = v0 ∧ vs' = [o0] ∧ zd Ty.u8 5 τ' v0 rr o0) := by
 obtain ⟨A0, c0, rfl, -⟩ := r0.form
 refine zw (args := [.slice A0 p0.length c0]) hm Tryz.func27 s27 rfl fun w0 σ hO Q hQ => ?_
 unfold zcq at hF
 obtain ⟨_, hr, hF⟩ := bind_some hF
 injection hF with hF
 subst hF
 have hL := Hp.le.refl τ
 show wpn _ _ a27.body _ _ _
 unfold a27
 dsimp only
 refine za hO [] [(0, .slice A0 p0.length c0)] zqm fun j => ?_
 refine ze (za hO [] [(0, .slice A0 p0.length c0), (4, .bool A0.isNone)] zqn fun j => ?_)
 rcases (Bool.eq_false_or_eq_true A0.isNone).symm with hA | hA
 ·refine zk (congrArg Value.bool hA) ?_
  refine zv (zbu (T := Ty.u8) (l := []) (cs := []) hO rfl rfl rfl (by decide) fun _ σ o1 w1 hO => ?_)
  obtain ⟨A1, c1, rfl, -⟩ := w1.form
  refine zb hO 1 [] [(5, .slice A1 0 c1), (6, .slice A0 p0.length c0)] zqn fun j => ?_
  refine zeY (T := Ty.u8) hO w1 (i := 0) rfl rfl rfl r0 (by simpa using hr) (by decide) fun _ σ o2 w2 hO => ?_
  refine za hO [] [(2, _)] zqm fun j => ?_
  refine zp ?_
  exact hQ _ _ _ _ _ rfl hO hL ⟨_, _, rfl, rfl, w2⟩
 ·refine zl (congrArg Value.bool hA) ?_
  have := r0.empty (by decide) hA
  subst this
  refine ze (za hO [] [(2, .slice none 0 0)] zqm fun j => ?_)
  refine zz ?_
  have hO := hO.no
  exact hQ _ _ _ _ _ rfl hO hL ⟨_, _, rfl, rfl, zd.nil _ _ _⟩
theorem zeu {τ : Hp} {v0 : Value} {p0 : (List Int)} (r0 : RdT (Ty.int .i64) τ v0 p0) {rr : (List Int)} (hF : zc7 p0 = some rr) :
  Ctr Tryz.prog 28 #[v0] τ [] (fun v τ' vs' => ∃ (v0 : Value) (o0 : Ob), v = v0 ∧ vs' = [o0] ∧ zd (Ty.int .i64) 2 τ' v0 rr o0) := by
 obtain ⟨A0, c0, rfl, -⟩ := r0.form
 refine zw (args := [.slice A0 p0.length c0]) hm Tryz.func28 s28 rfl fun w0 σ hO Q hQ => ?_
 unfold zc7 at hF
 obtain ⟨_, hr, hF⟩ := bind_some hF
 injection hF with hF
 subst hF
 have hL := Hp.le.refl τ
 show wpn _ _ a28.body _ _ _
 unfold a28
 dsimp only
 refine za hO [] [(0, .slice A0 p0.length c0)] zqm fun j => ?_
 refine ze (za hO [] [(0, .slice A0 p0.length c0), (4, .bool A0.isNone)] zqn fun j => ?_)
 rcases (Bool.eq_false_or_eq_true A0.isNone).symm with hA | hA
 ·refine zk (congrArg Value.bool hA) ?_
  refine zv (zbu (T := (Ty.int .i64)) (l := []) (cs := []) hO rfl rfl rfl (by decide) fun _ σ o1 w1 hO => ?_)
  obtain ⟨A1, c1, rfl, -⟩ := w1.form
  refine zb hO 1 [] [(5, .slice A1 0 c1), (6, .slice A0 p0.length c0)] zqn fun j => ?_
  refine zeY (T := (Ty.int .i64)) hO w1 (i := 0) rfl rfl rfl r0 (by simpa using hr) (by decide) fun _ σ o2 w2 hO => ?_
  refine za hO [] [(2, _)] zqm fun j => ?_
  refine zp ?_
  exact hQ _ _ _ _ _ rfl hO hL ⟨_, _, rfl, rfl, w2⟩
 ·refine zl (congrArg Value.bool hA) ?_
  have := r0.empty (by decide) hA
  subst this
  refine ze (za hO [] [(2, .slice none 0 0)] zqm fun j => ?_)
  refine zz ?_
  have hO := hO.no
  exact hQ _ _ _ _ _ rfl hO hL ⟨_, _, rfl, rfl, zd.nil _ _ _⟩
theorem zkC {τ : Hp} {v0 : Value} {p0 : (List UInt8)} {p1 : Int} {p2 : Int} {v3 : Value} {p3 : (List Int)} (r0 : RdT Ty.u8 τ v0 p0) (r3 : RdT (Ty.int .i64) τ v3 p3) {rr : (Option zf) × Int} (hF : zez p0 p1 p2 p3 = some rr) :
  Ctr Tryz.prog 9 #[v0, .int .i64 p1, .int .i64 p2, v3] τ [] (fun v τ' vs' => match rr.1 with | none => v = .tuple #[.pointer none, .int .i64 rr.2] ∧ vs' = [] | some m => ∃ (b : Nat) (u0 : Value) (y0 : Ob) (u18 : Value) (y18 : Ob) (u19 : Value) (y19 : Ob) (u20 : Value) (y20 : Ob), v = .tuple #[.pointer (some ⟨b, 0, none⟩), .int .i64 rr.2] ∧ vs' = [some (b, ⟨[u0, .int .i64 m.pc, .int .i64 (m.regs 0), .int .i64 (m.regs 1), .int .i64 (m.regs 2), .int .i64 (m.regs 3), .int .i64 (m.regs 4), .int .i64 (m.regs 5), .int .i64 (m.regs 6), .int .i64 (m.regs 7), .int .i64 (m.regs 8), .int .i64 (m.regs 9), .int .i64 (m.regs 10), .int .i64 (m.regs 11), .int .i64 (m.regs 12), .int .i64 (m.regs 13), .int .i64 (m.regs 14), .int .i64 (m.regs 15), u18, u19, u20, .int .u8 m.how.toNat, .int .i64 m.halting], 58, 23, true⟩), y0, y18, y19, y20] ∧ zd Ty.u8 5 τ' u0 m.code y0 ∧ zd (Ty.int .i64) 2 τ' u18 m.words y18 ∧ zd (Ty.int .i64) 2 τ' u19 m.input y19 ∧ zd (Ty.int .i64) 2 τ' u20 m.out y20) := by
 obtain ⟨A0, c0, rfl, -⟩ := r0.form
 obtain ⟨A3, c3, rfl, -⟩ := r3.form
 refine zw (args := [.slice A0 p0.length c0, .int .i64 p1, .int .i64 p2, .slice A3 p3.length c3]) hm Tryz.func9 s9 rfl fun w0 σ hO Q hQ => ?_
 unfold zez at hF
 have hL := Hp.le.refl τ
 show wpn _ _ a9.body _ _ _
 unfold a9
 dsimp only
 refine za hO [] [(0, .slice A0 p0.length c0), (1, zqC p1), (2, zqC p2), (3, .slice A3 p3.length c3)] zqp fun j => ?_
 refine ze (za hO [] [(0, .slice A0 p0.length c0), (1, zqC p1), (2, zqC p2), (3, .slice A3 p3.length c3), (31, .bool (((((decide ((p0.length : Int) > 1048576)) || (decide (p1 < 0))) || (decide (p1 > (p0.length : Int)))) || (decide (p2 < 1))) || (decide (p2 > 65536))))] (And.intro (And.intro rfl rfl) (fun _ => And.intro (And.intro rfl rfl) (fun _ => And.intro (And.intro rfl rfl) (fun _ => And.intro (And.intro rfl rfl) (fun _ => zqB zqp))))) fun j => ?_)
 rcases zi hF with ⟨hb5, hF⟩ | ⟨hb5, hF⟩
 ·refine zl (congrArg Value.bool hb5) ?_
  refine ze (za hO [] [(8, .pointer none), (9, zqC 1)] zqn fun j => ?_)
  refine zz ?_
  injection hF with hF
  subst hF
  exact hQ _ _ _ _ _ rfl hO hL ⟨rfl, rfl⟩
 ·refine zk (congrArg Value.bool hb5) ?_
  refine zv (z8 (za hO [] [(1, zqC p1), (2, zqC p2), (3, .slice A3 p3.length c3), (32, .slice A0 p0.length c0)] zqp fun j => ?_))
  refine z8 (za hO [] [(2, zqC p2), (3, .slice A3 p3.length c3), (32, .slice A0 p0.length c0), (34, zqC p1)] zqp fun j => ?_)
  refine z8 (za hO [] [(2, zqC p2), (3, .slice A3 p3.length c3), (32, .slice A0 p0.length c0), (34, zqC p1), (35, zqC p2)] zqq fun j => ?_)
  refine z8 (za hO [] [(2, zqC p2), (32, .slice A0 p0.length c0), (34, zqC p1), (35, zqC p2), (37, .slice A3 p3.length c3)] zqq fun j => ?_)
  refine zbK (fun e' σ' => ∃ (b32 : Nat) (A33 : Option Addr) (c34 : Nat) (o35 : Ob) (x36 : List UInt8) (A38 : Option Addr) (c39 : Nat) (o40 : Ob) (x41 : List Int) (A43 : Option Addr) (c44 : Nat) (o45 : Ob) (x46 : List Int) (τ' : Hp), agr [(2, zqC p2), (10, zqD b32)] e' ∧ Obs τ' σ' [some (b32, ⟨[.slice A33 x36.length c34, .int .i64 p1, .int .i64 0, .int .i64 0, .int .i64 0, .int .i64 0, .int .i64 0, .int .i64 0, .int .i64 0, .int .i64 0, .int .i64 0, .int .i64 0, .int .i64 0, .int .i64 0, .int .i64 0, .int .i64 0, .int .i64 0, .int .i64 0, .slice A38 x41.length c39, .slice A43 x46.length c44, .slice none 0 0, .int .u8 0, .int .i64 0], 58, 23, true⟩), o35, o40, o45] ∧ Hp.le τ τ' ∧ zd Ty.u8 5 τ' (.slice A33 x36.length c34) x36 o35 ∧ zd (Ty.int .i64) 2 τ' (.slice A38 x41.length c39) x41 o40 ∧ zd (Ty.int .i64) 2 τ' (.slice A43 x46.length c44) x46 o45 ∧ zih p1 p2 x36 x41 x46 = some rr) ?_ ?_
  ·refine zkU ?_
   obtain ⟨c49, h50, hF⟩ := bind_some hF
   obtain ⟨y58, g59, hF⟩ := bind_some hF
   obtain ⟨c65, h66, hF⟩ := bind_some hF
   refine ziq ?_ ?_
   ·refine zbO (zr hO (ze6 r0 h50) rfl fun _ σ _ _ hO h51 h52 => ?_)
    have hL := hL.trans h51
    have r0 := r0.le h51
    have r3 := r3.le h51
    obtain ⟨v53, o56, rfl, rfl, w57⟩ := h52
    obtain ⟨A54, c55, rfl, -⟩ := w57.form
    have hO : Obs _ _ [_] := hO
    refine zh (ziq ?_ ?_)
    ·refine zbO (ziQ (T := (Ty.int .i64)) hO rfl rfl g59 (show _ = _ from rfl) (by decide) fun b64 c61 σ o62 w63 hO => ?_)
     have hO : Obs _ _ [_, _] := hO
     refine zh (zbO (zr hO (zeu r3 h66) rfl fun _ σ _ _ hO h67 h68 => ?_))
     have hL := hL.trans h67
     have r0 := r0.le h67
     have w57 := w57.le h67
     have w63 := w63.le h67
     have r3 := r3.le h67
     obtain ⟨v69, o72, rfl, rfl, w73⟩ := h68
     obtain ⟨A70, c71, rfl, -⟩ := w73.form
     have hO : Obs _ _ [_, _, _] := hO
     refine zh (z8 (za hO [] [(2, zqC p2), (39, .agg #[(.slice A54 c49.length c55), (.int .i64 p1), (.int .i64 0), (.int .i64 0), (.int .i64 0), (.int .i64 0), (.int .i64 0), (.int .i64 0), (.int .i64 0), (.int .i64 0), (.int .i64 0), (.int .i64 0), (.int .i64 0), (.int .i64 0), (.int .i64 0), (.int .i64 0), (.int .i64 0), (.int .i64 0), (.slice (some ⟨b64, 0, none⟩) y58.length c61), (.slice A70 c65.length c71), (.slice none 0 0), (.int .u8 0), (.int .i64 0)])] zqn fun j => ?_))
     refine zbO (zba (n := 23) hO rfl rfl fun b74 σ hO => ?_)
     have hO : Obs _ _ [_, _, _, _] := hO
     refine zh (z8 (za hO [] [(2, zqC p2), (10, zqD b74)] zqn fun j => ?_))
     refine zeS (zg (zn ?_))
     have hO := hO.sel [3, 0, 1, 2] (by decide)
     exact ⟨b74, A54, c55, o56, c49, (some ⟨b64, 0, none⟩), c61, o62, y58, A70, c71, o72, c65, _, zqB zqm, hO, hL, w57, w63, w73, hF⟩
    ·refine zbO (zr hO (zeu r3 h66) rfl fun _ σ _ _ hO h67 h68 => ?_)
     have hL := hL.trans h67
     have r0 := r0.le h67
     have w57 := w57.le h67
     have r3 := r3.le h67
     obtain ⟨v69, o72, rfl, rfl, w73⟩ := h68
     obtain ⟨A70, c71, rfl, -⟩ := w73.form
     have hO : Obs _ _ [_, _] := hO
     refine zh (zbO (ziQ (T := (Ty.int .i64)) hO rfl rfl g59 (show _ = _ from rfl) (by decide) fun b64 c61 σ o62 w63 hO => ?_))
     have hO : Obs _ _ [_, _, _] := hO
     refine zh (z8 (za hO [] [(2, zqC p2), (39, .agg #[(.slice A54 c49.length c55), (.int .i64 p1), (.int .i64 0), (.int .i64 0), (.int .i64 0), (.int .i64 0), (.int .i64 0), (.int .i64 0), (.int .i64 0), (.int .i64 0), (.int .i64 0), (.int .i64 0), (.int .i64 0), (.int .i64 0), (.int .i64 0), (.int .i64 0), (.int .i64 0), (.int .i64 0), (.slice (some ⟨b64, 0, none⟩) y58.length c61), (.slice A70 c65.length c71), (.slice none 0 0), (.int .u8 0), (.int .i64 0)])] zqn fun j => ?_))
     refine zbO (zba (n := 23) hO rfl rfl fun b74 σ hO => ?_)
     have hO : Obs _ _ [_, _, _, _] := hO
     refine zh (z8 (za hO [] [(2, zqC p2), (10, zqD b74)] zqn fun j => ?_))
     refine zeS (zg (zn ?_))
     have hO := hO.sel [3, 0, 2, 1] (by decide)
     exact ⟨b74, A54, c55, o56, c49, (some ⟨b64, 0, none⟩), c61, o62, y58, A70, c71, o72, c65, _, zqB zqm, hO, hL, w57, w63, w73, hF⟩
   ·refine zbO (ziQ (T := (Ty.int .i64)) hO rfl rfl g59 (show _ = _ from rfl) (by decide) fun b64 c61 σ o62 w63 hO => ?_)
    have hO : Obs _ _ [_] := hO
    refine zh (zbO (zr hO (ze6 r0 h50) rfl fun _ σ _ _ hO h51 h52 => ?_))
    have hL := hL.trans h51
    have r0 := r0.le h51
    have w63 := w63.le h51
    have r3 := r3.le h51
    obtain ⟨v53, o56, rfl, rfl, w57⟩ := h52
    obtain ⟨A54, c55, rfl, -⟩ := w57.form
    have hO : Obs _ _ [_, _] := hO
    refine zh (zbO (zr hO (zeu r3 h66) rfl fun _ σ _ _ hO h67 h68 => ?_))
    have hL := hL.trans h67
    have r0 := r0.le h67
    have w57 := w57.le h67
    have w63 := w63.le h67
    have r3 := r3.le h67
    obtain ⟨v69, o72, rfl, rfl, w73⟩ := h68
    obtain ⟨A70, c71, rfl, -⟩ := w73.form
    have hO : Obs _ _ [_, _, _] := hO
    refine zh (z8 (za hO [] [(2, zqC p2), (39, .agg #[(.slice A54 c49.length c55), (.int .i64 p1), (.int .i64 0), (.int .i64 0), (.int .i64 0), (.int .i64 0), (.int .i64 0), (.int .i64 0), (.int .i64 0), (.int .i64 0), (.int .i64 0), (.int .i64 0), (.int .i64 0), (.int .i64 0), (.int .i64 0), (.int .i64 0), (.int .i64 0), (.int .i64 0), (.slice (some ⟨b64, 0, none⟩) y58.length c61), (.slice A70 c65.length c71), (.slice none 0 0), (.int .u8 0), (.int .i64 0)])] zqn fun j => ?_))
    refine zbO (zba (n := 23) hO rfl rfl fun b74 σ hO => ?_)
    have hO : Obs _ _ [_, _, _, _] := hO
    refine zh (z8 (za hO [] [(2, zqC p2), (10, zqD b74)] zqn fun j => ?_))
    refine zeS (zg (zn ?_))
    have hO := hO.sel [3, 1, 0, 2] (by decide)
    exact ⟨b74, A54, c55, o56, c49, (some ⟨b64, 0, none⟩), c61, o62, y58, A70, c71, o72, c65, _, zqB zqm, hO, hL, w57, w63, w73, hF⟩
  ·rintro e σ ⟨b32, A33, c34, o35, x36, A38, c39, o40, x41, A43, c44, o45, x46, _, hA, hO, hL, w37, w42, w47, hF⟩
   rw [← zC _ _ hA]
   unfold zih at hF
   refine zb hO 5 [] [(10, zqD b32), (42, zqC p2), (45, .pointer (some ⟨b32, 17, none⟩))] zqo fun j => ?_
   refine zH hO (i := 0) rfl (off := 17) rfl rfl rfl rfl (Nat.le_of_ble_eq_true rfl) rfl fun σ hO => ?_
   have hO : Obs _ _ [_, _, _, _] := hO
   refine zh (za hO [] [(8, zqD b32), (9, zqC 0)] zqn fun j => ?_)
   refine zp ?_
   have hO := hO.no
   have hO : Obs _ _ [_, _, _, _, _] := hO
   have w48 := zd.nil0 (T := (Ty.int .i64)) (ty := 2) hO
   injection hF with hF
   subst hF
   exact hQ _ _ _ _ _ rfl hO hL ⟨_, _, _, _, _, _, _, _, _, rfl, rfl, w37, w42, w47, w48⟩
theorem zk1 {rr : (Option zf) × Int} : ∀ (v : Value) (τ1 τ2 : Hp) (vs : List Ob), (fun v τ' vs' => match rr.1 with | none => v = .tuple #[.pointer none, .int .i64 rr.2] ∧ vs' = [] | some m => ∃ (b : Nat) (u0 : Value) (y0 : Ob) (u18 : Value) (y18 : Ob) (u19 : Value) (y19 : Ob) (u20 : Value) (y20 : Ob), v = .tuple #[.pointer (some ⟨b, 0, none⟩), .int .i64 rr.2] ∧ vs' = [some (b, ⟨[u0, .int .i64 m.pc, .int .i64 (m.regs 0), .int .i64 (m.regs 1), .int .i64 (m.regs 2), .int .i64 (m.regs 3), .int .i64 (m.regs 4), .int .i64 (m.regs 5), .int .i64 (m.regs 6), .int .i64 (m.regs 7), .int .i64 (m.regs 8), .int .i64 (m.regs 9), .int .i64 (m.regs 10), .int .i64 (m.regs 11), .int .i64 (m.regs 12), .int .i64 (m.regs 13), .int .i64 (m.regs 14), .int .i64 (m.regs 15), u18, u19, u20, .int .u8 m.how.toNat, .int .i64 m.halting], 58, 23, true⟩), y0, y18, y19, y20] ∧ zd Ty.u8 5 τ' u0 m.code y0 ∧ zd (Ty.int .i64) 2 τ' u18 m.words y18 ∧ zd (Ty.int .i64) 2 τ' u19 m.input y19 ∧ zd (Ty.int .i64) 2 τ' u20 m.out y20) v τ1 vs → (fun v τ' vs' => match rr.1 with | none => v = .tuple #[.pointer none, .int .i64 rr.2] ∧ vs' = [] | some m => ∃ (b : Nat) (u0 : Value) (y0 : Ob) (u18 : Value) (y18 : Ob) (u19 : Value) (y19 : Ob) (u20 : Value) (y20 : Ob), v = .tuple #[.pointer (some ⟨b, 0, none⟩), .int .i64 rr.2] ∧ vs' = [some (b, ⟨[u0, .int .i64 m.pc, .int .i64 (m.regs 0), .int .i64 (m.regs 1), .int .i64 (m.regs 2), .int .i64 (m.regs 3), .int .i64 (m.regs 4), .int .i64 (m.regs 5), .int .i64 (m.regs 6), .int .i64 (m.regs 7), .int .i64 (m.regs 8), .int .i64 (m.regs 9), .int .i64 (m.regs 10), .int .i64 (m.regs 11), .int .i64 (m.regs 12), .int .i64 (m.regs 13), .int .i64 (m.regs 14), .int .i64 (m.regs 15), u18, u19, u20, .int .u8 m.how.toNat, .int .i64 m.halting], 58, 23, true⟩), y0, y18, y19, y20] ∧ zd Ty.u8 5 τ' u0 m.code y0 ∧ zd (Ty.int .i64) 2 τ' u18 m.words y18 ∧ zd (Ty.int .i64) 2 τ' u19 m.input y19 ∧ zd (Ty.int .i64) 2 τ' u20 m.out y20) v τ2 vs := fun v τ1 τ2 vs h => by
 dsimp only at h ⊢
 revert h
 cases rr.1 with
 | none => exact fun h => h
 | some m => exact fun ⟨b, u0, y0, u18, y18, u19, y19, u20, y20, h1, h2, f0, f18, f19, f20⟩ => ⟨b, u0, y0, u18, y18, u19, y19, u20, y20, h1, h2, f0.flat zln, f18.flat (zem .i64), f19.flat (zem .i64), f20.flat (zem .i64)⟩
theorem zhi {τ : Hp} {q0 : zf} {bm0 : Nat} {vm0_0 : Value} {vm0_18 : Value} {om0_18 : Ob} {vm0_19 : Value} {vm0_20 : Value} {om0_20 : Ob} (rm0_0 : RdT Ty.u8 τ vm0_0 q0.code) (wm0_18 : zd (Ty.int .i64) 2 τ vm0_18 q0.words om0_18) (rm0_19 : RdT (Ty.int .i64) τ vm0_19 q0.input) (wm0_20 : zd (Ty.int .i64) 2 τ vm0_20 q0.out om0_20) {rr : Int} (hF : zdA q0 = some rr) :
  Ctr Tryz.prog 18 #[.pointer (some ⟨bm0, 0, none⟩)] τ [some (bm0, ⟨[vm0_0, .int .i64 q0.pc, .int .i64 (q0.regs 0), .int .i64 (q0.regs 1), .int .i64 (q0.regs 2), .int .i64 (q0.regs 3), .int .i64 (q0.regs 4), .int .i64 (q0.regs 5), .int .i64 (q0.regs 6), .int .i64 (q0.regs 7), .int .i64 (q0.regs 8), .int .i64 (q0.regs 9), .int .i64 (q0.regs 10), .int .i64 (q0.regs 11), .int .i64 (q0.regs 12), .int .i64 (q0.regs 13), .int .i64 (q0.regs 14), .int .i64 (q0.regs 15), vm0_18, vm0_19, vm0_20, .int .u8 q0.how.toNat, .int .i64 q0.halting], 58, 23, true⟩), om0_18, om0_20] (fun v τ' vs' => v = .int .u8 rr ∧ vs' = [some (bm0, ⟨[vm0_0, .int .i64 q0.pc, .int .i64 (q0.regs 0), .int .i64 (q0.regs 1), .int .i64 (q0.regs 2), .int .i64 (q0.regs 3), .int .i64 (q0.regs 4), .int .i64 (q0.regs 5), .int .i64 (q0.regs 6), .int .i64 (q0.regs 7), .int .i64 (q0.regs 8), .int .i64 (q0.regs 9), .int .i64 (q0.regs 10), .int .i64 (q0.regs 11), .int .i64 (q0.regs 12), .int .i64 (q0.regs 13), .int .i64 (q0.regs 14), .int .i64 (q0.regs 15), vm0_18, vm0_19, vm0_20, .int .u8 q0.how.toNat, .int .i64 q0.halting], 58, 23, true⟩), om0_18, om0_20]) := by
 obtain ⟨Am0_0, cm0_0, rfl, -⟩ := rm0_0.form
 obtain ⟨Am0_18, cm0_18, rfl, -⟩ := wm0_18.form
 obtain ⟨Am0_19, cm0_19, rfl, -⟩ := rm0_19.form
 obtain ⟨Am0_20, cm0_20, rfl, -⟩ := wm0_20.form
 refine zw (args := [.pointer (some ⟨bm0, 0, none⟩)]) hm Tryz.func18 s18 rfl fun w0 σ hO Q hQ => ?_
 unfold zdA at hF
 have hL := Hp.le.refl τ
 show wpn _ _ a18.body _ _ _
 unfold a18
 dsimp only
 refine za hO [] [(0, zqD bm0)] zqm fun j => ?_
 refine ze (za hO [] [(0, zqD bm0), (4, .bool false)] zqn fun j => ?_)
 refine zk rfl ?_
 refine zv (za hO [0] [(0, zqD bm0), (2, .int .u8 (q0.how.toNat : Int))] (And.intro (And.intro rfl rfl) zqn) fun j => ?_)
 refine zp ?_
 injection hF with hF
 subst hF
 exact hQ _ _ _ _ _ rfl hO hL ⟨rfl, rfl⟩
theorem znd {τ : Hp} {q0 : zc} {bm0 : Nat}  {rr : Bool × zc} (hF : zht q0 = some rr) :
  Ctr Tryz.prog 73 #[.pointer (some ⟨bm0, 0, none⟩)] τ [some (bm0, ⟨[.int .u8 q0.Kind.toNat, .int .u8 q0.Op.toNat, .int .i64 q0.R, .int .i64 q0.S, .int .i64 q0.T, .int .i64 q0.N, .int .i64 q0.M], 54, 7, true⟩)] (fun v τ' vs' => v = .bool rr.1 ∧ vs' = [some (bm0, ⟨[.int .u8 rr.2.Kind.toNat, .int .u8 rr.2.Op.toNat, .int .i64 rr.2.R, .int .i64 rr.2.S, .int .i64 rr.2.T, .int .i64 rr.2.N, .int .i64 rr.2.M], 54, 7, true⟩)]) := by
 refine zw (args := [.pointer (some ⟨bm0, 0, none⟩)]) hm Tryz.func73 s73 rfl fun w0 σ hO Q hQ => ?_
 unfold zht at hF
 have hL := Hp.le.refl τ
 show wpn _ _ a73.body _ _ _
 unfold a73
 dsimp only
 refine za hO [] [(0, zqD bm0)] zqm fun j => ?_
 refine za hO [] [(0, zqD bm0), (2, .bool true)] zqn fun j => ?_
 refine zp ?_
 injection hF with hF
 subst hF
 exact hQ _ _ _ _ _ rfl hO hL ⟨rfl, rfl⟩
theorem zks {τ : Hp} {v0 : Value} {p0 : (List UInt8)} {p1 : Int} {p2 : Int} (r0 : RdT Ty.u8 τ v0 p0) {rr : (List UInt8) × Int × Int} (hF : zdf p0 p1 p2 = some rr) :
  Ctr Tryz.prog 125 #[v0, .int .i64 p1, .int .i64 p2] τ [] (fun v τ' vs' => ∃ (v0 : Value), v = .tuple #[v0, .int .i64 rr.2.1, .int .i64 rr.2.2] ∧ vs' = [] ∧ RdT Ty.u8 τ' v0 rr.1) := by
 obtain ⟨A0, c0, rfl, -⟩ := r0.form
 refine zw (args := [.slice A0 p0.length c0, .int .i64 p1, .int .i64 p2]) hm Tryz.func125 zpC rfl fun w0 σ hO Q hQ => ?_
 unfold zdf at hF
 have hL := Hp.le.refl τ
 show wpn _ _ zdB.body _ _ _
 unfold zdB
 dsimp only
 refine za hO [] [(0, .slice A0 p0.length c0), (1, zqC p1), (2, zqC p2)] zqo fun j => ?_
 refine ze (za hO [] [(0, .slice A0 p0.length c0), (1, zqC p1), (2, zqC p2), (17, .bool ((decide (p1 < 0)) || (decide (p1 > (p0.length : Int)))))] (And.intro (And.intro rfl rfl) (fun _ => zqB zqo)) fun j => ?_)
 rcases zi hF with ⟨hb4, hF⟩ | ⟨hb4, hF⟩
 ·refine zl (congrArg Value.bool hb4) ?_
  refine ze (za hO [] [(6, .slice none 0 0), (7, zqC 0), (8, zqC 1)] zqo fun j => ?_)
  refine zz ?_
  injection hF with hF
  subst hF
  exact hQ _ _ _ _ _ rfl hO hL ⟨_, rfl, rfl, (RdT.nil _ _)⟩
 ·refine zk (congrArg Value.bool hb4) ?_
  refine zv (ze (zb hO 2 [] [(1, zqC p1), (2, zqC p2), (18, .slice A0 p0.length c0), (19, zqC p1)] zqp fun j => ?_))
  obtain ⟨y5, g6, hF⟩ := bind_some hF
  refine zc9 (T := Ty.u8) r0 rfl rfl rfl g6 fun _ r7 => ?_
  obtain ⟨A8, c9, rfl, -⟩ := r7.form
  refine za hO [] [(1, zqC p1), (2, zqC p2), (9, .slice A8 y5.length c9)] zqo fun j => ?_
  refine ze (za hO [] [(1, zqC p1), (2, zqC p2), (9, .slice A8 y5.length c9), (24, .bool (decide ((y5.length : Int) ≥ p2)))] zqp fun j => ?_)
  rcases zi hF with ⟨hb10, hF⟩ | ⟨hb10, hF⟩
  ·refine zl (congrArg Value.bool hb10) ?_
   refine ze (zb hO 2 [] [(1, zqC p1), (2, zqC p2), (25, .slice A8 y5.length c9), (26, zqC p2)] zqp fun j => ?_)
   obtain ⟨y11, g12, hF⟩ := bind_some hF
   refine zc9 (T := Ty.u8) r7 rfl rfl rfl g12 fun _ r13 => ?_
   obtain ⟨A14, c15, rfl, -⟩ := r13.form
   refine za hO [] [(6, .slice A14 y11.length c15), (7, zqC (IntKind.i64.wrap (p1 + p2))), (8, zqC 0)] zqo fun j => ?_
   refine zz ?_
   injection hF with hF
   subst hF
   exact hQ _ _ _ _ _ rfl hO hL ⟨_, rfl, rfl, r13⟩
  ·refine zk (congrArg Value.bool hb10) ?_
   refine zv (za hO [] [(6, .slice none 0 0), (7, zqC 0), (8, zqC 5)] zqo fun j => ?_)
   refine zp ?_
   injection hF with hF
   subst hF
   exact hQ _ _ _ _ _ rfl hO hL ⟨_, rfl, rfl, (RdT.nil _ _)⟩
theorem zf1 {τ : Hp} {v0 : Value} {p0 : (List UInt8)} {p1 : Int} (r0 : RdT Ty.u8 τ v0 p0) {rr : Int × Int × Int} (hF : zcb p0 p1 = some rr) :
  Ctr Tryz.prog 119 #[v0, .int .i64 p1] τ [] (fun v τ' vs' => v = .tuple #[.int .u8 rr.1, .int .i64 rr.2.1, .int .i64 rr.2.2] ∧ vs' = []) := by
 obtain ⟨A0, c0, rfl, -⟩ := r0.form
 refine zw (args := [.slice A0 p0.length c0, .int .i64 p1]) hm Tryz.func119 znG rfl fun w0 σ hO Q hQ => ?_
 unfold zcb at hF
 have hL := Hp.le.refl τ
 show wpn _ _ zje.body _ _ _
 unfold zje
 dsimp only
 refine za hO [] [(0, .slice A0 p0.length c0), (1, zqC p1)] zqn fun j => ?_
 refine zb hO 2 [] [(9, .slice A0 p0.length c0), (10, zqC p1)] zqn fun j => ?_
 obtain ⟨c3, h4, hF⟩ := bind_some hF
 refine zr hO (zks r0 h4) rfl fun _ σ _ _ hO h5 h6 => ?_
 have hL := hL.trans h5
 have r0 := r0.le h5
 obtain ⟨v7, rfl, rfl, r10⟩ := h6
 obtain ⟨A8, c9, rfl, -⟩ := r10.form
 have hO : Obs _ _ [] := hO
 refine za hO [] [(5, zqC c3.2.1), (6, zqC c3.2.2), (7, .slice A8 c3.1.length c9)] zqo fun j => ?_
 refine ze (za hO [] [(5, zqC c3.2.1), (6, zqC c3.2.2), (7, .slice A8 c3.1.length c9), (16, .bool (c3.2.2 != 0))] zqp fun j => ?_)
 rcases zi hF with ⟨hb11, hF⟩ | ⟨hb11, hF⟩
 ·refine zl (congrArg Value.bool hb11) ?_
  refine ze (za hO [] [(4, .int .u8 0), (5, zqC 0), (6, zqC c3.2.2)] zqo fun j => ?_)
  refine zz ?_
  injection hF with hF
  subst hF
  exact hQ _ _ _ _ _ rfl hO hL ⟨rfl, rfl⟩
 ·refine zk (congrArg Value.bool hb11) ?_
  refine zv (zb hO 1 [] [(5, zqC c3.2.1), (18, .slice A8 c3.1.length c9)] zqn fun j => ?_)
  obtain ⟨y12, g13, hF⟩ := bind_some hF
  refine zb6 (T := Ty.u8) r10 hO.base rfl rfl g13 (by decide) fun a14 _ k15 m16 => ?_
  obtain rfl : _ = ([.int .u8 y12.toNat] : List Value) := k15
  refine zZ rfl (m16.le hO.base).fst ?_
  refine za hO [] [(4, .int .u8 (y12.toNat : Int)), (5, zqC c3.2.1), (6, zqC 0)] zqo fun j => ?_
  refine zp ?_
  injection hF with hF
  subst hF
  exact hQ _ _ _ _ _ rfl hO hL ⟨rfl, rfl⟩
theorem zh2 {τ : Hp} {p0 : Int}  {rr : Bool} (hF : zc2 p0 = some rr) :
  Ctr Tryz.prog 86 #[.int .i64 p0] τ [] (fun v τ' vs' => v = .bool rr ∧ vs' = []) := by
 refine zw (args := [.int .i64 p0]) hm Tryz.func86 s86 rfl fun w0 σ hO Q hQ => ?_
 unfold zc2 at hF
 have hL := Hp.le.refl τ
 show wpn _ _ a86.body _ _ _
 unfold a86
 dsimp only
 refine za hO [] [(0, zqC p0)] zqm fun j => ?_
 refine za hO [] [(2, .bool ((decide (p0 ≥ 0)) && (decide (p0 < 16))))] (And.intro (And.intro rfl rfl) (fun _ => zqB trivial)) fun j => ?_
 refine zp ?_
 injection hF with hF
 subst hF
 exact hQ _ _ _ _ _ rfl hO hL ⟨rfl, rfl⟩
theorem znJ {τ : Hp} {q0 : zc} {bm0 : Nat}  {rr : Bool × zc} (hF : zgR q0 = some rr) :
  Ctr Tryz.prog 85 #[.pointer (some ⟨bm0, 0, none⟩)] τ [some (bm0, ⟨[.int .u8 q0.Kind.toNat, .int .u8 q0.Op.toNat, .int .i64 q0.R, .int .i64 q0.S, .int .i64 q0.T, .int .i64 q0.N, .int .i64 q0.M], 54, 7, true⟩)] (fun v τ' vs' => v = .bool rr.1 ∧ vs' = [some (bm0, ⟨[.int .u8 rr.2.Kind.toNat, .int .u8 rr.2.Op.toNat, .int .i64 rr.2.R, .int .i64 rr.2.S, .int .i64 rr.2.T, .int .i64 rr.2.N, .int .i64 rr.2.M], 54, 7, true⟩)]) := by
 refine zw (args := [.pointer (some ⟨bm0, 0, none⟩)]) hm Tryz.func85 s85 rfl fun w0 σ hO Q hQ => ?_
 unfold zgR at hF
 have hL := Hp.le.refl τ
 show wpn _ _ a85.body _ _ _
 unfold a85
 dsimp only
 refine za hO [] [(0, zqD bm0)] zqm fun j => ?_
 refine zb hO 4 [0] [(0, zqD bm0), (6, zqC q0.R)] (And.intro (And.intro rfl rfl) zqn) fun j => ?_
 obtain ⟨c2, h3, hF⟩ := bind_some hF
 refine zr hO (zh2 h3) rfl fun _ σ _ _ hO h4 h5 => ?_
 have hL := hL.trans h4
 obtain ⟨rfl, rfl⟩ := h5
 have hO : Obs _ _ [_] := hO
 refine za hO [] [(0, zqD bm0), (2, .bool c2)] zqn fun j => ?_
 refine zp ?_
 injection hF with hF
 subst hF
 exact hQ _ _ _ _ _ rfl hO hL ⟨rfl, rfl⟩
theorem zoi {τ : Hp} {q0 : zc} {bm0 : Nat}  {rr : Int × zc} (hF : zhE q0 = some rr) :
  Ctr Tryz.prog 87 #[.pointer (some ⟨bm0, 0, none⟩)] τ [some (bm0, ⟨[.int .u8 q0.Kind.toNat, .int .u8 q0.Op.toNat, .int .i64 q0.R, .int .i64 q0.S, .int .i64 q0.T, .int .i64 q0.N, .int .i64 q0.M], 54, 7, true⟩)] (fun v τ' vs' => v = .int .u8 rr.1 ∧ vs' = [some (bm0, ⟨[.int .u8 rr.2.Kind.toNat, .int .u8 rr.2.Op.toNat, .int .i64 rr.2.R, .int .i64 rr.2.S, .int .i64 rr.2.T, .int .i64 rr.2.N, .int .i64 rr.2.M], 54, 7, true⟩)]) := by
 refine zw (args := [.pointer (some ⟨bm0, 0, none⟩)]) hm Tryz.func87 s87 rfl fun w0 σ hO Q hQ => ?_
 unfold zhE at hF
 have hL := Hp.le.refl τ
 show wpn _ _ a87.body _ _ _
 unfold a87
 dsimp only
 refine za hO [] [(0, zqD bm0)] zqm fun j => ?_
 refine za hO [0] [(0, zqD bm0), (2, .int .u8 (IntKind.u8.wrap q0.R))] (And.intro (And.intro rfl rfl) zqn) fun j => ?_
 refine zp ?_
 injection hF with hF
 subst hF
 exact hQ _ _ _ _ _ rfl hO hL ⟨rfl, rfl⟩
theorem zon {τ : Hp} {q0 : zc} {bm0 : Nat} {p1 : Int}  {rr : zc} (hF : zeR q0 p1 = some rr) :
  Ctr Tryz.prog 88 #[.pointer (some ⟨bm0, 0, none⟩), .int .u8 p1] τ [some (bm0, ⟨[.int .u8 q0.Kind.toNat, .int .u8 q0.Op.toNat, .int .i64 q0.R, .int .i64 q0.S, .int .i64 q0.T, .int .i64 q0.N, .int .i64 q0.M], 54, 7, true⟩)] (fun v τ' vs' => v = .tuple #[] ∧ vs' = [some (bm0, ⟨[.int .u8 rr.Kind.toNat, .int .u8 rr.Op.toNat, .int .i64 rr.R, .int .i64 rr.S, .int .i64 rr.T, .int .i64 rr.N, .int .i64 rr.M], 54, 7, true⟩)]) := by
 refine zfn (args := [.pointer (some ⟨bm0, 0, none⟩), .int .u8 p1]) hm Tryz.func88 s88 rfl fun w0 σ hO Q hQ => ?_
 unfold zeR at hF
 have hL := Hp.le.refl τ
 show wpn _ _ a88.body _ _ _
 unfold a88
 dsimp only
 refine zU (zb hO 5 [] [(0, zqD bm0), (6, zqC (IntKind.i64.wrap p1)), (8, .pointer (some ⟨bm0, 2, none⟩))] zqo fun j => ?_)
 refine zH hO (i := 0) rfl (off := 2) rfl rfl rfl rfl (Nat.le_of_ble_eq_true rfl) rfl fun σ hO => ?_
 have hO : Obs _ _ [_] := hO
 refine zh (zg ?_)
 injection hF with hF
 subst hF
 exact (hQ _ _ _ _ _ rfl hO hL ⟨rfl, rfl⟩).2
theorem zpx {τ : Hp}   {rr : zx} (hF : zh7  = some rr) :
  Ctr Tryz.prog 84 #[.func (.func 85) #[] #[], .func (.func 87) #[] #[], .func (.func 88) #[] #[]] τ [] (fun v τ' vs' => ∃ (f0_0 : Fn) (a0_0 c0_0 : Array Value) (f0_1 : Fn) (a0_1 c0_1 : Array Value) (f0_2 : Fn) (a0_2 c0_2 : Array Value), v = .agg #[.func f0_0 a0_0 c0_0, .func f0_1 a0_1 c0_1, .func f0_2 a0_2 c0_2] ∧ vs' = [] ∧ zbw τ' rr (.func f0_0 a0_0 c0_0) (.func f0_1 a0_1 c0_1) (.func f0_2 a0_2 c0_2)) := by
 refine zw (args := [.func (.func 85) #[] #[], .func (.func 87) #[] #[], .func (.func 88) #[] #[]]) hm Tryz.func84 s84 rfl fun w0 σ hO Q hQ => ?_
 unfold zh7 at hF
 have hL := Hp.le.refl τ
 show wpn _ _ a84.body _ _ _
 unfold a84
 dsimp only
 refine zba (n := 1) hO rfl rfl fun b4 σ hO => ?_
 have hO : Obs _ _ [_] := hO
 refine zba (n := 1) hO rfl rfl fun b5 σ hO => ?_
 have hO : Obs _ _ [_, _] := hO
 refine zbk hO fun b6 σ hO => ?_
 have hO : Obs _ _ [_, _, _] := hO
 refine zh (zb hO 4 [] [(6, zqD b6), (10, .agg #[(.func (.func 85) #[] #[]), (.func (.func 117) #[] #[(.pointer (some ⟨b4, 0, none⟩))]), (.func (.func 118) #[] #[(.pointer (some ⟨b5, 0, none⟩))])])] zqn fun j => ?_)
 refine zH hO (i := 2) rfl (off := 0) rfl rfl rfl rfl (Nat.le_of_ble_eq_true rfl) rfl fun σ hO => ?_
 have hO : Obs _ _ [_, _, _] := hO
 refine zh (zp ?_)
 obtain ⟨_, h8, m7, hO⟩ := hO.shareV (i := 0) rfl
 have hL := hL.trans h8
 have hO : Obs _ _ [_, _, _] := hO
 obtain ⟨_, h10, m9, hO⟩ := hO.shareV (i := 1) rfl
 have hL := hL.trans h10
 have m7 := m7.le h10
 have hO : Obs _ _ [_, _, _] := hO
 injection hF with hF
 subst hF
 have hV0 := hO.val (i := 2) rfl (off := 0) (agg := true) (n := 3) rfl
 have hO := hO.sel [] (by decide)
 exact hQ _ _ _ _ _ (zbn rfl (hV0) rfl) hO hL ⟨_, _, _, _, _, _, _, _, _, rfl, rfl, ⟨(⟨b4, 0, none⟩ : Addr), (⟨b5, 0, none⟩ : Addr), rfl, rfl, rfl, m7, m9⟩⟩
theorem zjB {τ : Hp}   {rr : zx} (hF : zfQ  = some rr) :
  Ctr Tryz.prog 74 #[] τ [] (fun v τ' vs' => ∃ (f0_0 : Fn) (a0_0 c0_0 : Array Value) (f0_1 : Fn) (a0_1 c0_1 : Array Value) (f0_2 : Fn) (a0_2 c0_2 : Array Value), v = .agg #[.func f0_0 a0_0 c0_0, .func f0_1 a0_1 c0_1, .func f0_2 a0_2 c0_2] ∧ vs' = [] ∧ zbw τ' rr (.func f0_0 a0_0 c0_0) (.func f0_1 a0_1 c0_1) (.func f0_2 a0_2 c0_2)) := by
 refine zw (args := []) hm Tryz.func74 s74 rfl fun w0 σ hO Q hQ => ?_
 unfold zfQ at hF
 have hL := Hp.le.refl τ
 show wpn _ _ a74.body _ _ _
 unfold a74
 dsimp only
 refine zbk hO fun b1 σ hO => ?_
 have hO : Obs _ _ [_] := hO
 refine zh ?_
 obtain ⟨c2, h3, hF⟩ := bind_some hF
 refine zr hO (zpx h3) rfl fun _ σ _ _ hO h4 h5 => ?_
 have hL := hL.trans h4
 obtain ⟨f7, a8, c9, f10, a11, c12, f13, a14, c15, rfl, rfl, r6⟩ := h5
 have hO : Obs _ _ [_] := hO
 refine zH hO (i := 0) rfl (off := 0) rfl rfl rfl rfl (Nat.le_of_ble_eq_true rfl) rfl fun σ hO => ?_
 have hO : Obs _ _ [_] := hO
 refine zh (zp ?_)
 injection hF with hF
 subst hF
 have hV0 := hO.val (i := 0) rfl (off := 0) (agg := true) (n := 3) rfl
 have hO := hO.sel [] (by decide)
 exact hQ _ _ _ _ _ (zbn rfl (hV0) rfl) hO hL ⟨_, _, _, _, _, _, _, _, _, rfl, rfl, r6⟩
theorem zk2 {τ : Hp} {v0 : Value} {p0 : (List UInt8)} {p1 : Int} (r0 : RdT Ty.u8 τ v0 p0) {rr : (List UInt8)} (hF : zec p0 p1 = some rr) :
  Ctr Tryz.prog 90 #[v0, .int .i64 p1] τ [] (fun v τ' vs' => ∃ (v0 : Value) (o0 : Ob), v = v0 ∧ vs' = [o0] ∧ zd Ty.u8 5 τ' v0 rr o0) := by
 obtain ⟨A0, c0, rfl, -⟩ := r0.form
 refine zw (args := [.slice A0 p0.length c0, .int .i64 p1]) hm Tryz.func90 s90 rfl fun w0 σ hO Q hQ => ?_
 unfold zec at hF
 have hL := Hp.le.refl τ
 show wpn _ _ a90.body _ _ _
 unfold a90
 dsimp only
 refine za hO [] [(0, .slice A0 p0.length c0), (1, zqC p1)] zqn fun j => ?_
 refine zb hO 1 [] [(1, zqC p1), (6, .slice A0 p0.length c0)] zqn fun j => ?_
 obtain ⟨c3, h4, hF⟩ := bind_some hF
 refine zr hO (ze6 r0 h4) rfl fun _ σ _ _ hO h5 h6 => ?_
 have hL := hL.trans h5
 have r0 := r0.le h5
 obtain ⟨v7, o10, rfl, rfl, w11⟩ := h6
 obtain ⟨A8, c9, rfl, -⟩ := w11.form
 have hO : Obs _ _ [_] := hO
 refine za hO [] [(1, zqC p1), (5, .slice A8 c3.length c9)] zqn fun j => ?_
 refine zO (zbr (fun (n : Nat) e' σ' => ∃ (x30 : Int) (A31 : Option Addr) (c32 : Nat) (o33 : Ob) (x34 : List UInt8) (τ' : Hp), agr [(1, zqC x30), (5, .slice A31 x34.length c32)] e' ∧ Obs τ' σ' [o33] ∧ Hp.le τ τ' ∧ zd Ty.u8 5 τ' (.slice A31 x34.length c32) x34 o33 ∧ zgx  n x30 x34 = some rr) big ⟨p1, A8, c9, o10, c3, _, zqB zqm, hO, hL, w11, hF⟩ ?_)
 clear hF hO hL
 rintro n49 e σ ⟨x30, A31, c32, o33, x34, _, hA, hO, hL, w35, hF⟩
 rw [← zC _ _ hA]
 cases n49 with
 | zero => exact nomatch (show none = some rr from hF)
 | succ n49 =>
  replace hF : zfG (zgx  n49) x30 x34 = some rr := hF
  unfold zfG at hF
  refine ze (za hO [] [(1, zqC x30), (5, .slice A31 x34.length c32), (13, .bool ((decide (x30 > 63)) || (decide (x30 < (-64)))))] (And.intro (And.intro rfl rfl) (fun _ => zqB zqn)) fun j => ?_)
  rcases zi hF with ⟨hb50, hF⟩ | ⟨hb50, hF⟩
  ·refine zl (congrArg Value.bool hb50) ?_
   refine zv (zeg (zO (zb hO 4 [] [(1, zqC x30), (14, .slice A31 x34.length c32), (17, .int .u8 (orI .u8 (IntKind.u8.wrap x30) 128))] zqo fun j => ?_)))
   obtain ⟨z51, hz51, hF⟩ := bind_some hF
   obtain ⟨_, hr56, hF⟩ := bind_some hF
   refine zbI (T := Ty.u8) (y := z51) hO w35 (i := 0) rfl rfl (fun _ => rfl) rfl (u8R hz51) rfl hr56 (by decide) fun u _ σ o54 w55 hO => ?_
   obtain ⟨A52, c53, rfl, -⟩ := w55.form
   have hO : Obs _ _ [_] := hO
   refine za hO [] [(1, zqC x30), (5, .slice A52 (x34 ++ [z51]).length c53)] zqn fun j => ?_
   refine zU (za hO [] [(1, zqC (zbL .i64 x30 7)), (5, .slice A52 (x34 ++ [z51]).length c53)] zqn fun j => ?_)
   refine zg (zK (zn (zg (zn ?_))))
   exact ⟨n49, Nat.lt_succ_self _, (zbL .i64 x30 7), A52, c53, o54, (x34 ++ [z51]), _, zqB zqm, hO, hL, w55, hF⟩
  ·refine zk (congrArg Value.bool hb50) ?_
   refine zbq (zbm (zbp (zn (zb hO 4 [] [(22, .slice A31 x34.length c32), (25, .int .u8 (zca .u8 (IntKind.u8.wrap x30) 127))] zqn fun j => ?_))))
   obtain ⟨z57, hz57, hF⟩ := bind_some hF
   obtain ⟨_, hr62, hF⟩ := bind_some hF
   refine zbI (T := Ty.u8) (y := z57) hO w35 (i := 0) rfl rfl (fun _ => rfl) rfl (u8R hz57) rfl hr62 (by decide) fun u _ σ o60 w61 hO => ?_
   obtain ⟨A58, c59, rfl, -⟩ := w61.form
   have hO : Obs _ _ [_] := hO
   refine za hO [] [(4, .slice A58 (x34 ++ [z57]).length c59)] zqm fun j => ?_
   refine zp ?_
   injection hF with hF
   subst hF
   exact hQ _ _ _ _ _ rfl hO hL ⟨_, _, rfl, rfl, w61⟩
theorem zk3 {τ : Hp} {v0 : Value} {p0 : (List UInt8)} (r0 : RdT Ty.u8 τ v0 p0) {rr : Int × Int} (hF : zfx p0 = some rr) :
  Ctr Tryz.prog 126 #[v0] τ [] (fun v τ' vs' => v = .tuple #[.int .u64 rr.1, .int .i64 rr.2] ∧ vs' = []) := by
 obtain ⟨A0, c0, rfl, -⟩ := r0.form
 refine zw (args := [.slice A0 p0.length c0]) hm Tryz.func126 zpP rfl fun w0 σ hO Q hQ => ?_
 unfold zfx at hF
 have hL := Hp.le.refl τ
 show wpn _ _ ziJ.body _ _ _
 unfold ziJ
 dsimp only
 refine za hO [] [(0, .slice A0 p0.length c0), (2, .int .u64 0)] zqn fun j => ?_
 refine ze (za hO [] [(0, .slice A0 p0.length c0), (2, .int .u64 0), (7, zqC (zbF (p0.length : Int) 10)), (8, zqC 0)] zqp fun j => ?_)
 refine zO (zbr (fun (n : Nat) e' σ' => ∃ (x18 : Int) (x19 : Int) (τ' : Hp), agr [(0, .slice A0 p0.length c0), (2, .int .u64 x18), (7, zqC (zbF (p0.length : Int) 10)), (8, zqC x19)] e' ∧ Obs τ' σ' [] ∧ Hp.le τ τ' ∧ RdT Ty.u8 τ' (.slice A0 p0.length c0) p0 ∧ zgi p0 n x18 x19 = some rr) big ⟨0, 0, _, zqB zqo, hO, hL, r0, hF⟩ ?_)
 clear hF hO hL
 rintro n34 e σ ⟨x18, x19, _, hA, hO, hL, r17, hF⟩
 rw [← zC _ _ hA]
 cases n34 with
 | zero => exact nomatch (show none = some rr from hF)
 | succ n34 =>
  replace hF : zfp (zgi p0 n34) p0 x18 x19 = some rr := hF
  unfold zfp at hF
  refine za hO [] [(0, .slice A0 p0.length c0), (2, .int .u64 x18), (7, zqC (zbF (p0.length : Int) 10)), (8, zqC x19), (9, .bool (decide (x19 < (zbF (p0.length : Int) 10))))] zqq fun j => ?_
  rcases zi hF with ⟨hb35, hF⟩ | ⟨hb35, hF⟩
  ·refine zl (congrArg Value.bool hb35) ?_
   refine zv (zO (za hO [] [(0, .slice A0 p0.length c0), (2, .int .u64 x18), (4, zqC x19), (7, zqC (zbF (p0.length : Int) 10)), (8, zqC x19)] zqq fun j => ?_))
   refine zb hO 3 [] [(0, .slice A0 p0.length c0), (4, zqC x19), (7, zqC (zbF (p0.length : Int) 10)), (8, zqC x19), (11, .int .u64 x18), (12, .slice A0 p0.length c0), (13, zqC x19)] zqs fun j => ?_
   obtain ⟨y36, g37, hF⟩ := bind_some hF
   refine zb6 (T := Ty.u8) r17 hO.base rfl rfl g37 (by decide) fun a38 _ k39 m40 => ?_
   obtain rfl : _ = ([.int .u8 y36.toNat] : List Value) := k39
   refine zZ rfl (m40.le hO.base).fst ?_
   refine zb hO 4 [] [(0, .slice A0 p0.length c0), (4, zqC x19), (7, zqC (zbF (p0.length : Int) 10)), (8, zqC x19), (11, .int .u64 x18), (17, .int .u64 (IntKind.u64.wrap (zca .u8 (y36.toNat : Int) 127))), (19, zqC (IntKind.i64.wrap (7 * x19)))] zqs fun j => ?_
   obtain ⟨y41, g42, hF⟩ := bind_some hF
   refine zcW (zf7 g42) ?_
   refine za hO [] [(0, .slice A0 p0.length c0), (2, .int .u64 (orI .u64 x18 y41)), (4, zqC x19), (7, zqC (zbF (p0.length : Int) 10)), (8, zqC x19)] zqq fun j => ?_
   refine zb hO 2 [] [(0, .slice A0 p0.length c0), (2, .int .u64 (orI .u64 x18 y41)), (4, zqC x19), (7, zqC (zbF (p0.length : Int) 10)), (8, zqC x19), (22, .slice A0 p0.length c0), (23, zqC x19)] zqs fun j => ?_
   obtain ⟨y43, g44, hF⟩ := bind_some hF
   refine zb6 (T := Ty.u8) r17 hO.base rfl rfl g44 (by decide) fun a45 _ k46 m47 => ?_
   obtain rfl : _ = ([.int .u8 y43.toNat] : List Value) := k46
   refine zZ rfl (m47.le hO.base).fst ?_
   refine za hO [] [(0, .slice A0 p0.length c0), (2, .int .u64 (orI .u64 x18 y41)), (4, zqC x19), (7, zqC (zbF (p0.length : Int) 10)), (8, zqC x19), (26, .bool (decide ((y43.toNat : Int) < 128)))] zqr fun j => ?_
   refine z2 ?_
   rcases zi hF with ⟨hb48, hF⟩ | ⟨hb48, hF⟩
   ·refine zl (congrArg Value.bool hb48) ?_
    refine ze (za hO [] [(2, .int .u64 (orI .u64 x18 y41)), (3, zqC (IntKind.i64.wrap (x19 + 1)))] zqn fun j => ?_)
    refine zz (zJ (zE (zE (zJ (zE ?_)))))
    injection hF with hF
    subst hF
    exact hQ _ _ _ _ _ rfl hO hL ⟨rfl, rfl⟩
   ·refine zk (congrArg Value.bool hb48) ?_
    refine zv (zg (zK (zn (zU (za hO [] [(0, .slice A0 p0.length c0), (2, .int .u64 (orI .u64 x18 y41)), (7, zqC (zbF (p0.length : Int) 10)), (8, zqC (IntKind.i64.wrap (x19 + 1)))] zqp fun j => ?_)))))
    refine zg (zn ?_)
    exact ⟨n34, Nat.lt_succ_self _, (orI .u64 x18 y41), (IntKind.i64.wrap (x19 + 1)), _, zqB zqo, hO, hL, r17, hF⟩
  ·refine zk (congrArg Value.bool hb35) ?_
   refine zbq (zbm (zbp (zn (za hO [] [(2, .int .u64 0), (3, zqC 0)] zqn fun j => ?_))))
   refine zp ?_
   injection hF with hF
   subst hF
   exact hQ _ _ _ _ _ rfl hO hL ⟨rfl, rfl⟩
theorem zjR {τ : Hp} {v0 : Value} {p0 : (List UInt8)} {v1 : Value} {p1 : (List UInt8)} (r0 : RdT Ty.u8 τ v0 p0) (r1 : RdT Ty.u8 τ v1 p1) {rr : Bool} (hF : zd5 p0 p1 = some rr) :
  Ctr Tryz.prog 127 #[v0, v1] τ [] (fun v τ' vs' => v = .bool rr ∧ vs' = []) := by
 obtain ⟨A0, c0, rfl, -⟩ := r0.form
 obtain ⟨A1, c1, rfl, -⟩ := r1.form
 refine zw (args := [.slice A0 p0.length c0, .slice A1 p1.length c1]) hm Tryz.func127 zmO rfl fun w0 σ hO Q hQ => ?_
 unfold zd5 at hF
 have hL := Hp.le.refl τ
 show wpn _ _ ziC.body _ _ _
 unfold ziC
 dsimp only
 refine za hO [] [(0, .slice A0 p0.length c0), (1, .slice A1 p1.length c1)] zqn fun j => ?_
 refine ze (za hO [] [(0, .slice A0 p0.length c0), (1, .slice A1 p1.length c1), (10, .bool ((p0.length : Int) != (p1.length : Int)))] zqo fun j => ?_)
 rcases zi hF with ⟨hb3, hF⟩ | ⟨hb3, hF⟩
 ·refine zl (congrArg Value.bool hb3) ?_
  refine ze (za hO [] [(4, .bool false)] zqm fun j => ?_)
  refine zz ?_
  injection hF with hF
  subst hF
  exact hQ _ _ _ _ _ rfl hO hL ⟨rfl, rfl⟩
 ·refine zk (congrArg Value.bool hb3) ?_
  refine zv (ze (za hO [] [(0, .slice A0 p0.length c0), (1, .slice A1 p1.length c1), (12, zqC (p0.length : Int)), (13, zqC 0)] zqp fun j => ?_))
  refine zO (zbr (fun (n : Nat) e' σ' => ∃ (x20 : Int) (τ' : Hp), agr [(0, .slice A0 p0.length c0), (1, .slice A1 p1.length c1), (12, zqC (p0.length : Int)), (13, zqC x20)] e' ∧ Obs τ' σ' [] ∧ Hp.le τ τ' ∧ RdT Ty.u8 τ' (.slice A0 p0.length c0) p0 ∧ RdT Ty.u8 τ' (.slice A1 p1.length c1) p1 ∧ zgC p0 p1 n x20 = some rr) big ⟨0, _, zqB zqo, hO, hL, r0, r1, hF⟩ ?_)
  clear hF hO hL
  rintro n33 e σ ⟨x20, _, hA, hO, hL, r18, r19, hF⟩
  rw [← zC _ _ hA]
  cases n33 with
  | zero => exact nomatch (show none = some rr from hF)
  | succ n33 =>
   replace hF : zgv (zgC p0 p1 n33) p0 p1 x20 = some rr := hF
   unfold zgv at hF
   refine za hO [] [(0, .slice A0 p0.length c0), (1, .slice A1 p1.length c1), (12, zqC (p0.length : Int)), (13, zqC x20), (14, .bool (decide (x20 < (p0.length : Int))))] zqq fun j => ?_
   rcases zi hF with ⟨hb34, hF⟩ | ⟨hb34, hF⟩
   ·refine zl (congrArg Value.bool hb34) ?_
    refine zv (zO (za hO [] [(0, .slice A0 p0.length c0), (1, .slice A1 p1.length c1), (5, zqC x20), (12, zqC (p0.length : Int)), (13, zqC x20)] zqq fun j => ?_))
    refine zbD (zb hO 2 [] [(0, .slice A0 p0.length c0), (1, .slice A1 p1.length c1), (5, zqC x20), (12, zqC (p0.length : Int)), (13, zqC x20), (16, .slice A0 p0.length c0), (17, zqC x20)] zqs fun j => ?_)
    obtain ⟨y35, g36, hF⟩ := bind_some hF
    refine zb6 (T := Ty.u8) r18 hO.base rfl rfl g36 (by decide) fun a37 _ k38 m39 => ?_
    obtain rfl : _ = ([.int .u8 y35.toNat] : List Value) := k38
    refine zZ rfl (m39.le hO.base).fst ?_
    refine zb hO 2 [] [(0, .slice A0 p0.length c0), (1, .slice A1 p1.length c1), (12, zqC (p0.length : Int)), (13, zqC x20), (19, .int .u8 (y35.toNat : Int)), (20, .slice A1 p1.length c1), (21, zqC x20)] zqs fun j => ?_
    obtain ⟨y40, g41, hF⟩ := bind_some hF
    refine zb6 (T := Ty.u8) r19 hO.base rfl rfl g41 (by decide) fun a42 _ k43 m44 => ?_
    obtain rfl : _ = ([.int .u8 y40.toNat] : List Value) := k43
    refine zZ rfl (m44.le hO.base).fst ?_
    refine za hO [] [(0, .slice A0 p0.length c0), (1, .slice A1 p1.length c1), (12, zqC (p0.length : Int)), (13, zqC x20), (24, .bool ((y35.toNat : Int) != (y40.toNat : Int)))] zqq fun j => ?_
    refine z2 ?_
    rcases zi hF with ⟨hb45, hF⟩ | ⟨hb45, hF⟩
    ·refine zl (congrArg Value.bool hb45) ?_
     refine ze (za hO [] [(4, .bool false)] zqm fun j => ?_)
     refine zz (zJ (zE (zE (zJ (zE ?_)))))
     injection hF with hF
     subst hF
     exact hQ _ _ _ _ _ rfl hO hL ⟨rfl, rfl⟩
    ·refine zk (congrArg Value.bool hb45) ?_
     refine zv (zg (zK (zn (zU (za hO [] [(0, .slice A0 p0.length c0), (1, .slice A1 p1.length c1), (12, zqC (p0.length : Int)), (13, zqC (IntKind.i64.wrap (x20 + 1)))] zqp fun j => ?_)))))
     refine zg (zn ?_)
     exact ⟨n33, Nat.lt_succ_self _, (IntKind.i64.wrap (x20 + 1)), _, zqB zqo, hO, hL, r18, r19, hF⟩
   ·refine zk (congrArg Value.bool hb34) ?_
    refine zbq (zbm (zbp (zn (za hO [] [(4, .bool true)] zqm fun j => ?_))))
    refine zp ?_
    injection hF with hF
    subst hF
    exact hQ _ _ _ _ _ rfl hO hL ⟨rfl, rfl⟩
theorem zp5 {τ : Hp} {p0 : Int} {p1 : Int}  {rr : Int} (hF : zfi p0 p1 = some rr) :
  Ctr Tryz.prog 121 #[.int .u64 p0, .int .i64 p1] τ [] (fun v τ' vs' => v = .int .i64 rr ∧ vs' = []) := by
 refine zw (args := [.int .u64 p0, .int .i64 p1]) hm Tryz.func121 zm0 rfl fun w0 σ hO Q hQ => ?_
 unfold zfi at hF
 have hL := Hp.le.refl τ
 show wpn _ _ zib.body _ _ _
 unfold zib
 dsimp only
 refine za hO [] [(0, .int .u64 p0), (1, zqC p1)] zqn fun j => ?_
 refine za hO [] [(0, .int .u64 p0), (5, zqC (zcr 0 (IntKind.i64.wrap (64 - (IntKind.i64.wrap (7 * p1))))))] zqn fun j => ?_
 refine zb hO 2 [] [(5, zqC (zcr 0 (IntKind.i64.wrap (64 - (IntKind.i64.wrap (7 * p1)))))), (10, .int .u64 p0), (11, zqC (zcr 0 (IntKind.i64.wrap (64 - (IntKind.i64.wrap (7 * p1))))))] zqo fun j => ?_
 obtain ⟨y3, g4, hF⟩ := bind_some hF
 refine zcW (zf7 g4) ?_
 refine zb hO 2 [] [(13, zqC (IntKind.i64.wrap y3)), (14, zqC (zcr 0 (IntKind.i64.wrap (64 - (IntKind.i64.wrap (7 * p1))))))] zqn fun j => ?_
 obtain ⟨y5, g6, hF⟩ := bind_some hF
 refine zcW (zkP g6) ?_
 refine za hO [] [(4, zqC y5)] zqm fun j => ?_
 refine zp ?_
 injection hF with hF
 subst hF
 exact hQ _ _ _ _ _ rfl hO hL ⟨rfl, rfl⟩
theorem zpw {τ : Hp} {v0 : Value} {p0 : (List UInt8)} {p1 : Int} (r0 : RdT Ty.u8 τ v0 p0) {rr : Int × Int × Int} (hF : zhZ p0 p1 = some rr) :
  Ctr Tryz.prog 120 #[v0, .int .i64 p1, .func (.func 121) #[] #[], .func (.func 90) #[] #[]] τ [] (fun v τ' vs' => v = .tuple #[.int .i64 rr.1, .int .i64 rr.2.1, .int .i64 rr.2.2] ∧ vs' = []) := by
 obtain ⟨A0, c0, rfl, -⟩ := r0.form
 refine zw (args := [.slice A0 p0.length c0, .int .i64 p1, .func (.func 121) #[] #[], .func (.func 90) #[] #[]]) hm Tryz.func120 zpe rfl fun w0 σ hO Q hQ => ?_
 unfold zhZ at hF
 have hL := Hp.le.refl τ
 show wpn _ _ zjg.body _ _ _
 unfold zjg
 dsimp only
 refine za hO [] [(0, .slice A0 p0.length c0), (1, zqC p1), (2, .func (.func 121) #[] #[]), (3, .func (.func 90) #[] #[])] zqp fun j => ?_
 refine ze (za hO [] [(0, .slice A0 p0.length c0), (1, zqC p1), (2, .func (.func 121) #[] #[]), (3, .func (.func 90) #[] #[]), (21, .bool ((decide (p1 < 0)) || (decide (p1 > (p0.length : Int)))))] (And.intro (And.intro rfl rfl) (fun _ => zqB zqp)) fun j => ?_)
 rcases zi hF with ⟨hb5, hF⟩ | ⟨hb5, hF⟩
 ·refine zl (congrArg Value.bool hb5) ?_
  refine ze (za hO [] [(8, zqC 0), (9, zqC 0), (10, zqC 1)] zqo fun j => ?_)
  refine zz ?_
  injection hF with hF
  subst hF
  exact hQ _ _ _ _ _ rfl hO hL ⟨rfl, rfl⟩
 ·refine zk (congrArg Value.bool hb5) ?_
  refine zv (zb hO 2 [] [(0, .slice A0 p0.length c0), (1, zqC p1), (2, .func (.func 121) #[] #[]), (3, .func (.func 90) #[] #[]), (23, .slice A0 p0.length c0), (24, zqC p1)] zqr fun j => ?_)
  obtain ⟨y6, g7, hF⟩ := bind_some hF
  refine zc9 (T := Ty.u8) r0 rfl rfl rfl g7 fun _ r8 => ?_
  obtain ⟨A9, c10, rfl, -⟩ := r8.form
  obtain ⟨c11, h12, hF⟩ := bind_some hF
  refine zr hO (zk3 r8 h12) rfl fun _ σ _ _ hO h13 h14 => ?_
  have hL := hL.trans h13
  have r0 := r0.le h13
  have r8 := r8.le h13
  obtain ⟨rfl, rfl⟩ := h14
  have hO : Obs _ _ [] := hO
  refine za hO [] [(0, .slice A0 p0.length c0), (1, zqC p1), (2, .func (.func 121) #[] #[]), (3, .func (.func 90) #[] #[]), (11, .int .u64 c11.1), (12, zqC c11.2)] zqr fun j => ?_
  refine zb hO 3 [] [(0, .slice A0 p0.length c0), (1, zqC p1), (3, .func (.func 90) #[] #[]), (12, zqC c11.2), (29, .func (.func 121) #[] #[]), (30, .int .u64 c11.1), (31, zqC c11.2)] zqs fun j => ?_
  obtain ⟨c15, h16, hF⟩ := bind_some hF
  refine zgY rfl (by kernel_rfl) hO (zp5 h16) rfl fun _ σ _ _ hO h17 h18 => ?_
  have hL := hL.trans h17
  have r0 := r0.le h17
  obtain ⟨rfl, rfl⟩ := h18
  have hO : Obs _ _ [] := hO
  refine za hO [] [(0, .slice A0 p0.length c0), (1, zqC p1), (3, .func (.func 90) #[] #[]), (12, zqC c11.2), (13, zqC c15)] zqq fun j => ?_
  refine ze (zbD (zb hO 3 [] [(0, .slice A0 p0.length c0), (1, zqC p1), (3, .func (.func 90) #[] #[]), (12, zqC c11.2), (13, zqC c15), (35, .bool (c11.2 == 0))] zqr fun j => ?_))
  obtain ⟨c19, h20, hF⟩ := bind_some hF
  refine zbC 2 (fun e' σ' => ∃ (τ' : Hp), agr [(47, .bool c19), (1, zqC p1), (12, zqC c11.2), (13, zqC c15)] e' ∧ Obs τ' σ' [] ∧ Hp.le τ τ') ?_ ?_
  ·have hF := h20
   rcases zi hF with ⟨hb21, hF⟩ | ⟨hb21, hF⟩
   ·refine zX (congrArg (fun x => isB (.bool x) false) hb21) ?_
    refine zA (congrArg Value.bool hb21) ?_
    refine zh ?_
    injection hF with hF
    subst hF
    refine zg ?_
    exact ⟨rfl, _, zqB zqo, hO, hL⟩
   ·refine zP (congrArg (fun x => isB (.bool x) false) hb21) ?_
    refine zb hO 7 [] [(1, zqC p1), (12, zqC c11.2), (13, zqC c15), (35, .bool (c11.2 == 0)), (36, .func (.func 90) #[] #[]), (37, zqC c15), (39, .slice A0 p0.length c0), (40, zqC p1), (43, zqC (IntKind.i64.wrap (p1 + c11.2)))] zqu fun j => ?_
    obtain ⟨y22, g23, hF⟩ := bind_some hF
    refine zc9 (T := Ty.u8) r0 rfl rfl rfl g23 fun _ r24 => ?_
    obtain ⟨A25, c26, rfl, -⟩ := r24.form
    obtain ⟨c27, h28, hF⟩ := bind_some hF
    refine zgY rfl (by kernel_rfl) hO (zk2 (RdT.nil Ty.u8 _) h28) rfl fun _ σ _ _ hO h29 h30 => ?_
    have hL := hL.trans h29
    have r0 := r0.le h29
    have r24 := r24.le h29
    obtain ⟨v31, o34, rfl, rfl, w35⟩ := h30
    obtain ⟨A32, c33, rfl, -⟩ := w35.form
    have hO : Obs _ _ [_] := hO
    obtain ⟨_, h37, r36, hO⟩ := w35.share hO (i := 0) rfl
    have hL := hL.trans h37
    have r0 := r0.le h37
    have r24 := r24.le h37
    have hO : Obs _ _ [_] := hO
    obtain ⟨c38, h39, hF⟩ := bind_some hF
    refine zr hO (zjR r36 r24 h39) rfl fun _ σ _ _ hO h40 h41 => ?_
    have hL := hL.trans h40
    have r36 := r36.le h40
    have r0 := r0.le h40
    have r24 := r24.le h40
    obtain ⟨rfl, rfl⟩ := h41
    have hO : Obs _ _ [_] := hO
    refine zb hO 1 [] [(1, zqC p1), (12, zqC c11.2), (13, zqC c15), (35, .bool (c11.2 == 0)), (46, .bool (!c38))] zqq fun j => ?_
    refine zA (congrArg Value.bool hb21) ?_
    refine zh ?_
    injection hF with hF
    subst hF
    refine zg ?_
    have hO := hO.sel [] (by decide)
    exact ⟨rfl, _, zqB zqo, hO, hL⟩
  ·rintro e σ ⟨_, hA, hO, hL⟩
   rw [← zC _ _ hA]
   refine zh ?_
   rcases zi hF with ⟨hb42, hF⟩ | ⟨hb42, hF⟩
   ·refine zl (congrArg Value.bool hb42) ?_
    refine ze (za hO [] [(8, zqC 0), (9, zqC 0), (10, zqC 5)] zqo fun j => ?_)
    refine zz ?_
    injection hF with hF
    subst hF
    exact hQ _ _ _ _ _ rfl hO hL ⟨rfl, rfl⟩
   ·refine zk (congrArg Value.bool hb42) ?_
    refine zv (za hO [] [(8, zqC c15), (9, zqC (IntKind.i64.wrap (p1 + c11.2))), (10, zqC 0)] zqo fun j => ?_)
    refine zp ?_
    injection hF with hF
    subst hF
    exact hQ _ _ _ _ _ rfl hO hL ⟨rfl, rfl⟩
theorem zoz {τ : Hp} {v0 : Value} {p0 : (List UInt8)} {p1 : Int} (r0 : RdT Ty.u8 τ v0 p0) {rr : Int × Int × Int} (hF : zge p0 p1 = some rr) :
  Ctr Tryz.prog 92 #[v0, .int .i64 p1] τ [] (fun v τ' vs' => v = .tuple #[.int .i64 rr.1, .int .i64 rr.2.1, .int .i64 rr.2.2] ∧ vs' = []) := by
 obtain ⟨A0, c0, rfl, -⟩ := r0.form
 refine zw (args := [.slice A0 p0.length c0, .int .i64 p1]) hm Tryz.func92 s92 rfl fun w0 σ hO Q hQ => ?_
 unfold zge at hF
 have hL := Hp.le.refl τ
 show wpn _ _ a92.body _ _ _
 unfold a92
 dsimp only
 refine za hO [] [(0, .slice A0 p0.length c0), (1, zqC p1)] zqn fun j => ?_
 refine zb hO 2 [] [(7, .slice A0 p0.length c0), (8, zqC p1)] zqn fun j => ?_
 obtain ⟨c3, h4, hF⟩ := bind_some hF
 refine zr hO (zpw r0 h4) rfl fun _ σ _ _ hO h5 h6 => ?_
 have hL := hL.trans h5
 have r0 := r0.le h5
 obtain ⟨rfl, rfl⟩ := h6
 have hO : Obs _ _ [] := hO
 refine za hO [] [(4, zqC c3.1), (5, zqC c3.2.1), (6, zqC c3.2.2)] zqo fun j => ?_
 refine zp ?_
 injection hF with hF
 subst hF
 exact hQ _ _ _ _ _ rfl hO hL ⟨rfl, rfl⟩
theorem zlt {τ : Hp} {v0 : Value} {p0 : (List UInt8)} {p1 : Int} {q2 : zc} {bm2 : Nat} (r0 : RdT Ty.u8 τ v0 p0) {rr : Int × Bool × zc} (hF : zde p0 p1 q2 = some rr) :
  Ctr Tryz.prog 91 #[v0, .int .i64 p1, .pointer (some ⟨bm2, 0, none⟩)] τ [some (bm2, ⟨[.int .u8 q2.Kind.toNat, .int .u8 q2.Op.toNat, .int .i64 q2.R, .int .i64 q2.S, .int .i64 q2.T, .int .i64 q2.N, .int .i64 q2.M], 54, 7, true⟩)] (fun v τ' vs' => v = .tuple #[.int .i64 rr.1, .bool rr.2.1] ∧ vs' = [some (bm2, ⟨[.int .u8 rr.2.2.Kind.toNat, .int .u8 rr.2.2.Op.toNat, .int .i64 rr.2.2.R, .int .i64 rr.2.2.S, .int .i64 rr.2.2.T, .int .i64 rr.2.2.N, .int .i64 rr.2.2.M], 54, 7, true⟩)]) := by
 obtain ⟨A0, c0, rfl, -⟩ := r0.form
 refine zw (args := [.slice A0 p0.length c0, .int .i64 p1, .pointer (some ⟨bm2, 0, none⟩)]) hm Tryz.func91 s91 rfl fun w0 σ hO Q hQ => ?_
 unfold zde at hF
 have hL := Hp.le.refl τ
 show wpn _ _ a91.body _ _ _
 unfold a91
 dsimp only
 refine za hO [] [(0, .slice A0 p0.length c0), (1, zqC p1), (2, zqD bm2)] zqo fun j => ?_
 refine zb hO 2 [] [(2, zqD bm2), (12, .slice A0 p0.length c0), (13, zqC p1)] zqo fun j => ?_
 obtain ⟨c4, h5, hF⟩ := bind_some hF
 refine zr hO (zoz r0 h5) rfl fun _ σ _ _ hO h6 h7 => ?_
 have hL := hL.trans h6
 have r0 := r0.le h6
 obtain ⟨rfl, rfl⟩ := h7
 have hO : Obs _ _ [_] := hO
 refine za hO [] [(2, zqD bm2), (8, zqC c4.1), (9, zqC c4.2.1), (10, zqC c4.2.2)] zqp fun j => ?_
 refine zb hO 4 [] [(2, zqD bm2), (9, zqC c4.2.1), (10, zqC c4.2.2), (19, zqC c4.1), (21, .pointer (some ⟨bm2, 5, none⟩))] zqq fun j => ?_
 refine zH hO (i := 0) rfl (off := 5) rfl rfl rfl rfl (Nat.le_of_ble_eq_true rfl) rfl fun σ hO => ?_
 have hO : Obs _ _ [_] := hO
 refine zh (za hO [] [(2, zqD bm2), (6, zqC c4.2.1), (7, .bool (c4.2.2 == 0))] zqo fun j => ?_)
 refine zp ?_
 injection hF with hF
 subst hF
 exact hQ _ _ _ _ _ rfl hO hL ⟨rfl, rfl⟩
theorem zmN {τ : Hp} {q0 : zc} {bm0 : Nat}  {rr : Bool × zc} (hF : zhk q0 = some rr) :
  Ctr Tryz.prog 93 #[.pointer (some ⟨bm0, 0, none⟩)] τ [some (bm0, ⟨[.int .u8 q0.Kind.toNat, .int .u8 q0.Op.toNat, .int .i64 q0.R, .int .i64 q0.S, .int .i64 q0.T, .int .i64 q0.N, .int .i64 q0.M], 54, 7, true⟩)] (fun v τ' vs' => v = .bool rr.1 ∧ vs' = [some (bm0, ⟨[.int .u8 rr.2.Kind.toNat, .int .u8 rr.2.Op.toNat, .int .i64 rr.2.R, .int .i64 rr.2.S, .int .i64 rr.2.T, .int .i64 rr.2.N, .int .i64 rr.2.M], 54, 7, true⟩)]) := by
 refine zw (args := [.pointer (some ⟨bm0, 0, none⟩)]) hm Tryz.func93 s93 rfl fun w0 σ hO Q hQ => ?_
 unfold zhk at hF
 have hL := Hp.le.refl τ
 show wpn _ _ a93.body _ _ _
 unfold a93
 dsimp only
 refine za hO [] [(0, zqD bm0)] zqm fun j => ?_
 refine zb hO 4 [0] [(0, zqD bm0), (6, zqC q0.R)] (And.intro (And.intro rfl rfl) zqn) fun j => ?_
 obtain ⟨c2, h3, hF⟩ := bind_some hF
 refine zr hO (zh2 h3) rfl fun _ σ _ _ hO h4 h5 => ?_
 have hL := hL.trans h4
 obtain ⟨rfl, rfl⟩ := h5
 have hO : Obs _ _ [_] := hO
 refine zb hO 1 [] [(0, zqD bm0), (8, .bool c2)] zqn fun j => ?_
 obtain ⟨c6, h7, hF⟩ := bind_some hF
 refine zbC 2 (fun e' σ' => ∃ (τ' : Hp), agr [(14, .bool c6), (0, zqD bm0)] e' ∧ Obs τ' σ' [some (bm0, ⟨[.int .u8 (q0.Kind.toNat : Int), .int .u8 (q0.Op.toNat : Int), .int .i64 q0.R, .int .i64 q0.S, .int .i64 q0.T, .int .i64 q0.N, .int .i64 q0.M], 54, 7, true⟩)] ∧ Hp.le τ τ') ?_ ?_
 ·have hF := h7
  rcases zi hF with ⟨hb8, hF⟩ | ⟨hb8, hF⟩
  ·refine zP (congrArg (fun x => isB (.bool x) true) hb8) ?_
   refine zb hO 4 [0] [(0, zqD bm0), (8, .bool c2), (12, zqC q0.S)] (And.intro (And.intro rfl rfl) zqo) fun j => ?_
   obtain ⟨c9, h10, hF⟩ := bind_some hF
   refine zr hO (zh2 h10) rfl fun _ σ _ _ hO h11 h12 => ?_
   have hL := hL.trans h11
   obtain ⟨rfl, rfl⟩ := h12
   have hO : Obs _ _ [_] := hO
   refine zA (congrArg Value.bool hb8) ?_
   refine zh ?_
   injection hF with hF
   subst hF
   refine zg ?_
   exact ⟨rfl, _, zqB zqm, hO, hL⟩
  ·refine zX (congrArg (fun x => isB (.bool x) true) hb8) ?_
   refine zA (congrArg Value.bool hb8) ?_
   refine zh ?_
   injection hF with hF
   subst hF
   refine zg ?_
   exact ⟨rfl, _, zqB zqm, hO, hL⟩
 ·rintro e σ ⟨_, hA, hO, hL⟩
  rw [← zC _ _ hA]
  refine za hO [] [(0, zqD bm0), (2, .bool c6)] zqn fun j => ?_
  refine zp ?_
  injection hF with hF
  subst hF
  exact hQ _ _ _ _ _ rfl hO hL ⟨rfl, rfl⟩
theorem zmc {τ : Hp} {p0 : Int} {p1 : Int}  {rr : Int × Bool} (hF : ze7 p0 p1 = some rr) :
  Ctr Tryz.prog 95 #[.int .i64 p0, .int .i64 p1] τ [] (fun v τ' vs' => v = .tuple #[.int .u8 rr.1, .bool rr.2] ∧ vs' = []) := by
 refine zw (args := [.int .i64 p0, .int .i64 p1]) hm Tryz.func95 s95 rfl fun w0 σ hO Q hQ => ?_
 unfold ze7 at hF
 have hL := Hp.le.refl τ
 show wpn _ _ a95.body _ _ _
 unfold a95
 dsimp only
 refine za hO [] [(0, zqC p0), (1, zqC p1)] zqn fun j => ?_
 refine ze (za hO [] [(0, zqC p0), (1, zqC p1), (19, .bool ((((decide (p0 < 0)) || (decide (p0 ≥ 16))) || (decide (p1 < 0))) || (decide (p1 ≥ 16))))] (And.intro (And.intro rfl rfl) (fun _ => And.intro (And.intro rfl rfl) (fun _ => And.intro (And.intro rfl rfl) (fun _ => zqB zqn)))) fun j => ?_)
 rcases zi hF with ⟨hb3, hF⟩ | ⟨hb3, hF⟩
 ·refine zl (congrArg Value.bool hb3) ?_
  refine ze (za hO [] [(4, .int .u8 0), (5, .bool false)] zqn fun j => ?_)
  refine zz ?_
  injection hF with hF
  subst hF
  exact hQ _ _ _ _ _ rfl hO hL ⟨rfl, rfl⟩
 ·refine zk (congrArg Value.bool hb3) ?_
  refine zv (za hO [] [(4, .int .u8 (IntKind.u8.wrap (orI .i64 (zbU .i64 p0 4) p1))), (5, .bool true)] zqn fun j => ?_)
  refine zp ?_
  injection hF with hF
  subst hF
  exact hQ _ _ _ _ _ rfl hO hL ⟨rfl, rfl⟩
theorem zlS {τ : Hp} {q0 : zc} {bm0 : Nat}  {rr : Int × zc} (hF : zgQ q0 = some rr) :
  Ctr Tryz.prog 94 #[.pointer (some ⟨bm0, 0, none⟩)] τ [some (bm0, ⟨[.int .u8 q0.Kind.toNat, .int .u8 q0.Op.toNat, .int .i64 q0.R, .int .i64 q0.S, .int .i64 q0.T, .int .i64 q0.N, .int .i64 q0.M], 54, 7, true⟩)] (fun v τ' vs' => v = .int .u8 rr.1 ∧ vs' = [some (bm0, ⟨[.int .u8 rr.2.Kind.toNat, .int .u8 rr.2.Op.toNat, .int .i64 rr.2.R, .int .i64 rr.2.S, .int .i64 rr.2.T, .int .i64 rr.2.N, .int .i64 rr.2.M], 54, 7, true⟩)]) := by
 refine zw (args := [.pointer (some ⟨bm0, 0, none⟩)]) hm Tryz.func94 s94 rfl fun w0 σ hO Q hQ => ?_
 unfold zgQ at hF
 have hL := Hp.le.refl τ
 show wpn _ _ a94.body _ _ _
 unfold a94
 dsimp only
 refine za hO [] [(0, zqD bm0)] zqm fun j => ?_
 refine zbD (zb hO 8 [0, 0] [(0, zqD bm0), (9, zqC q0.R), (13, zqC q0.S)] (And.intro (And.intro rfl rfl) (And.intro (And.intro rfl rfl) zqo)) fun j => ?_)
 obtain ⟨c2, h3, hF⟩ := bind_some hF
 refine zr hO (zmc h3) rfl fun _ σ _ _ hO h4 h5 => ?_
 have hL := hL.trans h4
 obtain ⟨rfl, rfl⟩ := h5
 have hO : Obs _ _ [_] := hO
 refine za hO [] [(0, zqD bm0), (3, .int .u8 c2.1)] zqn fun j => ?_
 refine za hO [] [(0, zqD bm0), (2, .int .u8 c2.1)] zqn fun j => ?_
 refine zp ?_
 injection hF with hF
 subst hF
 exact hQ _ _ _ _ _ rfl hO hL ⟨rfl, rfl⟩
theorem zmo {τ : Hp} {p0 : Int}  {rr : Int × Int} (hF : zfd p0 = some rr) :
  Ctr Tryz.prog 97 #[.int .u8 p0] τ [] (fun v τ' vs' => v = .tuple #[.int .i64 rr.1, .int .i64 rr.2] ∧ vs' = []) := by
 refine zw (args := [.int .u8 p0]) hm Tryz.func97 s97 rfl fun w0 σ hO Q hQ => ?_
 unfold zfd at hF
 have hL := Hp.le.refl τ
 show wpn _ _ a97.body _ _ _
 unfold a97
 dsimp only
 refine za hO [] [(0, .int .u8 p0)] zqm fun j => ?_
 refine za hO [] [(2, zqC (IntKind.i64.wrap (zbL .u8 p0 4))), (3, zqC (IntKind.i64.wrap (zca .u8 p0 15)))] zqn fun j => ?_
 refine zp ?_
 injection hF with hF
 subst hF
 exact hQ _ _ _ _ _ rfl hO hL ⟨rfl, rfl⟩
theorem zpV {τ : Hp} {q0 : zc} {bm0 : Nat} {p1 : Int}  {rr : zc} (hF : zfm q0 p1 = some rr) :
  Ctr Tryz.prog 96 #[.pointer (some ⟨bm0, 0, none⟩), .int .u8 p1] τ [some (bm0, ⟨[.int .u8 q0.Kind.toNat, .int .u8 q0.Op.toNat, .int .i64 q0.R, .int .i64 q0.S, .int .i64 q0.T, .int .i64 q0.N, .int .i64 q0.M], 54, 7, true⟩)] (fun v τ' vs' => v = .tuple #[] ∧ vs' = [some (bm0, ⟨[.int .u8 rr.Kind.toNat, .int .u8 rr.Op.toNat, .int .i64 rr.R, .int .i64 rr.S, .int .i64 rr.T, .int .i64 rr.N, .int .i64 rr.M], 54, 7, true⟩)]) := by
 refine zfn (args := [.pointer (some ⟨bm0, 0, none⟩), .int .u8 p1]) hm Tryz.func96 s96 rfl fun w0 σ hO Q hQ => ?_
 unfold zfm at hF
 have hL := Hp.le.refl τ
 show wpn _ _ a96.body _ _ _
 unfold a96
 dsimp only
 refine zU (zb hO 3 [] [(0, zqD bm0), (5, zqD bm0), (6, zqD bm0), (7, .int .u8 p1)] zqp fun j => ?_)
 obtain ⟨c3, h4, hF⟩ := bind_some hF
 refine zr hO (zmo h4) rfl fun _ σ _ _ hO h5 h6 => ?_
 have hL := hL.trans h5
 obtain ⟨rfl, rfl⟩ := h6
 have hO : Obs _ _ [_] := hO
 refine zb hO 5 [] [(0, zqD bm0), (6, zqD bm0), (9, zqC c3.1), (10, zqC c3.2), (12, .pointer (some ⟨bm0, 2, none⟩))] zqq fun j => ?_
 refine zH hO (i := 0) rfl (off := 2) rfl rfl rfl rfl (Nat.le_of_ble_eq_true rfl) rfl fun σ hO => ?_
 have hO : Obs _ _ [_] := hO
 refine zb hO 2 [] [(0, zqD bm0), (10, zqC c3.2), (14, .pointer (some ⟨bm0, 3, none⟩))] zqo fun j => ?_
 refine zH hO (i := 0) rfl (off := 3) rfl rfl rfl rfl (Nat.le_of_ble_eq_true rfl) rfl fun σ hO => ?_
 have hO : Obs _ _ [_] := hO
 refine zh (zg ?_)
 injection hF with hF
 subst hF
 exact (hQ _ _ _ _ _ rfl hO hL ⟨rfl, rfl⟩).2
theorem zno {τ : Hp}   {rr : zx} (hF : ziS  = some rr) :
  Ctr Tryz.prog 84 #[.func (.func 93) #[] #[], .func (.func 94) #[] #[], .func (.func 96) #[] #[]] τ [] (fun v τ' vs' => ∃ (f0_0 : Fn) (a0_0 c0_0 : Array Value) (f0_1 : Fn) (a0_1 c0_1 : Array Value) (f0_2 : Fn) (a0_2 c0_2 : Array Value), v = .agg #[.func f0_0 a0_0 c0_0, .func f0_1 a0_1 c0_1, .func f0_2 a0_2 c0_2] ∧ vs' = [] ∧ zbw τ' rr (.func f0_0 a0_0 c0_0) (.func f0_1 a0_1 c0_1) (.func f0_2 a0_2 c0_2)) := by
 refine zw (args := [.func (.func 93) #[] #[], .func (.func 94) #[] #[], .func (.func 96) #[] #[]]) hm Tryz.func84 s84 rfl fun w0 σ hO Q hQ => ?_
 unfold ziS at hF
 have hL := Hp.le.refl τ
 show wpn _ _ a84.body _ _ _
 unfold a84
 dsimp only
 refine zba (n := 1) hO rfl rfl fun b4 σ hO => ?_
 have hO : Obs _ _ [_] := hO
 refine zba (n := 1) hO rfl rfl fun b5 σ hO => ?_
 have hO : Obs _ _ [_, _] := hO
 refine zbk hO fun b6 σ hO => ?_
 have hO : Obs _ _ [_, _, _] := hO
 refine zh (zb hO 4 [] [(6, zqD b6), (10, .agg #[(.func (.func 93) #[] #[]), (.func (.func 117) #[] #[(.pointer (some ⟨b4, 0, none⟩))]), (.func (.func 118) #[] #[(.pointer (some ⟨b5, 0, none⟩))])])] zqn fun j => ?_)
 refine zH hO (i := 2) rfl (off := 0) rfl rfl rfl rfl (Nat.le_of_ble_eq_true rfl) rfl fun σ hO => ?_
 have hO : Obs _ _ [_, _, _] := hO
 refine zh (zp ?_)
 obtain ⟨_, h8, m7, hO⟩ := hO.shareV (i := 0) rfl
 have hL := hL.trans h8
 have hO : Obs _ _ [_, _, _] := hO
 obtain ⟨_, h10, m9, hO⟩ := hO.shareV (i := 1) rfl
 have hL := hL.trans h10
 have m7 := m7.le h10
 have hO : Obs _ _ [_, _, _] := hO
 injection hF with hF
 subst hF
 have hV0 := hO.val (i := 2) rfl (off := 0) (agg := true) (n := 3) rfl
 have hO := hO.sel [] (by decide)
 exact hQ _ _ _ _ _ (zbn rfl (hV0) rfl) hO hL ⟨_, _, _, _, _, _, _, _, _, rfl, rfl, ⟨(⟨b4, 0, none⟩ : Addr), (⟨b5, 0, none⟩ : Addr), rfl, rfl, rfl, m7, m9⟩⟩
theorem zfX {τ : Hp}   {rr : zx} (hF : zdJ  = some rr) :
  Ctr Tryz.prog 76 #[] τ [] (fun v τ' vs' => ∃ (f0_0 : Fn) (a0_0 c0_0 : Array Value) (f0_1 : Fn) (a0_1 c0_1 : Array Value) (f0_2 : Fn) (a0_2 c0_2 : Array Value), v = .agg #[.func f0_0 a0_0 c0_0, .func f0_1 a0_1 c0_1, .func f0_2 a0_2 c0_2] ∧ vs' = [] ∧ zbw τ' rr (.func f0_0 a0_0 c0_0) (.func f0_1 a0_1 c0_1) (.func f0_2 a0_2 c0_2)) := by
 refine zw (args := []) hm Tryz.func76 s76 rfl fun w0 σ hO Q hQ => ?_
 unfold zdJ at hF
 have hL := Hp.le.refl τ
 show wpn _ _ a76.body _ _ _
 unfold a76
 dsimp only
 refine zbk hO fun b1 σ hO => ?_
 have hO : Obs _ _ [_] := hO
 refine zh ?_
 obtain ⟨c2, h3, hF⟩ := bind_some hF
 refine zr hO (zno h3) rfl fun _ σ _ _ hO h4 h5 => ?_
 have hL := hL.trans h4
 obtain ⟨f7, a8, c9, f10, a11, c12, f13, a14, c15, rfl, rfl, r6⟩ := h5
 have hO : Obs _ _ [_] := hO
 refine zH hO (i := 0) rfl (off := 0) rfl rfl rfl rfl (Nat.le_of_ble_eq_true rfl) rfl fun σ hO => ?_
 have hO : Obs _ _ [_] := hO
 refine zh (zp ?_)
 injection hF with hF
 subst hF
 have hV0 := hO.val (i := 0) rfl (off := 0) (agg := true) (n := 3) rfl
 have hO := hO.sel [] (by decide)
 exact hQ _ _ _ _ _ (zbn rfl (hV0) rfl) hO hL ⟨_, _, _, _, _, _, _, _, _, rfl, rfl, r6⟩
theorem zpm {τ : Hp} {q0 : zc} {bm0 : Nat}  {rr : Int × zc} (hF : zhd q0 = some rr) :
  Ctr Tryz.prog 99 #[.pointer (some ⟨bm0, 0, none⟩)] τ [some (bm0, ⟨[.int .u8 q0.Kind.toNat, .int .u8 q0.Op.toNat, .int .i64 q0.R, .int .i64 q0.S, .int .i64 q0.T, .int .i64 q0.N, .int .i64 q0.M], 54, 7, true⟩)] (fun v τ' vs' => v = .int .u8 rr.1 ∧ vs' = [some (bm0, ⟨[.int .u8 rr.2.Kind.toNat, .int .u8 rr.2.Op.toNat, .int .i64 rr.2.R, .int .i64 rr.2.S, .int .i64 rr.2.T, .int .i64 rr.2.N, .int .i64 rr.2.M], 54, 7, true⟩)]) := by
 refine zw (args := [.pointer (some ⟨bm0, 0, none⟩)]) hm Tryz.func99 s99 rfl fun w0 σ hO Q hQ => ?_
 unfold zhd at hF
 have hL := Hp.le.refl τ
 show wpn _ _ a99.body _ _ _
 unfold a99
 dsimp only
 refine za hO [] [(0, zqD bm0)] zqm fun j => ?_
 refine za hO [0] [(0, zqD bm0), (2, .int .u8 (q0.Op.toNat : Int))] (And.intro (And.intro rfl rfl) zqn) fun j => ?_
 refine zp ?_
 injection hF with hF
 subst hF
 exact hQ _ _ _ _ _ rfl hO hL ⟨rfl, rfl⟩
theorem zo7 {τ : Hp} {q0 : zc} {bm0 : Nat} {p1 : Int}  {rr : zc} (hF : zf3 q0 p1 = some rr) :
  Ctr Tryz.prog 100 #[.pointer (some ⟨bm0, 0, none⟩), .int .u8 p1] τ [some (bm0, ⟨[.int .u8 q0.Kind.toNat, .int .u8 q0.Op.toNat, .int .i64 q0.R, .int .i64 q0.S, .int .i64 q0.T, .int .i64 q0.N, .int .i64 q0.M], 54, 7, true⟩)] (fun v τ' vs' => v = .tuple #[] ∧ vs' = [some (bm0, ⟨[.int .u8 rr.Kind.toNat, .int .u8 rr.Op.toNat, .int .i64 rr.R, .int .i64 rr.S, .int .i64 rr.T, .int .i64 rr.N, .int .i64 rr.M], 54, 7, true⟩)]) := by
 refine zfn (args := [.pointer (some ⟨bm0, 0, none⟩), .int .u8 p1]) hm Tryz.func100 zp3 rfl fun w0 σ hO Q hQ => ?_
 unfold zf3 at hF
 have hL := Hp.le.refl τ
 show wpn _ _ zfb.body _ _ _
 unfold zfb
 dsimp only
 refine zU (zb hO 4 [] [(0, zqD bm0), (5, .int .u8 p1), (7, .pointer (some ⟨bm0, 1, none⟩))] zqo fun j => ?_)
 refine zH hO (i := 0) rfl (off := 1) rfl rfl rfl rfl (Nat.le_of_ble_eq_true rfl) rfl fun σ hO => ?_
 have hO : Obs _ _ [_] := hO
 refine zh (zg ?_)
 obtain ⟨z3, hz3, hF⟩ := bind_some hF
 injection hF with hF
 subst hF
 exact (hQ _ _ _ _ _ rfl hO hL ⟨(by first | rfl | (simp only [ze4 hz3]; done) | (simp only [← ze4 hz3]; try rfl)), (by first | rfl | (simp only [ze4 hz3]; done) | (simp only [← ze4 hz3]; try rfl))⟩).2
theorem zns {τ : Hp} {q0_0 : Int} {a0_0 : Addr} {q0_1 : Int} {a0_1 : Addr} (m0_0 : At τ a0_0 [.int .u8 q0_0]) (m0_1 : At τ a0_1 [.int .u8 q0_1]) {rr : zx} (hF : ziL q0_0 q0_1 = some rr) :
  Ctr Tryz.prog 84 #[.func (.func 98) #[] #[(.pointer (some a0_0)), (.pointer (some a0_1))], .func (.func 99) #[] #[], .func (.func 100) #[] #[]] τ [] (fun v τ' vs' => ∃ (f0_0 : Fn) (a0_0 c0_0 : Array Value) (f0_1 : Fn) (a0_1 c0_1 : Array Value) (f0_2 : Fn) (a0_2 c0_2 : Array Value), v = .agg #[.func f0_0 a0_0 c0_0, .func f0_1 a0_1 c0_1, .func f0_2 a0_2 c0_2] ∧ vs' = [] ∧ zbw τ' rr (.func f0_0 a0_0 c0_0) (.func f0_1 a0_1 c0_1) (.func f0_2 a0_2 c0_2)) := by
 refine zw (args := [.func (.func 98) #[] #[(.pointer (some a0_0)), (.pointer (some a0_1))], .func (.func 99) #[] #[], .func (.func 100) #[] #[]]) hm Tryz.func84 s84 rfl fun w0 σ hO Q hQ => ?_
 unfold ziL at hF
 have hL := Hp.le.refl τ
 show wpn _ _ a84.body _ _ _
 unfold a84
 dsimp only
 refine zba (n := 1) hO rfl rfl fun b4 σ hO => ?_
 have hO : Obs _ _ [_] := hO
 refine zba (n := 1) hO rfl rfl fun b5 σ hO => ?_
 have hO : Obs _ _ [_, _] := hO
 refine zbk hO fun b6 σ hO => ?_
 have hO : Obs _ _ [_, _, _] := hO
 refine zh (zb hO 4 [] [(6, zqD b6), (10, .agg #[(.func (.func 98) #[] #[(.pointer (some a0_0)), (.pointer (some a0_1))]), (.func (.func 117) #[] #[(.pointer (some ⟨b4, 0, none⟩))]), (.func (.func 118) #[] #[(.pointer (some ⟨b5, 0, none⟩))])])] zqn fun j => ?_)
 refine zH hO (i := 2) rfl (off := 0) rfl rfl rfl rfl (Nat.le_of_ble_eq_true rfl) rfl fun σ hO => ?_
 have hO : Obs _ _ [_, _, _] := hO
 refine zh (zp ?_)
 obtain ⟨_, h8, m7, hO⟩ := hO.shareV (i := 0) rfl
 have hL := hL.trans h8
 have m0_0 := m0_0.le h8
 have m0_1 := m0_1.le h8
 have hO : Obs _ _ [_, _, _] := hO
 obtain ⟨_, h10, m9, hO⟩ := hO.shareV (i := 1) rfl
 have hL := hL.trans h10
 have m0_0 := m0_0.le h10
 have m0_1 := m0_1.le h10
 have m7 := m7.le h10
 have hO : Obs _ _ [_, _, _] := hO
 injection hF with hF
 subst hF
 have hV0 := hO.val (i := 2) rfl (off := 0) (agg := true) (n := 3) rfl
 have hO := hO.sel [] (by decide)
 exact hQ _ _ _ _ _ (zbn rfl (hV0) rfl) hO hL ⟨_, _, _, _, _, _, _, _, _, rfl, rfl, ⟨a0_0, a0_1, (⟨b4, 0, none⟩ : Addr), (⟨b5, 0, none⟩ : Addr), rfl, rfl, rfl, m0_0, m0_1, m7, m9⟩⟩
theorem zk0 {τ : Hp} {p0 : Int} {p1 : Int}  {rr : zx} (hF : zhc p0 p1 = some rr) :
  Ctr Tryz.prog 77 #[.int .u8 p0, .int .u8 p1] τ [] (fun v τ' vs' => ∃ (f0_0 : Fn) (a0_0 c0_0 : Array Value) (f0_1 : Fn) (a0_1 c0_1 : Array Value) (f0_2 : Fn) (a0_2 c0_2 : Array Value), v = .agg #[.func f0_0 a0_0 c0_0, .func f0_1 a0_1 c0_1, .func f0_2 a0_2 c0_2] ∧ vs' = [] ∧ zbw τ' rr (.func f0_0 a0_0 c0_0) (.func f0_1 a0_1 c0_1) (.func f0_2 a0_2 c0_2)) := by
 refine zw (args := [.int .u8 p0, .int .u8 p1]) hm Tryz.func77 s77 rfl fun w0 σ hO Q hQ => ?_
 unfold zhc at hF
 have hL := Hp.le.refl τ
 show wpn _ _ a77.body _ _ _
 unfold a77
 dsimp only
 refine zba (n := 1) hO rfl rfl fun b3 σ hO => ?_
 have hO : Obs _ _ [_] := hO
 refine zba (n := 1) hO rfl rfl fun b4 σ hO => ?_
 have hO : Obs _ _ [_, _] := hO
 refine zbk hO fun b5 σ hO => ?_
 have hO : Obs _ _ [_, _, _] := hO
 refine zh (zb hO 1 [] [(4, zqD b5), (5, .func (.func 98) #[] #[(.pointer (some ⟨b3, 0, none⟩)), (.pointer (some ⟨b4, 0, none⟩))])] zqn fun j => ?_)
 obtain ⟨_, h7, m6, hO⟩ := hO.shareV (i := 0) rfl
 have hL := hL.trans h7
 have hO : Obs _ _ [_, _, _] := hO
 obtain ⟨_, h9, m8, hO⟩ := hO.shareV (i := 1) rfl
 have hL := hL.trans h9
 have m6 := m6.le h9
 have hO : Obs _ _ [_, _, _] := hO
 obtain ⟨c10, h11, hF⟩ := bind_some hF
 refine zr hO (zns m6 m8 h11) rfl fun _ σ _ _ hO h12 h13 => ?_
 have hL := hL.trans h12
 have m6 := m6.le h12
 have m8 := m8.le h12
 obtain ⟨f15, a16, c17, f18, a19, c20, f21, a22, c23, rfl, rfl, r14⟩ := h13
 have hO : Obs _ _ [_, _, _] := hO
 refine zH hO (i := 2) rfl (off := 0) rfl rfl rfl rfl (Nat.le_of_ble_eq_true rfl) rfl fun σ hO => ?_
 have hO : Obs _ _ [_, _, _] := hO
 refine zh (zp ?_)
 injection hF with hF
 subst hF
 have hV0 := hO.val (i := 2) rfl (off := 0) (agg := true) (n := 3) rfl
 have hO := hO.sel [] (by decide)
 exact hQ _ _ _ _ _ (zbn rfl (hV0) rfl) hO hL ⟨_, _, _, _, _, _, _, _, _, rfl, rfl, r14⟩
theorem znE {τ : Hp} {q0 : zc} {bm0 : Nat}  {rr : Bool × zc} (hF : zh0 q0 = some rr) :
  Ctr Tryz.prog 101 #[.pointer (some ⟨bm0, 0, none⟩)] τ [some (bm0, ⟨[.int .u8 q0.Kind.toNat, .int .u8 q0.Op.toNat, .int .i64 q0.R, .int .i64 q0.S, .int .i64 q0.T, .int .i64 q0.N, .int .i64 q0.M], 54, 7, true⟩)] (fun v τ' vs' => v = .bool rr.1 ∧ vs' = [some (bm0, ⟨[.int .u8 rr.2.Kind.toNat, .int .u8 rr.2.Op.toNat, .int .i64 rr.2.R, .int .i64 rr.2.S, .int .i64 rr.2.T, .int .i64 rr.2.N, .int .i64 rr.2.M], 54, 7, true⟩)]) := by
 refine zw (args := [.pointer (some ⟨bm0, 0, none⟩)]) hm Tryz.func101 znz rfl fun w0 σ hO Q hQ => ?_
 unfold zh0 at hF
 have hL := Hp.le.refl τ
 show wpn _ _ zjC.body _ _ _
 unfold zjC
 dsimp only
 refine za hO [] [(0, zqD bm0)] zqm fun j => ?_
 refine zb hO 4 [0] [(0, zqD bm0), (6, zqC q0.T)] (And.intro (And.intro rfl rfl) zqn) fun j => ?_
 obtain ⟨c2, h3, hF⟩ := bind_some hF
 refine zr hO (zh2 h3) rfl fun _ σ _ _ hO h4 h5 => ?_
 have hL := hL.trans h4
 obtain ⟨rfl, rfl⟩ := h5
 have hO : Obs _ _ [_] := hO
 refine za hO [] [(0, zqD bm0), (2, .bool c2)] zqn fun j => ?_
 refine zp ?_
 injection hF with hF
 subst hF
 exact hQ _ _ _ _ _ rfl hO hL ⟨rfl, rfl⟩
theorem znO {τ : Hp} {q0 : zc} {bm0 : Nat}  {rr : Int × zc} (hF : zg9 q0 = some rr) :
  Ctr Tryz.prog 102 #[.pointer (some ⟨bm0, 0, none⟩)] τ [some (bm0, ⟨[.int .u8 q0.Kind.toNat, .int .u8 q0.Op.toNat, .int .i64 q0.R, .int .i64 q0.S, .int .i64 q0.T, .int .i64 q0.N, .int .i64 q0.M], 54, 7, true⟩)] (fun v τ' vs' => v = .int .u8 rr.1 ∧ vs' = [some (bm0, ⟨[.int .u8 rr.2.Kind.toNat, .int .u8 rr.2.Op.toNat, .int .i64 rr.2.R, .int .i64 rr.2.S, .int .i64 rr.2.T, .int .i64 rr.2.N, .int .i64 rr.2.M], 54, 7, true⟩)]) := by
 refine zw (args := [.pointer (some ⟨bm0, 0, none⟩)]) hm Tryz.func102 zp8 rfl fun w0 σ hO Q hQ => ?_
 unfold zg9 at hF
 have hL := Hp.le.refl τ
 show wpn _ _ ziy.body _ _ _
 unfold ziy
 dsimp only
 refine za hO [] [(0, zqD bm0)] zqm fun j => ?_
 refine za hO [0] [(0, zqD bm0), (2, .int .u8 (IntKind.u8.wrap q0.T))] (And.intro (And.intro rfl rfl) zqn) fun j => ?_
 refine zp ?_
 injection hF with hF
 subst hF
 exact hQ _ _ _ _ _ rfl hO hL ⟨rfl, rfl⟩
theorem znQ {τ : Hp} {q0 : zc} {bm0 : Nat} {p1 : Int}  {rr : zc} (hF : zfU q0 p1 = some rr) :
  Ctr Tryz.prog 103 #[.pointer (some ⟨bm0, 0, none⟩), .int .u8 p1] τ [some (bm0, ⟨[.int .u8 q0.Kind.toNat, .int .u8 q0.Op.toNat, .int .i64 q0.R, .int .i64 q0.S, .int .i64 q0.T, .int .i64 q0.N, .int .i64 q0.M], 54, 7, true⟩)] (fun v τ' vs' => v = .tuple #[] ∧ vs' = [some (bm0, ⟨[.int .u8 rr.Kind.toNat, .int .u8 rr.Op.toNat, .int .i64 rr.R, .int .i64 rr.S, .int .i64 rr.T, .int .i64 rr.N, .int .i64 rr.M], 54, 7, true⟩)]) := by
 refine zfn (args := [.pointer (some ⟨bm0, 0, none⟩), .int .u8 p1]) hm Tryz.func103 zmP rfl fun w0 σ hO Q hQ => ?_
 unfold zfU at hF
 have hL := Hp.le.refl τ
 show wpn _ _ zg4.body _ _ _
 unfold zg4
 dsimp only
 refine zU (zb hO 5 [] [(0, zqD bm0), (6, zqC (IntKind.i64.wrap p1)), (8, .pointer (some ⟨bm0, 4, none⟩))] zqo fun j => ?_)
 refine zH hO (i := 0) rfl (off := 4) rfl rfl rfl rfl (Nat.le_of_ble_eq_true rfl) rfl fun σ hO => ?_
 have hO : Obs _ _ [_] := hO
 refine zh (zg ?_)
 injection hF with hF
 subst hF
 exact (hQ _ _ _ _ _ rfl hO hL ⟨rfl, rfl⟩).2
theorem zmF {τ : Hp}   {rr : zx} (hF : zi8  = some rr) :
  Ctr Tryz.prog 84 #[.func (.func 101) #[] #[], .func (.func 102) #[] #[], .func (.func 103) #[] #[]] τ [] (fun v τ' vs' => ∃ (f0_0 : Fn) (a0_0 c0_0 : Array Value) (f0_1 : Fn) (a0_1 c0_1 : Array Value) (f0_2 : Fn) (a0_2 c0_2 : Array Value), v = .agg #[.func f0_0 a0_0 c0_0, .func f0_1 a0_1 c0_1, .func f0_2 a0_2 c0_2] ∧ vs' = [] ∧ zbw τ' rr (.func f0_0 a0_0 c0_0) (.func f0_1 a0_1 c0_1) (.func f0_2 a0_2 c0_2)) := by
 refine zw (args := [.func (.func 101) #[] #[], .func (.func 102) #[] #[], .func (.func 103) #[] #[]]) hm Tryz.func84 s84 rfl fun w0 σ hO Q hQ => ?_
 unfold zi8 at hF
 have hL := Hp.le.refl τ
 show wpn _ _ a84.body _ _ _
 unfold a84
 dsimp only
 refine zba (n := 1) hO rfl rfl fun b4 σ hO => ?_
 have hO : Obs _ _ [_] := hO
 refine zba (n := 1) hO rfl rfl fun b5 σ hO => ?_
 have hO : Obs _ _ [_, _] := hO
 refine zbk hO fun b6 σ hO => ?_
 have hO : Obs _ _ [_, _, _] := hO
 refine zh (zb hO 4 [] [(6, zqD b6), (10, .agg #[(.func (.func 101) #[] #[]), (.func (.func 117) #[] #[(.pointer (some ⟨b4, 0, none⟩))]), (.func (.func 118) #[] #[(.pointer (some ⟨b5, 0, none⟩))])])] zqn fun j => ?_)
 refine zH hO (i := 2) rfl (off := 0) rfl rfl rfl rfl (Nat.le_of_ble_eq_true rfl) rfl fun σ hO => ?_
 have hO : Obs _ _ [_, _, _] := hO
 refine zh (zp ?_)
 obtain ⟨_, h8, m7, hO⟩ := hO.shareV (i := 0) rfl
 have hL := hL.trans h8
 have hO : Obs _ _ [_, _, _] := hO
 obtain ⟨_, h10, m9, hO⟩ := hO.shareV (i := 1) rfl
 have hL := hL.trans h10
 have m7 := m7.le h10
 have hO : Obs _ _ [_, _, _] := hO
 injection hF with hF
 subst hF
 have hV0 := hO.val (i := 2) rfl (off := 0) (agg := true) (n := 3) rfl
 have hO := hO.sel [] (by decide)
 exact hQ _ _ _ _ _ (zbn rfl (hV0) rfl) hO hL ⟨_, _, _, _, _, _, _, _, _, rfl, rfl, ⟨(⟨b4, 0, none⟩ : Addr), (⟨b5, 0, none⟩ : Addr), rfl, rfl, rfl, m7, m9⟩⟩
theorem zkd {τ : Hp}   {rr : zx} (hF : zgU  = some rr) :
  Ctr Tryz.prog 78 #[] τ [] (fun v τ' vs' => ∃ (f0_0 : Fn) (a0_0 c0_0 : Array Value) (f0_1 : Fn) (a0_1 c0_1 : Array Value) (f0_2 : Fn) (a0_2 c0_2 : Array Value), v = .agg #[.func f0_0 a0_0 c0_0, .func f0_1 a0_1 c0_1, .func f0_2 a0_2 c0_2] ∧ vs' = [] ∧ zbw τ' rr (.func f0_0 a0_0 c0_0) (.func f0_1 a0_1 c0_1) (.func f0_2 a0_2 c0_2)) := by
 refine zw (args := []) hm Tryz.func78 s78 rfl fun w0 σ hO Q hQ => ?_
 unfold zgU at hF
 have hL := Hp.le.refl τ
 show wpn _ _ a78.body _ _ _
 unfold a78
 dsimp only
 refine zbk hO fun b1 σ hO => ?_
 have hO : Obs _ _ [_] := hO
 refine zh ?_
 obtain ⟨c2, h3, hF⟩ := bind_some hF
 refine zr hO (zmF h3) rfl fun _ σ _ _ hO h4 h5 => ?_
 have hL := hL.trans h4
 obtain ⟨f7, a8, c9, f10, a11, c12, f13, a14, c15, rfl, rfl, r6⟩ := h5
 have hO : Obs _ _ [_] := hO
 refine zH hO (i := 0) rfl (off := 0) rfl rfl rfl rfl (Nat.le_of_ble_eq_true rfl) rfl fun σ hO => ?_
 have hO : Obs _ _ [_] := hO
 refine zh (zp ?_)
 injection hF with hF
 subst hF
 have hV0 := hO.val (i := 0) rfl (off := 0) (agg := true) (n := 3) rfl
 have hO := hO.sel [] (by decide)
 exact hQ _ _ _ _ _ (zbn rfl (hV0) rfl) hO hL ⟨_, _, _, _, _, _, _, _, _, rfl, rfl, r6⟩
theorem zmw {τ : Hp} {q0 : zc} {bm0 : Nat}  {rr : Bool × zc} (hF : zgZ q0 = some rr) :
  Ctr Tryz.prog 79 #[.pointer (some ⟨bm0, 0, none⟩)] τ [some (bm0, ⟨[.int .u8 q0.Kind.toNat, .int .u8 q0.Op.toNat, .int .i64 q0.R, .int .i64 q0.S, .int .i64 q0.T, .int .i64 q0.N, .int .i64 q0.M], 54, 7, true⟩)] (fun v τ' vs' => v = .bool rr.1 ∧ vs' = [some (bm0, ⟨[.int .u8 rr.2.Kind.toNat, .int .u8 rr.2.Op.toNat, .int .i64 rr.2.R, .int .i64 rr.2.S, .int .i64 rr.2.T, .int .i64 rr.2.N, .int .i64 rr.2.M], 54, 7, true⟩)]) := by
 refine zw (args := [.pointer (some ⟨bm0, 0, none⟩)]) hm Tryz.func79 s79 rfl fun w0 σ hO Q hQ => ?_
 unfold zgZ at hF
 have hL := Hp.le.refl τ
 show wpn _ _ a79.body _ _ _
 unfold a79
 dsimp only
 refine za hO [] [(0, zqD bm0)] zqm fun j => ?_
 refine za hO [0, 0] [(0, zqD bm0), (2, .bool ((decide (q0.N ≥ (-65536))) && (decide (q0.N ≤ 65536))))] (And.intro (And.intro rfl rfl) (And.intro (And.intro rfl rfl) (And.intro (And.intro rfl rfl) (fun _ => zqB zqm)))) fun j => ?_
 refine zp ?_
 injection hF with hF
 subst hF
 exact hQ _ _ _ _ _ rfl hO hL ⟨rfl, rfl⟩
theorem zmT {τ : Hp} {q0 : zc} {bm0 : Nat}  {rr : Bool × zc} (hF : zgH q0 = some rr) :
  Ctr Tryz.prog 104 #[.pointer (some ⟨bm0, 0, none⟩)] τ [some (bm0, ⟨[.int .u8 q0.Kind.toNat, .int .u8 q0.Op.toNat, .int .i64 q0.R, .int .i64 q0.S, .int .i64 q0.T, .int .i64 q0.N, .int .i64 q0.M], 54, 7, true⟩)] (fun v τ' vs' => v = .bool rr.1 ∧ vs' = [some (bm0, ⟨[.int .u8 rr.2.Kind.toNat, .int .u8 rr.2.Op.toNat, .int .i64 rr.2.R, .int .i64 rr.2.S, .int .i64 rr.2.T, .int .i64 rr.2.N, .int .i64 rr.2.M], 54, 7, true⟩)]) := by
 refine zw (args := [.pointer (some ⟨bm0, 0, none⟩)]) hm Tryz.func104 zpg rfl fun w0 σ hO Q hQ => ?_
 unfold zgH at hF
 have hL := Hp.le.refl τ
 show wpn _ _ zi3.body _ _ _
 unfold zi3
 dsimp only
 refine za hO [] [(0, zqD bm0)] zqm fun j => ?_
 refine za hO [0, 0] [(0, zqD bm0), (2, .bool ((decide (q0.M ≥ 1)) && (decide (q0.M ≤ 65536))))] (And.intro (And.intro rfl rfl) (And.intro (And.intro rfl rfl) (And.intro (And.intro rfl rfl) (fun _ => zqB zqm)))) fun j => ?_
 refine zp ?_
 injection hF with hF
 subst hF
 exact hQ _ _ _ _ _ rfl hO hL ⟨rfl, rfl⟩
theorem zjW {τ : Hp} {v0 : Value} {p0 : (List UInt8)} {p1 : Int} (r0 : RdT Ty.u8 τ v0 p0) {rr : (List UInt8)} (hF : zeK p0 p1 = some rr) :
  Ctr Tryz.prog 106 #[v0, .int .u64 p1] τ [] (fun v τ' vs' => ∃ (v0 : Value) (o0 : Ob), v = v0 ∧ vs' = [o0] ∧ zd Ty.u8 5 τ' v0 rr o0) := by
 obtain ⟨A0, c0, rfl, -⟩ := r0.form
 refine zw (args := [.slice A0 p0.length c0, .int .u64 p1]) hm Tryz.func106 zl9 rfl fun w0 σ hO Q hQ => ?_
 unfold zeK at hF
 have hL := Hp.le.refl τ
 show wpn _ _ zfY.body _ _ _
 unfold zfY
 dsimp only
 refine za hO [] [(0, .slice A0 p0.length c0), (1, .int .u64 p1)] zqn fun j => ?_
 refine zb hO 1 [] [(1, .int .u64 p1), (6, .slice A0 p0.length c0)] zqn fun j => ?_
 obtain ⟨c3, h4, hF⟩ := bind_some hF
 refine zr hO (ze6 r0 h4) rfl fun _ σ _ _ hO h5 h6 => ?_
 have hL := hL.trans h5
 have r0 := r0.le h5
 obtain ⟨v7, o10, rfl, rfl, w11⟩ := h6
 obtain ⟨A8, c9, rfl, -⟩ := w11.form
 have hO : Obs _ _ [_] := hO
 refine za hO [] [(1, .int .u64 p1), (5, .slice A8 c3.length c9)] zqn fun j => ?_
 refine zO (zbr (fun (n : Nat) e' σ' => ∃ (x30 : Int) (A31 : Option Addr) (c32 : Nat) (o33 : Ob) (x34 : List UInt8) (τ' : Hp), agr [(1, .int .u64 x30), (5, .slice A31 x34.length c32)] e' ∧ Obs τ' σ' [o33] ∧ Hp.le τ τ' ∧ zd Ty.u8 5 τ' (.slice A31 x34.length c32) x34 o33 ∧ zgs  n x30 x34 = some rr) big ⟨p1, A8, c9, o10, c3, _, zqB zqm, hO, hL, w11, hF⟩ ?_)
 clear hF hO hL
 rintro n49 e σ ⟨x30, A31, c32, o33, x34, _, hA, hO, hL, w35, hF⟩
 rw [← zC _ _ hA]
 cases n49 with
 | zero => exact nomatch (show none = some rr from hF)
 | succ n49 =>
  replace hF : zfs (zgs  n49) x30 x34 = some rr := hF
  unfold zfs at hF
  refine ze (za hO [] [(1, .int .u64 x30), (5, .slice A31 x34.length c32), (9, .bool (decide (x30 > 127)))] zqo fun j => ?_)
  rcases zi hF with ⟨hb50, hF⟩ | ⟨hb50, hF⟩
  ·refine zl (congrArg Value.bool hb50) ?_
   refine zv (zeg (zO (zb hO 4 [] [(1, .int .u64 x30), (10, .slice A31 x34.length c32), (13, .int .u8 (orI .u8 (IntKind.u8.wrap x30) 128))] zqo fun j => ?_)))
   obtain ⟨z51, hz51, hF⟩ := bind_some hF
   obtain ⟨_, hr56, hF⟩ := bind_some hF
   refine zbI (T := Ty.u8) (y := z51) hO w35 (i := 0) rfl rfl (fun _ => rfl) rfl (u8R hz51) rfl hr56 (by decide) fun u _ σ o54 w55 hO => ?_
   obtain ⟨A52, c53, rfl, -⟩ := w55.form
   have hO : Obs _ _ [_] := hO
   refine za hO [] [(1, .int .u64 x30), (5, .slice A52 (x34 ++ [z51]).length c53)] zqn fun j => ?_
   refine zU (za hO [] [(1, .int .u64 (zbL .u64 x30 7)), (5, .slice A52 (x34 ++ [z51]).length c53)] zqn fun j => ?_)
   refine zg (zK (zn (zg (zn ?_))))
   exact ⟨n49, Nat.lt_succ_self _, (zbL .u64 x30 7), A52, c53, o54, (x34 ++ [z51]), _, zqB zqm, hO, hL, w55, hF⟩
  ·refine zk (congrArg Value.bool hb50) ?_
   refine zbq (zbm (zbp (zn (zb hO 3 [] [(18, .slice A31 x34.length c32), (20, .int .u8 (IntKind.u8.wrap x30))] zqn fun j => ?_))))
   obtain ⟨z57, hz57, hF⟩ := bind_some hF
   obtain ⟨_, hr62, hF⟩ := bind_some hF
   refine zbI (T := Ty.u8) (y := z57) hO w35 (i := 0) rfl rfl (fun _ => rfl) rfl (u8R hz57) rfl hr62 (by decide) fun u _ σ o60 w61 hO => ?_
   obtain ⟨A58, c59, rfl, -⟩ := w61.form
   have hO : Obs _ _ [_] := hO
   refine za hO [] [(4, .slice A58 (x34 ++ [z57]).length c59)] zqm fun j => ?_
   refine zp ?_
   injection hF with hF
   subst hF
   exact hQ _ _ _ _ _ rfl hO hL ⟨_, _, rfl, rfl, w61⟩
theorem zoM {τ : Hp} {p0 : Int} {p1 : Int}  {rr : Int} (hF : zhu p0 p1 = some rr) :
  Ctr Tryz.prog 123 #[.int .u64 p0, .int .i64 p1] τ [] (fun v τ' vs' => v = .int .u64 rr ∧ vs' = []) := by
 refine zw (args := [.int .u64 p0, .int .i64 p1]) hm Tryz.func123 zqb rfl fun w0 σ hO Q hQ => ?_
 unfold zhu at hF
 have hL := Hp.le.refl τ
 show wpn _ _ ziT.body _ _ _
 unfold ziT
 dsimp only
 refine za hO [] [(0, .int .u64 p0)] zqm fun j => ?_
 refine za hO [] [(4, .int .u64 p0)] zqm fun j => ?_
 refine zp ?_
 injection hF with hF
 subst hF
 exact hQ _ _ _ _ _ rfl hO hL ⟨rfl, rfl⟩
theorem zn9 {τ : Hp} {v0 : Value} {p0 : (List UInt8)} {p1 : Int} (r0 : RdT Ty.u8 τ v0 p0) {rr : Int × Int × Int} (hF : zhL p0 p1 = some rr) :
  Ctr Tryz.prog 122 #[v0, .int .i64 p1, .func (.func 123) #[] #[], .func (.func 106) #[] #[]] τ [] (fun v τ' vs' => v = .tuple #[.int .u64 rr.1, .int .i64 rr.2.1, .int .i64 rr.2.2] ∧ vs' = []) := by
 obtain ⟨A0, c0, rfl, -⟩ := r0.form
 refine zw (args := [.slice A0 p0.length c0, .int .i64 p1, .func (.func 123) #[] #[], .func (.func 106) #[] #[]]) hm Tryz.func122 zou rfl fun w0 σ hO Q hQ => ?_
 unfold zhL at hF
 have hL := Hp.le.refl τ
 show wpn _ _ zfP.body _ _ _
 unfold zfP
 dsimp only
 refine za hO [] [(0, .slice A0 p0.length c0), (1, zqC p1), (2, .func (.func 123) #[] #[]), (3, .func (.func 106) #[] #[])] zqp fun j => ?_
 refine ze (za hO [] [(0, .slice A0 p0.length c0), (1, zqC p1), (2, .func (.func 123) #[] #[]), (3, .func (.func 106) #[] #[]), (21, .bool ((decide (p1 < 0)) || (decide (p1 > (p0.length : Int)))))] (And.intro (And.intro rfl rfl) (fun _ => zqB zqp)) fun j => ?_)
 rcases zi hF with ⟨hb5, hF⟩ | ⟨hb5, hF⟩
 ·refine zl (congrArg Value.bool hb5) ?_
  refine ze (za hO [] [(8, .int .u64 0), (9, zqC 0), (10, zqC 1)] zqo fun j => ?_)
  refine zz ?_
  injection hF with hF
  subst hF
  exact hQ _ _ _ _ _ rfl hO hL ⟨rfl, rfl⟩
 ·refine zk (congrArg Value.bool hb5) ?_
  refine zv (zb hO 2 [] [(0, .slice A0 p0.length c0), (1, zqC p1), (2, .func (.func 123) #[] #[]), (3, .func (.func 106) #[] #[]), (23, .slice A0 p0.length c0), (24, zqC p1)] zqr fun j => ?_)
  obtain ⟨y6, g7, hF⟩ := bind_some hF
  refine zc9 (T := Ty.u8) r0 rfl rfl rfl g7 fun _ r8 => ?_
  obtain ⟨A9, c10, rfl, -⟩ := r8.form
  obtain ⟨c11, h12, hF⟩ := bind_some hF
  refine zr hO (zk3 r8 h12) rfl fun _ σ _ _ hO h13 h14 => ?_
  have hL := hL.trans h13
  have r0 := r0.le h13
  have r8 := r8.le h13
  obtain ⟨rfl, rfl⟩ := h14
  have hO : Obs _ _ [] := hO
  refine za hO [] [(0, .slice A0 p0.length c0), (1, zqC p1), (2, .func (.func 123) #[] #[]), (3, .func (.func 106) #[] #[]), (11, .int .u64 c11.1), (12, zqC c11.2)] zqr fun j => ?_
  refine zb hO 3 [] [(0, .slice A0 p0.length c0), (1, zqC p1), (3, .func (.func 106) #[] #[]), (12, zqC c11.2), (29, .func (.func 123) #[] #[]), (30, .int .u64 c11.1), (31, zqC c11.2)] zqs fun j => ?_
  obtain ⟨c15, h16, hF⟩ := bind_some hF
  refine zgY rfl (by kernel_rfl) hO (zoM h16) rfl fun _ σ _ _ hO h17 h18 => ?_
  have hL := hL.trans h17
  have r0 := r0.le h17
  obtain ⟨rfl, rfl⟩ := h18
  have hO : Obs _ _ [] := hO
  refine za hO [] [(0, .slice A0 p0.length c0), (1, zqC p1), (3, .func (.func 106) #[] #[]), (12, zqC c11.2), (13, .int .u64 c15)] zqq fun j => ?_
  refine ze (zbD (zb hO 3 [] [(0, .slice A0 p0.length c0), (1, zqC p1), (3, .func (.func 106) #[] #[]), (12, zqC c11.2), (13, .int .u64 c15), (35, .bool (c11.2 == 0))] zqr fun j => ?_))
  obtain ⟨c19, h20, hF⟩ := bind_some hF
  refine zbC 2 (fun e' σ' => ∃ (τ' : Hp), agr [(47, .bool c19), (1, zqC p1), (12, zqC c11.2), (13, .int .u64 c15)] e' ∧ Obs τ' σ' [] ∧ Hp.le τ τ') ?_ ?_
  ·have hF := h20
   rcases zi hF with ⟨hb21, hF⟩ | ⟨hb21, hF⟩
   ·refine zX (congrArg (fun x => isB (.bool x) false) hb21) ?_
    refine zA (congrArg Value.bool hb21) ?_
    refine zh ?_
    injection hF with hF
    subst hF
    refine zg ?_
    exact ⟨rfl, _, zqB zqo, hO, hL⟩
   ·refine zP (congrArg (fun x => isB (.bool x) false) hb21) ?_
    refine zb hO 7 [] [(1, zqC p1), (12, zqC c11.2), (13, .int .u64 c15), (35, .bool (c11.2 == 0)), (36, .func (.func 106) #[] #[]), (37, .int .u64 c15), (39, .slice A0 p0.length c0), (40, zqC p1), (43, zqC (IntKind.i64.wrap (p1 + c11.2)))] zqu fun j => ?_
    obtain ⟨y22, g23, hF⟩ := bind_some hF
    refine zc9 (T := Ty.u8) r0 rfl rfl rfl g23 fun _ r24 => ?_
    obtain ⟨A25, c26, rfl, -⟩ := r24.form
    obtain ⟨c27, h28, hF⟩ := bind_some hF
    refine zgY rfl (by kernel_rfl) hO (zjW (RdT.nil Ty.u8 _) h28) rfl fun _ σ _ _ hO h29 h30 => ?_
    have hL := hL.trans h29
    have r0 := r0.le h29
    have r24 := r24.le h29
    obtain ⟨v31, o34, rfl, rfl, w35⟩ := h30
    obtain ⟨A32, c33, rfl, -⟩ := w35.form
    have hO : Obs _ _ [_] := hO
    obtain ⟨_, h37, r36, hO⟩ := w35.share hO (i := 0) rfl
    have hL := hL.trans h37
    have r0 := r0.le h37
    have r24 := r24.le h37
    have hO : Obs _ _ [_] := hO
    obtain ⟨c38, h39, hF⟩ := bind_some hF
    refine zr hO (zjR r36 r24 h39) rfl fun _ σ _ _ hO h40 h41 => ?_
    have hL := hL.trans h40
    have r36 := r36.le h40
    have r0 := r0.le h40
    have r24 := r24.le h40
    obtain ⟨rfl, rfl⟩ := h41
    have hO : Obs _ _ [_] := hO
    refine zb hO 1 [] [(1, zqC p1), (12, zqC c11.2), (13, .int .u64 c15), (35, .bool (c11.2 == 0)), (46, .bool (!c38))] zqq fun j => ?_
    refine zA (congrArg Value.bool hb21) ?_
    refine zh ?_
    injection hF with hF
    subst hF
    refine zg ?_
    have hO := hO.sel [] (by decide)
    exact ⟨rfl, _, zqB zqo, hO, hL⟩
  ·rintro e σ ⟨_, hA, hO, hL⟩
   rw [← zC _ _ hA]
   refine zh ?_
   rcases zi hF with ⟨hb42, hF⟩ | ⟨hb42, hF⟩
   ·refine zl (congrArg Value.bool hb42) ?_
    refine ze (za hO [] [(8, .int .u64 0), (9, zqC 0), (10, zqC 5)] zqo fun j => ?_)
    refine zz ?_
    injection hF with hF
    subst hF
    exact hQ _ _ _ _ _ rfl hO hL ⟨rfl, rfl⟩
   ·refine zk (congrArg Value.bool hb42) ?_
    refine zv (za hO [] [(8, .int .u64 c15), (9, zqC (IntKind.i64.wrap (p1 + c11.2))), (10, zqC 0)] zqo fun j => ?_)
    refine zp ?_
    injection hF with hF
    subst hF
    exact hQ _ _ _ _ _ rfl hO hL ⟨rfl, rfl⟩
theorem znX {τ : Hp} {v0 : Value} {p0 : (List UInt8)} {p1 : Int} (r0 : RdT Ty.u8 τ v0 p0) {rr : Int × Int × Int} (hF : zgy p0 p1 = some rr) :
  Ctr Tryz.prog 108 #[v0, .int .i64 p1] τ [] (fun v τ' vs' => v = .tuple #[.int .u64 rr.1, .int .i64 rr.2.1, .int .i64 rr.2.2] ∧ vs' = []) := by
 obtain ⟨A0, c0, rfl, -⟩ := r0.form
 refine zw (args := [.slice A0 p0.length c0, .int .i64 p1]) hm Tryz.func108 zmS rfl fun w0 σ hO Q hQ => ?_
 unfold zgy at hF
 have hL := Hp.le.refl τ
 show wpn _ _ zjb.body _ _ _
 unfold zjb
 dsimp only
 refine za hO [] [(0, .slice A0 p0.length c0), (1, zqC p1)] zqn fun j => ?_
 refine zb hO 2 [] [(7, .slice A0 p0.length c0), (8, zqC p1)] zqn fun j => ?_
 obtain ⟨c3, h4, hF⟩ := bind_some hF
 refine zr hO (zn9 r0 h4) rfl fun _ σ _ _ hO h5 h6 => ?_
 have hL := hL.trans h5
 have r0 := r0.le h5
 obtain ⟨rfl, rfl⟩ := h6
 have hO : Obs _ _ [] := hO
 refine za hO [] [(4, .int .u64 c3.1), (5, zqC c3.2.1), (6, zqC c3.2.2)] zqo fun j => ?_
 refine zp ?_
 injection hF with hF
 subst hF
 exact hQ _ _ _ _ _ rfl hO hL ⟨rfl, rfl⟩
theorem zmA {τ : Hp} {v0 : Value} {p0 : (List UInt8)} {p1 : Int} {q2 : zc} {bm2 : Nat} (r0 : RdT Ty.u8 τ v0 p0) {rr : Int × Bool × zc} (hF : zeZ p0 p1 q2 = some rr) :
  Ctr Tryz.prog 107 #[v0, .int .i64 p1, .pointer (some ⟨bm2, 0, none⟩)] τ [some (bm2, ⟨[.int .u8 q2.Kind.toNat, .int .u8 q2.Op.toNat, .int .i64 q2.R, .int .i64 q2.S, .int .i64 q2.T, .int .i64 q2.N, .int .i64 q2.M], 54, 7, true⟩)] (fun v τ' vs' => v = .tuple #[.int .i64 rr.1, .bool rr.2.1] ∧ vs' = [some (bm2, ⟨[.int .u8 rr.2.2.Kind.toNat, .int .u8 rr.2.2.Op.toNat, .int .i64 rr.2.2.R, .int .i64 rr.2.2.S, .int .i64 rr.2.2.T, .int .i64 rr.2.2.N, .int .i64 rr.2.2.M], 54, 7, true⟩)]) := by
 obtain ⟨A0, c0, rfl, -⟩ := r0.form
 refine zw (args := [.slice A0 p0.length c0, .int .i64 p1, .pointer (some ⟨bm2, 0, none⟩)]) hm Tryz.func107 zmi rfl fun w0 σ hO Q hQ => ?_
 unfold zeZ at hF
 have hL := Hp.le.refl τ
 show wpn _ _ zim.body _ _ _
 unfold zim
 dsimp only
 refine za hO [] [(0, .slice A0 p0.length c0), (1, zqC p1), (2, zqD bm2)] zqo fun j => ?_
 refine zb hO 2 [] [(2, zqD bm2), (12, .slice A0 p0.length c0), (13, zqC p1)] zqo fun j => ?_
 obtain ⟨c4, h5, hF⟩ := bind_some hF
 refine zr hO (znX r0 h5) rfl fun _ σ _ _ hO h6 h7 => ?_
 have hL := hL.trans h6
 have r0 := r0.le h6
 obtain ⟨rfl, rfl⟩ := h7
 have hO : Obs _ _ [_] := hO
 refine za hO [] [(2, zqD bm2), (8, .int .u64 c4.1), (9, zqC c4.2.1), (10, zqC c4.2.2)] zqp fun j => ?_
 refine zb hO 6 [] [(2, zqD bm2), (9, zqC c4.2.1), (10, zqC c4.2.2), (21, zqC (IntKind.i64.wrap (zbF c4.1 16777216))), (23, .pointer (some ⟨bm2, 6, none⟩))] zqq fun j => ?_
 refine zH hO (i := 0) rfl (off := 6) rfl rfl rfl rfl (Nat.le_of_ble_eq_true rfl) rfl fun σ hO => ?_
 have hO : Obs _ _ [_] := hO
 refine zh (za hO [] [(2, zqD bm2), (6, zqC c4.2.1), (7, .bool (c4.2.2 == 0))] zqo fun j => ?_)
 refine zp ?_
 injection hF with hF
 subst hF
 exact hQ _ _ _ _ _ rfl hO hL ⟨rfl, rfl⟩
theorem znv {τ : Hp}   {rr : zx} (hF : ziK  = some rr) :
  Ctr Tryz.prog 80 #[] τ [] (fun v τ' vs' => ∃ (f0_0 : Fn) (a0_0 c0_0 : Array Value) (f0_1 : Fn) (a0_1 c0_1 : Array Value) (f0_2 : Fn) (a0_2 c0_2 : Array Value), v = .agg #[.func f0_0 a0_0 c0_0, .func f0_1 a0_1 c0_1, .func f0_2 a0_2 c0_2] ∧ vs' = [] ∧ zbw τ' rr (.func f0_0 a0_0 c0_0) (.func f0_1 a0_1 c0_1) (.func f0_2 a0_2 c0_2)) := by
 refine zw (args := []) hm Tryz.func80 s80 rfl fun w0 σ hO Q hQ => ?_
 unfold ziK at hF
 have hL := Hp.le.refl τ
 show wpn _ _ a80.body _ _ _
 unfold a80
 dsimp only
 refine zbk hO fun b1 σ hO => ?_
 have hO : Obs _ _ [_] := hO
 refine zh (zb hO 1 [] [(0, zqD b1), (1, .agg #[(.func (.func 104) #[] #[]), (.func (.func 105) #[] #[]), (.func (.func 107) #[] #[])])] zqn fun j => ?_)
 refine zH hO (i := 0) rfl (off := 0) rfl rfl rfl rfl (Nat.le_of_ble_eq_true rfl) rfl fun σ hO => ?_
 have hO : Obs _ _ [_] := hO
 refine zh (zp ?_)
 injection hF with hF
 subst hF
 have hV0 := hO.val (i := 0) rfl (off := 0) (agg := true) (n := 3) rfl
 have hO := hO.sel [] (by decide)
 exact hQ _ _ _ _ _ (zbn rfl (hV0) rfl) hO hL ⟨_, _, _, _, _, _, _, _, _, rfl, rfl, ⟨rfl, rfl, rfl⟩⟩
theorem zoW {τ : Hp} {q0 : zc} {bm0 : Nat}  {rr : Bool × zc} (hF : zhJ q0 = some rr) :
  Ctr Tryz.prog 109 #[.pointer (some ⟨bm0, 0, none⟩)] τ [some (bm0, ⟨[.int .u8 q0.Kind.toNat, .int .u8 q0.Op.toNat, .int .i64 q0.R, .int .i64 q0.S, .int .i64 q0.T, .int .i64 q0.N, .int .i64 q0.M], 54, 7, true⟩)] (fun v τ' vs' => v = .bool rr.1 ∧ vs' = [some (bm0, ⟨[.int .u8 rr.2.Kind.toNat, .int .u8 rr.2.Op.toNat, .int .i64 rr.2.R, .int .i64 rr.2.S, .int .i64 rr.2.T, .int .i64 rr.2.N, .int .i64 rr.2.M], 54, 7, true⟩)]) := by
 refine zw (args := [.pointer (some ⟨bm0, 0, none⟩)]) hm Tryz.func109 zn3 rfl fun w0 σ hO Q hQ => ?_
 unfold zhJ at hF
 have hL := Hp.le.refl τ
 show wpn _ _ zjz.body _ _ _
 unfold zjz
 dsimp only
 refine za hO [] [(0, zqD bm0)] zqm fun j => ?_
 refine za hO [0, 0] [(0, zqD bm0), (2, .bool ((decide (q0.N ≥ 0)) && (decide (q0.N < 16777216))))] (And.intro (And.intro rfl rfl) (And.intro (And.intro rfl rfl) (And.intro (And.intro rfl rfl) (fun _ => zqB zqm)))) fun j => ?_
 refine zp ?_
 injection hF with hF
 subst hF
 exact hQ _ _ _ _ _ rfl hO hL ⟨rfl, rfl⟩
theorem znC {τ : Hp} {p1 : Int} (r0 : RdT Ty.u8 τ (.slice none 0 0) []) {rr : (List UInt8)} (hF : zgc [] p1 = some rr) :
  Ctr Tryz.prog 128 #[.slice none 0 0, .int .i64 p1] τ [] (fun v τ' vs' => ∃ (v0 : Value) (o0 : Ob), v = v0 ∧ vs' = [o0] ∧ zd Ty.u8 5 τ' v0 rr o0) := by
 refine zw (args := [.slice none 0 0, .int .i64 p1]) hm Tryz.func128 znm rfl fun w0 σ hO Q hQ => ?_
 unfold zgc at hF
 have hL := Hp.le.refl τ
 show wpn _ _ zdM.body _ _ _
 unfold zdM
 dsimp only
 refine za hO [] [(0, .slice none 0 0), (1, zqC p1)] zqn fun j => ?_
 refine ze (za hO [] [(0, .slice none 0 0), (1, zqC p1), (6, .bool (decide (p1 < 0)))] zqo fun j => ?_)
 refine zbK (fun e' σ' => ∃ (τ' : Hp), agr [(0, .slice none 0 0), (1, zqC p1)] e' ∧ Obs τ' σ' [] ∧ Hp.le τ τ' ∧ zhb p1 = some rr) ?_ ?_
 ·refine z2 ?_
  rcases zi hF with ⟨hb15, hF⟩ | ⟨hb15, hF⟩
  ·refine zl (congrArg Value.bool hb15) ?_
   refine zb hO 1 [] [(0, .slice none 0 0), (1, zqC p1), (7, .iface 9 (.string (⟨#[99, 97, 110, 110, 111, 116, 32, 98, 101, 32, 110, 101, 103, 97, 116, 105, 118, 101]⟩ : ByteArray)))] zqo fun j => ?_
   exact nomatch (show none = some _ from hF)
  ·refine zk (congrArg Value.bool hb15) ?_
   refine zv (zg (zn ?_))
   exact ⟨_, zqB zqm, hO, hL, hF⟩
 ·rintro e σ ⟨_, hA, hO, hL, hF⟩
  rw [← zC _ _ hA]
  unfold zhb at hF
  refine ze (za hO [] [(0, .slice none 0 0), (1, zqC (IntKind.i64.wrap (p1 - (IntKind.i64.wrap (0 - 0)))))] zqn fun j => ?_)
  refine ze (za hO [] [(0, .slice none 0 0), (1, zqC (IntKind.i64.wrap (p1 - (IntKind.i64.wrap (0 - 0))))), (16, .bool (decide ((IntKind.i64.wrap (p1 - (IntKind.i64.wrap (0 - 0)))) > 0)))] zqo fun j => ?_)
  rcases zi hF with ⟨hb4, hF⟩ | ⟨hb4, hF⟩
  ·refine zl (congrArg Value.bool hb4) ?_
   refine zb hO 3 [] [(0, .slice none 0 0), (1, zqC (IntKind.i64.wrap (p1 - (IntKind.i64.wrap (0 - 0))))), (17, .slice none 0 0), (19, zqC 0)] zqp fun j => ?_
   refine zoy rfl rfl rfl ?_
   refine zb hO 1 [] [(0, .slice none 0 0), (20, .slice none 0 0), (21, zqC (IntKind.i64.wrap (p1 - (IntKind.i64.wrap (0 - 0)))))] zqo fun j => ?_
   have hO := hO.no
   have hO : Obs _ _ [_] := hO
   have w5 := zd.nil0 (T := Ty.u8) (ty := 5) hO
   obtain ⟨_, g10, hF⟩ := bind_some hF
   obtain ⟨_, hr11, hF⟩ := bind_some hF
   refine zna (T := Ty.u8) (z := (0 : UInt8)) hO w5 (i := 0) rfl rfl rfl (zoq g10) (show _ = _ from rfl) hr11 (by decide) fun _ σ o8 w9 hO => ?_
   obtain ⟨A6, c7, rfl, -⟩ := w9.form
   have hO : Obs _ _ [_] := hO
   refine zb hO 2 [] [(22, .slice A6 (([] : List UInt8) ++ List.replicate (Int.toNat (IntKind.i64.wrap (p1 - (IntKind.i64.wrap (0 - 0))))) (0 : UInt8)).length c7), (24, zqC 0)] zqn fun j => ?_
   obtain ⟨y12, g13, hF⟩ := bind_some hF
   refine znb (T := Ty.u8) w9 rfl rfl g13 fun w14 => ?_
   refine za hO [] [(0, .slice A6 y12.length c7)] zqm fun j => ?_
   refine za hO [] [(4, .slice A6 y12.length c7)] zqm fun j => ?_
   refine zp ?_
   injection hF with hF
   subst hF
   exact hQ _ _ _ _ _ rfl hO hL ⟨_, _, rfl, rfl, w14⟩
  ·refine zk (congrArg Value.bool hb4) ?_
   refine zv (za hO [] [(4, .slice none 0 0)] zqm fun j => ?_)
   refine zp ?_
   have hO := hO.no
   have hO : Obs _ _ [_] := hO
   injection hF with hF
   subst hF
   exact hQ _ _ _ _ _ rfl hO hL ⟨_, _, rfl, rfl, (zd.nil _ _ _)⟩
theorem zme {τ : Hp} {v0 : Value} {p0 : (List (List UInt8))} (r0 : RdT (Ty.slice Ty.u8) τ v0 p0) {rr : (List UInt8)} (hF : zhh p0 = some rr) :
  Ctr Tryz.prog 124 #[v0] τ [] (fun v τ' vs' => ∃ (v0 : Value) (o0 : Ob), v = v0 ∧ vs' = [o0] ∧ zd Ty.u8 5 τ' v0 rr o0) := by
 obtain ⟨A0, c0, rfl, -⟩ := r0.form
 refine zw (args := [.slice A0 p0.length c0]) hm Tryz.func124 znR rfl fun w0 σ hO Q hQ => ?_
 unfold zhh at hF
 have hL := Hp.le.refl τ
 show wpn _ _ zji.body _ _ _
 unfold zji
 dsimp only
 refine za hO [] [(0, .slice A0 p0.length c0)] zqm fun j => ?_
 refine za hO [] [(0, .slice A0 p0.length c0), (3, zqC 0)] zqn fun j => ?_
 refine ze (za hO [] [(0, .slice A0 p0.length c0), (3, zqC 0), (9, .slice A0 p0.length c0), (10, zqC (p0.length : Int)), (11, zqC 0)] zqq fun j => ?_)
 refine zO (zbr (fun (n : Nat) e' σ' => ∃ (x84 : Int) (x86 : Int) (τ' : Hp), agr [(0, .slice A0 p0.length c0), (3, zqC x84), (9, .slice A0 p0.length c0), (10, zqC (p0.length : Int)), (11, zqC x86)] e' ∧ Obs τ' σ' [] ∧ Hp.le τ τ' ∧ RdT (Ty.slice Ty.u8) τ' (.slice A0 p0.length c0) p0 ∧ RdT (Ty.slice Ty.u8) τ' (.slice A0 p0.length c0) p0 ∧ zgn p0 n x84 x86 = some rr) big ⟨0, 0, _, zqB zqp, hO, hL, r0, r0, hF⟩ ?_)
 clear hF hO hL
 rintro n166 e σ ⟨x84, x86, _, hA, hO, hL, r83, r85, hF⟩
 rw [← zC _ _ hA]
 cases n166 with
 | zero => exact nomatch (show none = some rr from hF)
 | succ n166 =>
  replace hF : zfF (zgn p0 n166) p0 x84 x86 = some rr := hF
  unfold zfF at hF
  refine za hO [] [(0, .slice A0 p0.length c0), (3, zqC x84), (9, .slice A0 p0.length c0), (10, zqC (p0.length : Int)), (11, zqC x86), (12, .bool (decide (x86 < (p0.length : Int))))] zqr fun j => ?_
  rcases zi hF with ⟨hb167, hF⟩ | ⟨hb167, hF⟩
  ·refine zl (congrArg Value.bool hb167) ?_
   refine zv (zO ?_)
   obtain ⟨y168, g169, hF⟩ := bind_some hF
   refine zb6 (T := (Ty.slice Ty.u8)) r85 hO.base rfl rfl g169 (by decide) fun a170 _ k171 m172 => ?_
   obtain ⟨v173, rfl, r174⟩ := k171
   obtain ⟨A175, c176, rfl, -⟩ := r174.form
   refine zZ rfl (m172.le hO.base).fst ?_
   refine za hO [] [(0, .slice A0 p0.length c0), (3, zqC x84), (5, .slice A175 y168.length c176), (9, .slice A0 p0.length c0), (10, zqC (p0.length : Int)), (11, zqC x86)] zqr fun j => ?_
   refine za hO [] [(0, .slice A0 p0.length c0), (3, zqC (IntKind.i64.wrap (x84 + (y168.length : Int)))), (9, .slice A0 p0.length c0), (10, zqC (p0.length : Int)), (11, zqC x86)] zqq fun j => ?_
   refine za hO [] [(0, .slice A0 p0.length c0), (3, zqC (IntKind.i64.wrap (x84 + (y168.length : Int)))), (9, .slice A0 p0.length c0), (10, zqC (p0.length : Int)), (11, zqC x86), (20, .bool (decide ((IntKind.i64.wrap (x84 + (y168.length : Int))) < 0)))] zqr fun j => ?_
   refine z2 ?_
   rcases zi hF with ⟨hb177, hF⟩ | ⟨hb177, hF⟩
   ·refine zl (congrArg Value.bool hb177) ?_
    refine zb hO 1 [] [(0, .slice A0 p0.length c0), (3, zqC (IntKind.i64.wrap (x84 + (y168.length : Int)))), (9, .slice A0 p0.length c0), (10, zqC (p0.length : Int)), (11, zqC x86), (21, .iface 9 (.string (⟨#[108, 101, 110, 32, 111, 117, 116, 32, 111, 102, 32, 114, 97, 110, 103, 101]⟩ : ByteArray)))] zqr fun j => ?_
    exact nomatch (show none = some _ from hF)
   ·refine zk (congrArg Value.bool hb177) ?_
    refine zv (zg (zK (zn (zU (za hO [] [(0, .slice A0 p0.length c0), (3, zqC (IntKind.i64.wrap (x84 + (y168.length : Int)))), (9, .slice A0 p0.length c0), (10, zqC (p0.length : Int)), (11, zqC (IntKind.i64.wrap (x86 + 1)))] zqq fun j => ?_)))))
    refine zg (zn ?_)
    exact ⟨n166, Nat.lt_succ_self _, (IntKind.i64.wrap (x84 + (y168.length : Int))), (IntKind.i64.wrap (x86 + 1)), _, zqB zqp, hO, hL, r83, r85, hF⟩
  ·refine zk (congrArg Value.bool hb167) ?_
   refine zbq (zbm (zbp (zn (zb hO 1 [] [(0, .slice A0 p0.length c0), (23, zqC x84)] zqn fun j => ?_))))
   obtain ⟨c178, h179, hF⟩ := bind_some hF
   refine zr hO (znC (RdT.nil Ty.u8 _) h179) rfl fun _ σ _ _ hO h180 h181 => ?_
   have hL := hL.trans h180
   have r83 := r83.le h180
   obtain ⟨v182, o185, rfl, rfl, w186⟩ := h181
   obtain ⟨A183, c184, rfl, -⟩ := w186.form
   have hO : Obs _ _ [_] := hO
   refine za hO [] [(0, .slice A0 p0.length c0), (6, .slice A183 c178.length c184)] zqn fun j => ?_
   refine ze (za hO [] [(6, .slice A183 c178.length c184), (25, .slice A0 p0.length c0), (26, zqC (p0.length : Int)), (27, zqC 0)] zqp fun j => ?_)
   refine zO (zbr (fun (n : Nat) e' σ' => ∃ (A208 : Option Addr) (c209 : Nat) (o210 : Ob) (x211 : List UInt8) (x214 : Int) (τ' : Hp), agr [(6, .slice A208 x211.length c209), (25, .slice A0 p0.length c0), (26, zqC (p0.length : Int)), (27, zqC x214)] e' ∧ Obs τ' σ' [o210] ∧ Hp.le τ τ' ∧ zd Ty.u8 5 τ' (.slice A208 x211.length c209) x211 o210 ∧ RdT (Ty.slice Ty.u8) τ' (.slice A0 p0.length c0) p0 ∧ zeO p0 n x211 x214 = some rr) big ⟨A183, c184, o185, c178, 0, _, zqB zqo, hO, hL, w186, r83, hF⟩ ?_)
   clear hF hO hL
   rintro n230 e σ ⟨A208, c209, o210, x211, x214, _, hA, hO, hL, w212, r213, hF⟩
   rw [← zC _ _ hA]
   cases n230 with
   | zero => exact nomatch (show none = some rr from hF)
   | succ n230 =>
    replace hF : zf6 (zeO p0 n230) p0 x211 x214 = some rr := hF
    unfold zf6 at hF
    refine za hO [] [(6, .slice A208 x211.length c209), (25, .slice A0 p0.length c0), (26, zqC (p0.length : Int)), (27, zqC x214), (28, .bool (decide (x214 < (p0.length : Int))))] zqq fun j => ?_
    rcases zi hF with ⟨hb231, hF⟩ | ⟨hb231, hF⟩
    ·refine zl (congrArg Value.bool hb231) ?_
     refine zv (zO ?_)
     obtain ⟨y232, g233, hF⟩ := bind_some hF
     refine zb6 (T := (Ty.slice Ty.u8)) r213 hO.base rfl rfl g233 (by decide) fun a234 _ k235 m236 => ?_
     obtain ⟨v237, rfl, r238⟩ := k235
     obtain ⟨A239, c240, rfl, -⟩ := r238.form
     refine zZ rfl (m236.le hO.base).fst ?_
     refine za hO [] [(6, .slice A208 x211.length c209), (8, .slice A239 y232.length c240), (25, .slice A0 p0.length c0), (26, zqC (p0.length : Int)), (27, zqC x214)] zqq fun j => ?_
     refine zU (zb hO 2 [] [(25, .slice A0 p0.length c0), (26, zqC (p0.length : Int)), (27, zqC x214), (31, .slice A208 x211.length c209), (32, .slice A239 y232.length c240)] zqq fun j => ?_)
     obtain ⟨_, hr245, hF⟩ := bind_some hF
     refine zeY (T := Ty.u8) hO w212 (i := 0) rfl rfl rfl r238 hr245 (by decide) fun _ σ o243 w244 hO => ?_
     obtain ⟨A241, c242, rfl, -⟩ := w244.form
     have hO : Obs _ _ [_] := hO
     refine za hO [] [(6, .slice A241 (x211 ++ y232).length c242), (25, .slice A0 p0.length c0), (26, zqC (p0.length : Int)), (27, zqC x214)] zqp fun j => ?_
     refine zg (zK (zn (zU (za hO [] [(6, .slice A241 (x211 ++ y232).length c242), (25, .slice A0 p0.length c0), (26, zqC (p0.length : Int)), (27, zqC (IntKind.i64.wrap (x214 + 1)))] zqp fun j => ?_))))
     refine zg (zn ?_)
     exact ⟨n230, Nat.lt_succ_self _, A241, c242, o243, (x211 ++ y232), (IntKind.i64.wrap (x214 + 1)), _, zqB zqo, hO, hL, w244, r213, hF⟩
    ·refine zk (congrArg Value.bool hb231) ?_
     refine zbq (zbm (zbp (zn (za hO [] [(2, .slice A208 x211.length c209)] zqm fun j => ?_))))
     refine zp ?_
     injection hF with hF
     subst hF
     exact hQ _ _ _ _ _ rfl hO hL ⟨_, _, rfl, rfl, w212⟩
theorem znY {τ : Hp} {v0 : Value} {p0 : (List UInt8)} {p1 : Int} (r0 : RdT Ty.u8 τ v0 p0) {rr : (List UInt8) × Int} (hF : zgw p0 p1 = some rr) :
  Ctr Tryz.prog 111 #[v0, .int .i64 p1] τ [] (fun v τ' vs' => ∃ (v0 : Value) (o0 : Ob), v = .tuple #[v0, .int .i64 rr.2] ∧ vs' = [o0] ∧ zd Ty.u8 5 τ' v0 rr.1 o0) := by
 obtain ⟨A0, c0, rfl, -⟩ := r0.form
 refine zw (args := [.slice A0 p0.length c0, .int .i64 p1]) hm Tryz.func111 zmJ rfl fun w0 σ hO Q hQ => ?_
 unfold zgw at hF
 have hL := Hp.le.refl τ
 show wpn _ _ zea.body _ _ _
 unfold zea
 dsimp only
 refine za hO [] [(0, .slice A0 p0.length c0), (1, zqC p1)] zqn fun j => ?_
 refine ze (za hO [] [(0, .slice A0 p0.length c0), (1, zqC p1), (13, .bool ((decide (p1 < 0)) || (decide (p1 ≥ 16777216))))] (And.intro (And.intro rfl rfl) (fun _ => zqB zqn)) fun j => ?_)
 rcases zi hF with ⟨hb3, hF⟩ | ⟨hb3, hF⟩
 ·refine zl (congrArg Value.bool hb3) ?_
  refine ze (za hO [] [(4, .slice none 0 0), (5, zqC 1)] zqn fun j => ?_)
  refine zz ?_
  have hO := hO.no
  have hO : Obs _ _ [_] := hO
  injection hF with hF
  subst hF
  exact hQ _ _ _ _ _ rfl hO hL ⟨_, _, rfl, rfl, (zd.nil _ _ _)⟩
 ·refine zk (congrArg Value.bool hb3) ?_
  refine zv (zmr (T := Ty.u8) (l := ([(0 : UInt8), (0 : UInt8), (0 : UInt8)] : List UInt8)) hO ⟨[.int .u8 0], _, rfl, rfl, ⟨[.int .u8 0], _, rfl, rfl, ⟨[.int .u8 0], _, rfl, rfl, rfl⟩⟩⟩ rfl (by decide) fun b4 σ o5 w6 hO => ?_)
  have hO : Obs _ _ [_] := hO
  refine zh (ze (za hO [] [(0, .slice A0 p0.length c0), (1, zqC p1), (6, zqD b4), (14, zqC 0)] zqp fun j => ?_))
  refine zO (zbr (fun (n : Nat) e' σ' => ∃ (o43 : Ob) (x44 : List UInt8) (x46 : Int) (τ' : Hp), agr [(0, .slice A0 p0.length c0), (1, zqC p1), (6, zqD b4), (14, zqC x46)] e' ∧ Obs τ' σ' [o43] ∧ Hp.le τ τ' ∧ RdT Ty.u8 τ' (.slice A0 p0.length c0) p0 ∧ zd Ty.u8 135 τ' (.slice (some ⟨b4, 0, none⟩) 3 3) x44 o43 ∧ zer p0 p1 n x44 x46 = some rr) big ⟨o5, ([(0 : UInt8), (0 : UInt8), (0 : UInt8)] : List UInt8), 0, _, zqB zqo, hO, hL, r0, w6, hF⟩ ?_)
  clear hF hO hL
  rintro n78 e σ ⟨o43, x44, x46, _, hA, hO, hL, r42, w45, hF⟩
  rw [← zC _ _ hA]
  cases n78 with
  | zero => exact nomatch (show none = some rr from hF)
  | succ n78 =>
   replace hF : zhH (zer p0 p1 n78) p0 p1 x44 x46 = some rr := hF
   unfold zhH at hF
   refine za hO [] [(0, .slice A0 p0.length c0), (1, zqC p1), (6, zqD b4), (14, zqC x46), (15, .bool (decide (x46 < 3)))] zqq fun j => ?_
   rcases zi hF with ⟨hb79, hF⟩ | ⟨hb79, hF⟩
   ·refine zl (congrArg Value.bool hb79) ?_
    refine zv (zO (za hO [] [(0, .slice A0 p0.length c0), (1, zqC p1), (6, zqD b4), (7, zqC x46), (14, zqC x46)] zqq fun j => ?_))
    refine zU (zb hO 5 [] [(0, .slice A0 p0.length c0), (1, zqC p1), (6, zqD b4), (14, zqC x46), (18, zqC (IntKind.i64.wrap (2 - x46))), (19, zqC p1), (21, zqC (IntKind.i64.wrap (8 * x46)))] zqs fun j => ?_)
    obtain ⟨y80, g81, hF⟩ := bind_some hF
    refine zcW (zkP g81) ?_
    refine zb hO 1 [] [(0, .slice A0 p0.length c0), (1, zqC p1), (6, zqD b4), (14, zqC x46), (18, zqC (IntKind.i64.wrap (2 - x46))), (23, .int .u8 (IntKind.u8.wrap y80))] zqr fun j => ?_
    obtain ⟨y82, g83, hF⟩ := bind_some hF
    refine zl8 (T := Ty.u8) hO w45 (i := 0) rfl rfl rfl g83 rfl fun a84 _ k85 m86 i87 => ?_
    have k88 := k85
    obtain rfl : _ = ([.int .u8 y82.toNat] : List Value) := k88
    obtain ⟨z89, hz89, hF⟩ := bind_some hF
    refine zju (T := Ty.u8) (z' := z89) (off := 0) (vs := [.int .u8 (IntKind.u8.wrap y80)]) hO w45 (i := 0) rfl (by rw [add_zero]; rfl) i87 g83 k85 m86 rfl rfl rfl rfl (by decide) (u8R hz89) fun σ o90 w91 hO => ?_
    have hO : Obs _ _ [_] := hO
    refine zh (zg (zK (zn (zU (za hO [] [(0, .slice A0 p0.length c0), (1, zqC p1), (6, zqD b4), (14, zqC (IntKind.i64.wrap (x46 + 1)))] zqp fun j => ?_)))))
    refine zg (zn ?_)
    exact ⟨n78, Nat.lt_succ_self _, o90, (x44.set (Int.toNat (IntKind.i64.wrap (2 - x46))) z89), (IntKind.i64.wrap (x46 + 1)), _, zqB zqo, hO, hL, r42, w91, hF⟩
   ·refine zk (congrArg Value.bool hb79) ?_
    refine zbq (zbm (zbp (zn (zb hO 1 [] [(6, zqD b4), (26, .slice A0 p0.length c0)] zqn fun j => ?_))))
    refine zp0 (T := Ty.u8) rfl ?_
    have l94 : 3 = x44.length := w45.len
    obtain ⟨_, h93, r92, hO⟩ := w45.share hO (i := 0) rfl
    have hL := hL.trans h93
    have r42 := r42.le h93
    have hO : Obs _ _ [_] := hO
    refine zbu (T := (Ty.slice Ty.u8)) (l := ([p0, x44] : List (List UInt8))) (cs := [.slice A0 p0.length c0, .slice (some ⟨b4, 0, none⟩) 3 3]) hO rfl ⟨[.slice A0 p0.length c0], _, rfl, ⟨_, rfl, r42⟩, ⟨[.slice (some ⟨b4, 0, none⟩) 3 3], _, rfl, ⟨_, rfl, r92⟩, rfl⟩⟩ rfl (by decide) fun _ σ o97 w98 hO => ?_
    obtain ⟨A95, c96, rfl, -⟩ := w98.form
    have hO : Obs _ _ [_, _] := hO
    obtain ⟨_, h100, r99, hO⟩ := w98.share hO (i := 1) rfl
    have hL := hL.trans h100
    have r42 := r42.le h100
    have r92 := r92.le h100
    have hO : Obs _ _ [_, _] := hO
    obtain ⟨c101, h102, hF⟩ := bind_some hF
    refine zr hO (zme r99 h102) rfl fun _ σ _ _ hO h103 h104 => ?_
    have hL := hL.trans h103
    have r42 := r42.le h103
    have r92 := r92.le h103
    have r99 := r99.le h103
    obtain ⟨v105, o108, rfl, rfl, w109⟩ := h104
    obtain ⟨A106, c107, rfl, -⟩ := w109.form
    have hO : Obs _ _ [_, _, _] := hO
    refine za hO [] [(4, .slice A106 c101.length c107), (5, zqC 0)] zqn fun j => ?_
    refine zp ?_
    injection hF with hF
    subst hF
    have hO := hO.sel [2] (by decide)
    exact hQ _ _ _ _ _ rfl hO hL ⟨_, _, rfl, rfl, w109⟩
theorem znP {τ : Hp} {v0 : Value} {p0 : (List UInt8)} {p1 : Int} (r0 : RdT Ty.u8 τ v0 p0) {rr : Int × Int × Int} (hF : zdc p0 p1 = some rr) :
  Ctr Tryz.prog 113 #[v0, .int .i64 p1] τ [] (fun v τ' vs' => v = .tuple #[.int .i64 rr.1, .int .i64 rr.2.1, .int .i64 rr.2.2] ∧ vs' = []) := by
 obtain ⟨A0, c0, rfl, -⟩ := r0.form
 refine zw (args := [.slice A0 p0.length c0, .int .i64 p1]) hm Tryz.func113 zmx rfl fun w0 σ hO Q hQ => ?_
 unfold zdc at hF
 have hL := Hp.le.refl τ
 show wpn _ _ zis.body _ _ _
 unfold zis
 dsimp only
 refine za hO [] [(0, .slice A0 p0.length c0), (1, zqC p1), (4, zqC 0)] zqo fun j => ?_
 refine zb hO 2 [] [(4, zqC 0), (11, .slice A0 p0.length c0), (12, zqC p1)] zqo fun j => ?_
 obtain ⟨c3, h4, hF⟩ := bind_some hF
 refine zr hO (zks r0 h4) rfl fun _ σ _ _ hO h5 h6 => ?_
 have hL := hL.trans h5
 have r0 := r0.le h5
 obtain ⟨v7, rfl, rfl, r10⟩ := h6
 obtain ⟨A8, c9, rfl, -⟩ := r10.form
 have hO : Obs _ _ [] := hO
 refine za hO [] [(4, zqC 0), (5, zqC c3.2.1), (6, zqC c3.2.2), (7, .slice A8 c3.1.length c9)] zqp fun j => ?_
 refine ze (za hO [] [(4, zqC 0), (5, zqC c3.2.1), (6, zqC c3.2.2), (17, .slice A8 c3.1.length c9), (18, zqC (c3.1.length : Int)), (19, zqC 0)] zqr fun j => ?_)
 refine zO (zbr (fun (n : Nat) e' σ' => ∃ (x18 : Int) (x20 : Int) (τ' : Hp), agr [(4, zqC x18), (5, zqC c3.2.1), (6, zqC c3.2.2), (17, .slice A8 c3.1.length c9), (18, zqC (c3.1.length : Int)), (19, zqC x20)] e' ∧ Obs τ' σ' [] ∧ Hp.le τ τ' ∧ RdT Ty.u8 τ' (.slice A8 c3.1.length c9) c3.1 ∧ zev c3 n x18 x20 = some rr) big ⟨0, 0, _, zqB zqq, hO, hL, r10, hF⟩ ?_)
 clear hF hO hL
 rintro n27 e σ ⟨x18, x20, _, hA, hO, hL, r19, hF⟩
 rw [← zC _ _ hA]
 cases n27 with
 | zero => exact nomatch (show none = some rr from hF)
 | succ n27 =>
  replace hF : zgJ (zev c3 n27) c3 x18 x20 = some rr := hF
  unfold zgJ at hF
  refine za hO [] [(4, zqC x18), (5, zqC c3.2.1), (6, zqC c3.2.2), (17, .slice A8 c3.1.length c9), (18, zqC (c3.1.length : Int)), (19, zqC x20), (20, .bool (decide (x20 < (c3.1.length : Int))))] zqs fun j => ?_
  rcases zi hF with ⟨hb28, hF⟩ | ⟨hb28, hF⟩
  ·refine zl (congrArg Value.bool hb28) ?_
   refine zv (zO ?_)
   obtain ⟨y29, g30, hF⟩ := bind_some hF
   refine zb6 (T := Ty.u8) r19 hO.base rfl rfl g30 (by decide) fun a31 _ k32 m33 => ?_
   obtain rfl : _ = ([.int .u8 y29.toNat] : List Value) := k32
   refine zZ rfl (m33.le hO.base).fst ?_
   refine za hO [] [(4, zqC x18), (5, zqC c3.2.1), (6, zqC c3.2.2), (9, .int .u8 (y29.toNat : Int)), (17, .slice A8 c3.1.length c9), (18, zqC (c3.1.length : Int)), (19, zqC x20)] zqs fun j => ?_
   refine zU (za hO [] [(4, zqC (orI .i64 (zbU .i64 x18 8) (IntKind.i64.wrap (y29.toNat : Int)))), (5, zqC c3.2.1), (6, zqC c3.2.2), (17, .slice A8 c3.1.length c9), (18, zqC (c3.1.length : Int)), (19, zqC x20)] zqr fun j => ?_)
   refine zg (zK (zn (zU (za hO [] [(4, zqC (orI .i64 (zbU .i64 x18 8) (IntKind.i64.wrap (y29.toNat : Int)))), (5, zqC c3.2.1), (6, zqC c3.2.2), (17, .slice A8 c3.1.length c9), (18, zqC (c3.1.length : Int)), (19, zqC (IntKind.i64.wrap (x20 + 1)))] zqr fun j => ?_))))
   refine zg (zn ?_)
   exact ⟨n27, Nat.lt_succ_self _, (orI .i64 (zbU .i64 x18 8) (IntKind.i64.wrap (y29.toNat : Int))), (IntKind.i64.wrap (x20 + 1)), _, zqB zqq, hO, hL, r19, hF⟩
  ·refine zk (congrArg Value.bool hb28) ?_
   refine zbq (zbm (zbp (zn (za hO [] [(4, zqC x18), (5, zqC c3.2.1), (6, zqC c3.2.2)] zqo fun j => ?_))))
   refine zp ?_
   injection hF with hF
   subst hF
   exact hQ _ _ _ _ _ rfl hO hL ⟨rfl, rfl⟩
theorem znr {τ : Hp} {v0 : Value} {p0 : (List UInt8)} {p1 : Int} {q2 : zc} {bm2 : Nat} (r0 : RdT Ty.u8 τ v0 p0) {rr : Int × Bool × zc} (hF : zgb p0 p1 q2 = some rr) :
  Ctr Tryz.prog 112 #[v0, .int .i64 p1, .pointer (some ⟨bm2, 0, none⟩)] τ [some (bm2, ⟨[.int .u8 q2.Kind.toNat, .int .u8 q2.Op.toNat, .int .i64 q2.R, .int .i64 q2.S, .int .i64 q2.T, .int .i64 q2.N, .int .i64 q2.M], 54, 7, true⟩)] (fun v τ' vs' => v = .tuple #[.int .i64 rr.1, .bool rr.2.1] ∧ vs' = [some (bm2, ⟨[.int .u8 rr.2.2.Kind.toNat, .int .u8 rr.2.2.Op.toNat, .int .i64 rr.2.2.R, .int .i64 rr.2.2.S, .int .i64 rr.2.2.T, .int .i64 rr.2.2.N, .int .i64 rr.2.2.M], 54, 7, true⟩)]) := by
 obtain ⟨A0, c0, rfl, -⟩ := r0.form
 refine zw (args := [.slice A0 p0.length c0, .int .i64 p1, .pointer (some ⟨bm2, 0, none⟩)]) hm Tryz.func112 zoP rfl fun w0 σ hO Q hQ => ?_
 unfold zgb at hF
 have hL := Hp.le.refl τ
 show wpn _ _ zjj.body _ _ _
 unfold zjj
 dsimp only
 refine za hO [] [(0, .slice A0 p0.length c0), (1, zqC p1), (2, zqD bm2)] zqo fun j => ?_
 refine zb hO 2 [] [(2, zqD bm2), (12, .slice A0 p0.length c0), (13, zqC p1)] zqo fun j => ?_
 obtain ⟨c4, h5, hF⟩ := bind_some hF
 refine zr hO (znP r0 h5) rfl fun _ σ _ _ hO h6 h7 => ?_
 have hL := hL.trans h6
 have r0 := r0.le h6
 obtain ⟨rfl, rfl⟩ := h7
 have hO : Obs _ _ [_] := hO
 refine za hO [] [(2, zqD bm2), (8, zqC c4.1), (9, zqC c4.2.1), (10, zqC c4.2.2)] zqp fun j => ?_
 refine zb hO 4 [] [(2, zqD bm2), (9, zqC c4.2.1), (10, zqC c4.2.2), (19, zqC c4.1), (21, .pointer (some ⟨bm2, 5, none⟩))] zqq fun j => ?_
 refine zH hO (i := 0) rfl (off := 5) rfl rfl rfl rfl (Nat.le_of_ble_eq_true rfl) rfl fun σ hO => ?_
 have hO : Obs _ _ [_] := hO
 refine zh (za hO [] [(2, zqD bm2), (6, zqC c4.2.1), (7, .bool (c4.2.2 == 0))] zqo fun j => ?_)
 refine zp ?_
 injection hF with hF
 subst hF
 exact hQ _ _ _ _ _ rfl hO hL ⟨rfl, rfl⟩
theorem zkH {τ : Hp}   {rr : zx} (hF : zhx  = some rr) :
  Ctr Tryz.prog 81 #[] τ [] (fun v τ' vs' => ∃ (f0_0 : Fn) (a0_0 c0_0 : Array Value) (f0_1 : Fn) (a0_1 c0_1 : Array Value) (f0_2 : Fn) (a0_2 c0_2 : Array Value), v = .agg #[.func f0_0 a0_0 c0_0, .func f0_1 a0_1 c0_1, .func f0_2 a0_2 c0_2] ∧ vs' = [] ∧ zbw τ' rr (.func f0_0 a0_0 c0_0) (.func f0_1 a0_1 c0_1) (.func f0_2 a0_2 c0_2)) := by
 refine zw (args := []) hm Tryz.func81 s81 rfl fun w0 σ hO Q hQ => ?_
 unfold zhx at hF
 have hL := Hp.le.refl τ
 show wpn _ _ a81.body _ _ _
 unfold a81
 dsimp only
 refine zbk hO fun b1 σ hO => ?_
 have hO : Obs _ _ [_] := hO
 refine zh (zb hO 1 [] [(0, zqD b1), (1, .agg #[(.func (.func 109) #[] #[]), (.func (.func 110) #[] #[]), (.func (.func 112) #[] #[])])] zqn fun j => ?_)
 refine zH hO (i := 0) rfl (off := 0) rfl rfl rfl rfl (Nat.le_of_ble_eq_true rfl) rfl fun σ hO => ?_
 have hO : Obs _ _ [_] := hO
 refine zh (zp ?_)
 injection hF with hF
 subst hF
 have hV0 := hO.val (i := 0) rfl (off := 0) (agg := true) (n := 3) rfl
 have hO := hO.sel [] (by decide)
 exact hQ _ _ _ _ _ (zbn rfl (hV0) rfl) hO hL ⟨_, _, _, _, _, _, _, _, _, rfl, rfl, ⟨rfl, rfl, rfl⟩⟩
theorem zl4 {τ : Hp} {q0 : zc} {bm0 : Nat}  {rr : Bool × zc} (hF : zhw q0 = some rr) :
  Ctr Tryz.prog 114 #[.pointer (some ⟨bm0, 0, none⟩)] τ [some (bm0, ⟨[.int .u8 q0.Kind.toNat, .int .u8 q0.Op.toNat, .int .i64 q0.R, .int .i64 q0.S, .int .i64 q0.T, .int .i64 q0.N, .int .i64 q0.M], 54, 7, true⟩)] (fun v τ' vs' => v = .bool rr.1 ∧ vs' = [some (bm0, ⟨[.int .u8 rr.2.Kind.toNat, .int .u8 rr.2.Op.toNat, .int .i64 rr.2.R, .int .i64 rr.2.S, .int .i64 rr.2.T, .int .i64 rr.2.N, .int .i64 rr.2.M], 54, 7, true⟩)]) := by
 refine zw (args := [.pointer (some ⟨bm0, 0, none⟩)]) hm Tryz.func114 zpc rfl fun w0 σ hO Q hQ => ?_
 unfold zhw at hF
 have hL := Hp.le.refl τ
 show wpn _ _ zeb.body _ _ _
 unfold zeb
 dsimp only
 refine za hO [] [(0, zqD bm0)] zqm fun j => ?_
 refine za hO [0, 0] [(0, zqD bm0), (2, .bool ((decide (q0.N ≥ 2)) && (decide (q0.N ≤ 4))))] (And.intro (And.intro rfl rfl) (And.intro (And.intro rfl rfl) (And.intro (And.intro rfl rfl) (fun _ => zqB zqm)))) fun j => ?_
 refine zp ?_
 injection hF with hF
 subst hF
 exact hQ _ _ _ _ _ rfl hO hL ⟨rfl, rfl⟩
theorem znA {τ : Hp} {q0 : zc} {bm0 : Nat}  {rr : Int × zc} (hF : zgP q0 = some rr) :
  Ctr Tryz.prog 115 #[.pointer (some ⟨bm0, 0, none⟩)] τ [some (bm0, ⟨[.int .u8 q0.Kind.toNat, .int .u8 q0.Op.toNat, .int .i64 q0.R, .int .i64 q0.S, .int .i64 q0.T, .int .i64 q0.N, .int .i64 q0.M], 54, 7, true⟩)] (fun v τ' vs' => v = .int .u8 rr.1 ∧ vs' = [some (bm0, ⟨[.int .u8 rr.2.Kind.toNat, .int .u8 rr.2.Op.toNat, .int .i64 rr.2.R, .int .i64 rr.2.S, .int .i64 rr.2.T, .int .i64 rr.2.N, .int .i64 rr.2.M], 54, 7, true⟩)]) := by
 refine zw (args := [.pointer (some ⟨bm0, 0, none⟩)]) hm Tryz.func115 zps rfl fun w0 σ hO Q hQ => ?_
 unfold zgP at hF
 have hL := Hp.le.refl τ
 show wpn _ _ zhr.body _ _ _
 unfold zhr
 dsimp only
 refine za hO [] [(0, zqD bm0)] zqm fun j => ?_
 refine za hO [0] [(0, zqD bm0), (2, .int .u8 (IntKind.u8.wrap q0.N))] (And.intro (And.intro rfl rfl) zqn) fun j => ?_
 refine zp ?_
 injection hF with hF
 subst hF
 exact hQ _ _ _ _ _ rfl hO hL ⟨rfl, rfl⟩
theorem zqa {τ : Hp} {q0 : zc} {bm0 : Nat} {p1 : Int}  {rr : zc} (hF : ze3 q0 p1 = some rr) :
  Ctr Tryz.prog 116 #[.pointer (some ⟨bm0, 0, none⟩), .int .u8 p1] τ [some (bm0, ⟨[.int .u8 q0.Kind.toNat, .int .u8 q0.Op.toNat, .int .i64 q0.R, .int .i64 q0.S, .int .i64 q0.T, .int .i64 q0.N, .int .i64 q0.M], 54, 7, true⟩)] (fun v τ' vs' => v = .tuple #[] ∧ vs' = [some (bm0, ⟨[.int .u8 rr.Kind.toNat, .int .u8 rr.Op.toNat, .int .i64 rr.R, .int .i64 rr.S, .int .i64 rr.T, .int .i64 rr.N, .int .i64 rr.M], 54, 7, true⟩)]) := by
 refine zfn (args := [.pointer (some ⟨bm0, 0, none⟩), .int .u8 p1]) hm Tryz.func116 zmz rfl fun w0 σ hO Q hQ => ?_
 unfold ze3 at hF
 have hL := Hp.le.refl τ
 show wpn _ _ ziG.body _ _ _
 unfold ziG
 dsimp only
 refine zU (zb hO 5 [] [(0, zqD bm0), (6, zqC (IntKind.i64.wrap p1)), (8, .pointer (some ⟨bm0, 5, none⟩))] zqo fun j => ?_)
 refine zH hO (i := 0) rfl (off := 5) rfl rfl rfl rfl (Nat.le_of_ble_eq_true rfl) rfl fun σ hO => ?_
 have hO : Obs _ _ [_] := hO
 refine zh (zg ?_)
 injection hF with hF
 subst hF
 exact (hQ _ _ _ _ _ rfl hO hL ⟨rfl, rfl⟩).2
theorem zo6 {τ : Hp}   {rr : zx} (hF : zjk  = some rr) :
  Ctr Tryz.prog 84 #[.func (.func 114) #[] #[], .func (.func 115) #[] #[], .func (.func 116) #[] #[]] τ [] (fun v τ' vs' => ∃ (f0_0 : Fn) (a0_0 c0_0 : Array Value) (f0_1 : Fn) (a0_1 c0_1 : Array Value) (f0_2 : Fn) (a0_2 c0_2 : Array Value), v = .agg #[.func f0_0 a0_0 c0_0, .func f0_1 a0_1 c0_1, .func f0_2 a0_2 c0_2] ∧ vs' = [] ∧ zbw τ' rr (.func f0_0 a0_0 c0_0) (.func f0_1 a0_1 c0_1) (.func f0_2 a0_2 c0_2)) := by
 refine zw (args := [.func (.func 114) #[] #[], .func (.func 115) #[] #[], .func (.func 116) #[] #[]]) hm Tryz.func84 s84 rfl fun w0 σ hO Q hQ => ?_
 unfold zjk at hF
 have hL := Hp.le.refl τ
 show wpn _ _ a84.body _ _ _
 unfold a84
 dsimp only
 refine zba (n := 1) hO rfl rfl fun b4 σ hO => ?_
 have hO : Obs _ _ [_] := hO
 refine zba (n := 1) hO rfl rfl fun b5 σ hO => ?_
 have hO : Obs _ _ [_, _] := hO
 refine zbk hO fun b6 σ hO => ?_
 have hO : Obs _ _ [_, _, _] := hO
 refine zh (zb hO 4 [] [(6, zqD b6), (10, .agg #[(.func (.func 114) #[] #[]), (.func (.func 117) #[] #[(.pointer (some ⟨b4, 0, none⟩))]), (.func (.func 118) #[] #[(.pointer (some ⟨b5, 0, none⟩))])])] zqn fun j => ?_)
 refine zH hO (i := 2) rfl (off := 0) rfl rfl rfl rfl (Nat.le_of_ble_eq_true rfl) rfl fun σ hO => ?_
 have hO : Obs _ _ [_, _, _] := hO
 refine zh (zp ?_)
 obtain ⟨_, h8, m7, hO⟩ := hO.shareV (i := 0) rfl
 have hL := hL.trans h8
 have hO : Obs _ _ [_, _, _] := hO
 obtain ⟨_, h10, m9, hO⟩ := hO.shareV (i := 1) rfl
 have hL := hL.trans h10
 have m7 := m7.le h10
 have hO : Obs _ _ [_, _, _] := hO
 injection hF with hF
 subst hF
 have hV0 := hO.val (i := 2) rfl (off := 0) (agg := true) (n := 3) rfl
 have hO := hO.sel [] (by decide)
 exact hQ _ _ _ _ _ (zbn rfl (hV0) rfl) hO hL ⟨_, _, _, _, _, _, _, _, _, rfl, rfl, ⟨(⟨b4, 0, none⟩ : Addr), (⟨b5, 0, none⟩ : Addr), rfl, rfl, rfl, m7, m9⟩⟩
theorem znj {τ : Hp}   {rr : zx} (hF : zij  = some rr) :
  Ctr Tryz.prog 82 #[] τ [] (fun v τ' vs' => ∃ (f0_0 : Fn) (a0_0 c0_0 : Array Value) (f0_1 : Fn) (a0_1 c0_1 : Array Value) (f0_2 : Fn) (a0_2 c0_2 : Array Value), v = .agg #[.func f0_0 a0_0 c0_0, .func f0_1 a0_1 c0_1, .func f0_2 a0_2 c0_2] ∧ vs' = [] ∧ zbw τ' rr (.func f0_0 a0_0 c0_0) (.func f0_1 a0_1 c0_1) (.func f0_2 a0_2 c0_2)) := by
 refine zw (args := []) hm Tryz.func82 s82 rfl fun w0 σ hO Q hQ => ?_
 unfold zij at hF
 have hL := Hp.le.refl τ
 show wpn _ _ a82.body _ _ _
 unfold a82
 dsimp only
 refine zbk hO fun b1 σ hO => ?_
 have hO : Obs _ _ [_] := hO
 refine zh ?_
 obtain ⟨c2, h3, hF⟩ := bind_some hF
 refine zr hO (zo6 h3) rfl fun _ σ _ _ hO h4 h5 => ?_
 have hL := hL.trans h4
 obtain ⟨f7, a8, c9, f10, a11, c12, f13, a14, c15, rfl, rfl, r6⟩ := h5
 have hO : Obs _ _ [_] := hO
 refine zH hO (i := 0) rfl (off := 0) rfl rfl rfl rfl (Nat.le_of_ble_eq_true rfl) rfl fun σ hO => ?_
 have hO : Obs _ _ [_] := hO
 refine zh (zp ?_)
 injection hF with hF
 subst hF
 have hV0 := hO.val (i := 0) rfl (off := 0) (agg := true) (n := 3) rfl
 have hO := hO.sel [] (by decide)
 exact hQ _ _ _ _ _ (zbn rfl (hV0) rfl) hO hL ⟨_, _, _, _, _, _, _, _, _, rfl, rfl, r6⟩
theorem zmp {τ : Hp}   {rr : zx} (hF : zi1  = some rr) :
  Ctr Tryz.prog 75 #[.func (.func 73) #[] #[]] τ [] (fun v τ' vs' => ∃ (f0_0 : Fn) (a0_0 c0_0 : Array Value) (f0_1 : Fn) (a0_1 c0_1 : Array Value) (f0_2 : Fn) (a0_2 c0_2 : Array Value), v = .agg #[.func f0_0 a0_0 c0_0, .func f0_1 a0_1 c0_1, .func f0_2 a0_2 c0_2] ∧ vs' = [] ∧ zbw τ' rr (.func f0_0 a0_0 c0_0) (.func f0_1 a0_1 c0_1) (.func f0_2 a0_2 c0_2)) := by
 refine zw (args := [.func (.func 73) #[] #[]]) hm Tryz.func75 s75 rfl fun w0 σ hO Q hQ => ?_
 unfold zi1 at hF
 have hL := Hp.le.refl τ
 show wpn _ _ a75.body _ _ _
 unfold a75
 dsimp only
 refine zbk hO fun b2 σ hO => ?_
 have hO : Obs _ _ [_] := hO
 refine zh (zb hO 2 [] [(2, zqD b2), (4, .agg #[(.func (.func 73) #[] #[]), (.func (.func 89) #[] #[]), (.func (.func 91) #[] #[])])] zqn fun j => ?_)
 refine zH hO (i := 0) rfl (off := 0) rfl rfl rfl rfl (Nat.le_of_ble_eq_true rfl) rfl fun σ hO => ?_
 have hO : Obs _ _ [_] := hO
 refine zh (zp ?_)
 injection hF with hF
 subst hF
 have hV0 := hO.val (i := 0) rfl (off := 0) (agg := true) (n := 3) rfl
 have hO := hO.sel [] (by decide)
 exact hQ _ _ _ _ _ (zbn rfl (hV0) rfl) hO hL ⟨_, _, _, _, _, _, _, _, _, rfl, rfl, ⟨rfl, rfl, rfl⟩⟩
theorem zjo {τ : Hp}   {rr : zx} (hF : zfg  = some rr) :
  Ctr Tryz.prog 75 #[.func (.func 79) #[] #[]] τ [] (fun v τ' vs' => ∃ (f0_0 : Fn) (a0_0 c0_0 : Array Value) (f0_1 : Fn) (a0_1 c0_1 : Array Value) (f0_2 : Fn) (a0_2 c0_2 : Array Value), v = .agg #[.func f0_0 a0_0 c0_0, .func f0_1 a0_1 c0_1, .func f0_2 a0_2 c0_2] ∧ vs' = [] ∧ zbw τ' rr (.func f0_0 a0_0 c0_0) (.func f0_1 a0_1 c0_1) (.func f0_2 a0_2 c0_2)) := by
 refine zw (args := [.func (.func 79) #[] #[]]) hm Tryz.func75 s75 rfl fun w0 σ hO Q hQ => ?_
 unfold zfg at hF
 have hL := Hp.le.refl τ
 show wpn _ _ a75.body _ _ _
 unfold a75
 dsimp only
 refine zbk hO fun b2 σ hO => ?_
 have hO : Obs _ _ [_] := hO
 refine zh (zb hO 2 [] [(2, zqD b2), (4, .agg #[(.func (.func 79) #[] #[]), (.func (.func 89) #[] #[]), (.func (.func 91) #[] #[])])] zqn fun j => ?_)
 refine zH hO (i := 0) rfl (off := 0) rfl rfl rfl rfl (Nat.le_of_ble_eq_true rfl) rfl fun σ hO => ?_
 have hO : Obs _ _ [_] := hO
 refine zh (zp ?_)
 injection hF with hF
 subst hF
 have hV0 := hO.val (i := 0) rfl (off := 0) (agg := true) (n := 3) rfl
 have hO := hO.sel [] (by decide)
 exact hQ _ _ _ _ _ (zbn rfl (hV0) rfl) hO hL ⟨_, _, _, _, _, _, _, _, _, rfl, rfl, ⟨rfl, rfl, rfl⟩⟩
end Go.Proofs.YtgkllgoelpfdkaaGreat
