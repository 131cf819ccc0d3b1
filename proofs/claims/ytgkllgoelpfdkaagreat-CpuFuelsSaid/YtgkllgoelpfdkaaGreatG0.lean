import Derived.Test.YtgkllgoelpfdkaaGreatF
import Derived.Test.YtgkllgoelpfdkaaGreatM00
import Derived.Test.YtgkllgoelpfdkaaGreatM01
namespace Go.Proofs.YtgkllgoelpfdkaaGreat
open Go.Ab Go.RowKit
set_option linter.unusedVariables false
set_option linter.unusedSimpArgs false
set_option maxRecDepth 10000
set_option maxHeartbeats 1000000
theorem zmh {τ : Hp} {p0 : zbC} {v0_0 : Value} {v0_1 : Value} {v0_4 : Value} (r0_0 : RdT zdf τ v0_0 p0.Code) (r0_1 : RdT Ty.u8 τ v0_1 p0.Bytes) (r0_4 : RdT (Ty.int .i64) τ v0_4 p0.Input) {rr : Bool} (hF : zeq p0 = some rr) :
  Ctr Tryz.prog 6 #[.agg #[v0_0, v0_1, .int .i64 p0.Start, .int .i64 p0.Words, v0_4, .int .i64 p0.Fuel]] τ [] (fun v τ' vs' => v = .bool rr ∧ vs' = []) := by
 obtain ⟨A0_0, c0_0, rfl, -⟩ := r0_0.form
 obtain ⟨A0_1, c0_1, rfl, -⟩ := r0_1.form
 obtain ⟨A0_4, c0_4, rfl, -⟩ := r0_4.form
 refine zw (args := [.agg #[(.slice A0_0 p0.Code.length c0_0), (.slice A0_1 p0.Bytes.length c0_1), .int .i64 p0.Start, .int .i64 p0.Words, (.slice A0_4 p0.Input.length c0_4), .int .i64 p0.Fuel]]) hm Tryz.func6 s6 rfl fun w0 σ hO Q hQ => ?_
 unfold zeq at hF
 have hL := Hp.le.refl τ
 show wpn _ _ a6.body _ _ _
 unfold a6
 dsimp only
 refine zbd (n := 6) hO rfl rfl fun b2 σ hO => ?_
 have hO : Obs _ _ [_] := hO
 refine za hO [] [(1, zqQ b2)] zqz fun j => ?_
 refine zb hO 8 [0, 0] [(1, zqQ b2), (13, .bool ((decide ((p0.Code.length : Int) > 200)) || (decide ((p0.Bytes.length : Int) > 4096))))] (And.intro (And.intro rfl rfl) (And.intro (And.intro rfl rfl) (And.intro (And.intro rfl rfl) (fun _ => zqO zqz)))) fun j => ?_
 obtain ⟨c3, h4, hF⟩ := bind_some hF
 refine zcS 4 [(22, .bool c3), (1, zqQ b2)] (fun Q hQ => ?_) fun j => ?_
 ·have hF := h4
  rcases zi hF with ⟨hb5, hF⟩ | ⟨hb5, hF⟩
  ·refine zM (congrArg (fun x => isB (.bool x) false) hb5) ?_
   refine zM rfl ?_
   refine zM (congrArg (fun x => isB (.bool x) false) hb5) ?_
   refine zz (congrArg Value.bool hb5) ?_
   refine zh ?_
   injection hF with hF
   subst hF
   refine zg ?_
   exact hQ _ zqA
  ·refine zE (congrArg (fun x => isB (.bool x) false) hb5) ?_
   refine zb hO 4 [0] [(1, zqQ b2), (13, .bool ((decide ((p0.Code.length : Int) > 200)) || (decide ((p0.Bytes.length : Int) > 4096)))), (17, .bool (decide (p0.Words > 1024)))] (And.intro (And.intro rfl rfl) zqB) fun j => ?_
   rcases zi hF with ⟨hb6, hF⟩ | ⟨hb6, hF⟩
   ·refine zE (congrArg (fun x => isB (.bool x) true) hb6) ?_
    refine zb hO 3 [0] [(1, zqQ b2), (13, .bool ((decide ((p0.Code.length : Int) > 200)) || (decide ((p0.Bytes.length : Int) > 4096)))), (17, .bool (decide (p0.Words > 1024))), (20, .bool (decide (p0.Words ≤ 65536)))] (And.intro (And.intro rfl rfl) zqC) fun j => ?_
    refine zE (congrArg (fun x => isB (.bool x) false) hb5) ?_
    refine zz (congrArg Value.bool hb6) ?_
    refine zz (congrArg Value.bool hb5) ?_
    refine zh ?_
    injection hF with hF
    subst hF
    refine zg ?_
    exact hQ _ zqA
   ·refine zM (congrArg (fun x => isB (.bool x) true) hb6) ?_
    refine zE (congrArg (fun x => isB (.bool x) false) hb5) ?_
    refine zz (congrArg Value.bool hb6) ?_
    refine zz (congrArg Value.bool hb5) ?_
    refine zh ?_
    injection hF with hF
    subst hF
    refine zg ?_
    exact hQ _ zqA
 ·refine za hO [0, 0] [(2, .bool ((c3 || (decide ((p0.Input.length : Int) > 100))) || (decide (p0.Fuel > 1000))))] (And.intro (And.intro rfl rfl) (And.intro (And.intro rfl rfl) (fun _ => And.intro (And.intro rfl rfl) (And.intro (And.intro rfl rfl) (fun _ => zqO trivial))))) fun j => ?_
  refine zp ?_
  injection hF with hF
  subst hF
  have hO := hO.sel [] (by decide)
  exact hQ _ _ _ _ _ rfl hO hL ⟨rfl, rfl⟩
theorem zgf {τ : Hp} {v0 : Value} {p0 : (List UInt8)} (r0 : RdT Ty.u8 τ v0 p0) {rr : (List UInt8)} (hF : zcv p0 = some rr) :
  Ctr Tryz.prog 27 #[v0] τ [] (fun v τ' vs' => ∃ (v0 : Value) (o0 : Ob), v = v0 ∧ vs' = [o0] ∧ zd Ty.u8 5 τ' v0 rr o0) := by
 obtain ⟨A0, c0, rfl, -⟩ := r0.form
 refine zw (args := [.slice A0 p0.length c0]) hm Tryz.func27 s27 rfl fun w0 σ hO Q hQ => ?_
 unfold zcv at hF
 obtain ⟨_, hr, hF⟩ := bind_some hF
 injection hF with hF
 subst hF
 have hL := Hp.le.refl τ
 show wpn _ _ a27.body _ _ _
 unfold a27
 dsimp only
 refine za hO [] [(0, .slice A0 p0.length c0)] zqz fun j => ?_
 refine zf (za hO [] [(0, .slice A0 p0.length c0), (4, .bool A0.isNone)] zqA fun j => ?_)
 rcases (Bool.eq_false_or_eq_true A0.isNone).symm with hA | hA
 ·refine zj (congrArg Value.bool hA) ?_
  refine zr (zby (T := Ty.u8) (l := []) (cs := []) hO rfl rfl rfl (by decide) fun _ σ o1 w1 hO => ?_)
  obtain ⟨A1, c1, rfl, -⟩ := w1.form
  refine zb hO 1 [] [(5, .slice A1 0 c1), (6, .slice A0 p0.length c0)] zqA fun j => ?_
  refine zfA (T := Ty.u8) hO w1 (i := 0) rfl rfl rfl r0 (by simpa using hr) (by decide) fun _ σ o2 w2 hO => ?_
  refine za hO [] [(2, _)] zqz fun j => ?_
  refine zp ?_
  exact hQ _ _ _ _ _ rfl hO hL ⟨_, _, rfl, rfl, w2⟩
 ·refine zl (congrArg Value.bool hA) ?_
  have := r0.empty (by decide) hA
  subst this
  refine zf (za hO [] [(2, .slice none 0 0)] zqz fun j => ?_)
  refine zA ?_
  have hO := hO.no
  exact hQ _ _ _ _ _ rfl hO hL ⟨_, _, rfl, rfl, zd.nil _ _ _⟩
theorem zeQ {τ : Hp} {v0 : Value} {p0 : (List Int)} (r0 : RdT (Ty.int .i64) τ v0 p0) {rr : (List Int)} (hF : zdw p0 = some rr) :
  Ctr Tryz.prog 28 #[v0] τ [] (fun v τ' vs' => ∃ (v0 : Value) (o0 : Ob), v = v0 ∧ vs' = [o0] ∧ zd (Ty.int .i64) 2 τ' v0 rr o0) := by
 obtain ⟨A0, c0, rfl, -⟩ := r0.form
 refine zw (args := [.slice A0 p0.length c0]) hm Tryz.func28 s28 rfl fun w0 σ hO Q hQ => ?_
 unfold zdw at hF
 obtain ⟨_, hr, hF⟩ := bind_some hF
 injection hF with hF
 subst hF
 have hL := Hp.le.refl τ
 show wpn _ _ a28.body _ _ _
 unfold a28
 dsimp only
 refine za hO [] [(0, .slice A0 p0.length c0)] zqz fun j => ?_
 refine zf (za hO [] [(0, .slice A0 p0.length c0), (4, .bool A0.isNone)] zqA fun j => ?_)
 rcases (Bool.eq_false_or_eq_true A0.isNone).symm with hA | hA
 ·refine zj (congrArg Value.bool hA) ?_
  refine zr (zby (T := (Ty.int .i64)) (l := []) (cs := []) hO rfl rfl rfl (by decide) fun _ σ o1 w1 hO => ?_)
  obtain ⟨A1, c1, rfl, -⟩ := w1.form
  refine zb hO 1 [] [(5, .slice A1 0 c1), (6, .slice A0 p0.length c0)] zqA fun j => ?_
  refine zfA (T := (Ty.int .i64)) hO w1 (i := 0) rfl rfl rfl r0 (by simpa using hr) (by decide) fun _ σ o2 w2 hO => ?_
  refine za hO [] [(2, _)] zqz fun j => ?_
  refine zp ?_
  exact hQ _ _ _ _ _ rfl hO hL ⟨_, _, rfl, rfl, w2⟩
 ·refine zl (congrArg Value.bool hA) ?_
  have := r0.empty (by decide) hA
  subst this
  refine zf (za hO [] [(2, .slice none 0 0)] zqz fun j => ?_)
  refine zA ?_
  have hO := hO.no
  exact hQ _ _ _ _ _ rfl hO hL ⟨_, _, rfl, rfl, zd.nil _ _ _⟩
theorem zhb {τ : Hp} {v0 : Value} {p0 : (List UInt8)} {p1 : Int} {p2 : Int} {v3 : Value} {p3 : (List Int)} (r0 : RdT Ty.u8 τ v0 p0) (r3 : RdT (Ty.int .i64) τ v3 p3) {rr : (Option ze) × Int} (hF : zdH p0 p1 p2 p3 = some rr) :
  Ctr Tryz.prog 9 #[v0, .int .i64 p1, .int .i64 p2, v3] τ [] (fun v τ' vs' => match rr.1 with | none => v = .tuple #[.pointer none, .int .i64 rr.2] ∧ vs' = [] | some m => ∃ (b : Nat) (u0 : Value) (y0 : Ob) (u18 : Value) (y18 : Ob) (u19 : Value) (y19 : Ob) (u20 : Value) (y20 : Ob), v = .tuple #[.pointer (some ⟨b, 0, none⟩), .int .i64 rr.2] ∧ vs' = [some (b, ⟨[u0, .int .i64 m.pc, .int .i64 (m.regs 0), .int .i64 (m.regs 1), .int .i64 (m.regs 2), .int .i64 (m.regs 3), .int .i64 (m.regs 4), .int .i64 (m.regs 5), .int .i64 (m.regs 6), .int .i64 (m.regs 7), .int .i64 (m.regs 8), .int .i64 (m.regs 9), .int .i64 (m.regs 10), .int .i64 (m.regs 11), .int .i64 (m.regs 12), .int .i64 (m.regs 13), .int .i64 (m.regs 14), .int .i64 (m.regs 15), u18, u19, u20, .int .u8 m.how.toNat, .int .i64 m.halting], 58, 23, true⟩), y0, y18, y19, y20] ∧ zd Ty.u8 5 τ' u0 m.code y0 ∧ zd (Ty.int .i64) 2 τ' u18 m.words y18 ∧ zd (Ty.int .i64) 2 τ' u19 m.input y19 ∧ zd (Ty.int .i64) 2 τ' u20 m.out y20) := by
 obtain ⟨A0, c0, rfl, -⟩ := r0.form
 obtain ⟨A3, c3, rfl, -⟩ := r3.form
 refine zw (args := [.slice A0 p0.length c0, .int .i64 p1, .int .i64 p2, .slice A3 p3.length c3]) hm Tryz.func9 s9 rfl fun w0 σ hO Q hQ => ?_
 unfold zdH at hF
 have hL := Hp.le.refl τ
 show wpn _ _ a9.body _ _ _
 unfold a9
 dsimp only
 refine za hO [] [(0, .slice A0 p0.length c0), (1, zqP p1), (2, zqP p2), (3, .slice A3 p3.length c3)] zqC fun j => ?_
 refine zf (za hO [] [(0, .slice A0 p0.length c0), (1, zqP p1), (2, zqP p2), (3, .slice A3 p3.length c3), (31, .bool (((((decide ((p0.length : Int) > 1048576)) || (decide (p1 < 0))) || (decide (p1 > (p0.length : Int)))) || (decide (p2 < 1))) || (decide (p2 > 65536))))] (And.intro (And.intro rfl rfl) (fun _ => And.intro (And.intro rfl rfl) (fun _ => And.intro (And.intro rfl rfl) (fun _ => And.intro (And.intro rfl rfl) (fun _ => zqO zqC))))) fun j => ?_)
 rcases zi hF with ⟨hb5, hF⟩ | ⟨hb5, hF⟩
 ·refine zl (congrArg Value.bool hb5) ?_
  refine zf (za hO [] [(8, .pointer none), (9, zqP 1)] zqA fun j => ?_)
  refine zA ?_
  injection hF with hF
  subst hF
  exact hQ _ _ _ _ _ rfl hO hL ⟨rfl, rfl⟩
 ·refine zj (congrArg Value.bool hb5) ?_
  refine zr (zba (za hO [] [(1, zqP p1), (2, zqP p2), (3, .slice A3 p3.length c3), (32, .slice A0 p0.length c0)] zqC fun j => ?_))
  refine zba (za hO [] [(2, zqP p2), (3, .slice A3 p3.length c3), (32, .slice A0 p0.length c0), (34, zqP p1)] zqC fun j => ?_)
  refine zba (za hO [] [(2, zqP p2), (3, .slice A3 p3.length c3), (32, .slice A0 p0.length c0), (34, zqP p1), (35, zqP p2)] zqD fun j => ?_)
  refine zba (za hO [] [(2, zqP p2), (32, .slice A0 p0.length c0), (34, zqP p1), (35, zqP p2), (37, .slice A3 p3.length c3)] zqD fun j => ?_)
  refine zbL (fun e' σ' => ∃ (b32 : Nat) (A33 : Option Addr) (c34 : Nat) (o35 : Ob) (x36 : List UInt8) (A38 : Option Addr) (c39 : Nat) (o40 : Ob) (x41 : List Int) (A43 : Option Addr) (c44 : Nat) (o45 : Ob) (x46 : List Int) (τ' : Hp), agr [(2, zqP p2), (10, zqQ b32)] e' ∧ Obs τ' σ' [some (b32, ⟨[.slice A33 x36.length c34, .int .i64 p1, .int .i64 0, .int .i64 0, .int .i64 0, .int .i64 0, .int .i64 0, .int .i64 0, .int .i64 0, .int .i64 0, .int .i64 0, .int .i64 0, .int .i64 0, .int .i64 0, .int .i64 0, .int .i64 0, .int .i64 0, .int .i64 0, .slice A38 x41.length c39, .slice A43 x46.length c44, .slice none 0 0, .int .u8 0, .int .i64 0], 58, 23, true⟩), o35, o40, o45] ∧ Hp.le τ τ' ∧ zd Ty.u8 5 τ' (.slice A33 x36.length c34) x36 o35 ∧ zd (Ty.int .i64) 2 τ' (.slice A38 x41.length c39) x41 o40 ∧ zd (Ty.int .i64) 2 τ' (.slice A43 x46.length c44) x46 o45 ∧ zjn p1 p2 x36 x41 x46 = some rr) ?_ ?_
  ·refine zlI ?_
   obtain ⟨c49, h50, hF⟩ := bind_some hF
   obtain ⟨y58, g59, hF⟩ := bind_some hF
   obtain ⟨c65, h66, hF⟩ := bind_some hF
   refine ziq ?_ ?_
   ·refine zbS (zs hO (zgf r0 h50) rfl fun _ σ _ _ hO h51 h52 => ?_)
    have hL := hL.trans h51
    have r0 := r0.le h51
    have r3 := r3.le h51
    obtain ⟨v53, o56, rfl, rfl, w57⟩ := h52
    obtain ⟨A54, c55, rfl, -⟩ := w57.form
    have hO : Obs _ _ [_] := hO
    refine zh (ziq ?_ ?_)
    ·refine zbS (zjJ (T := (Ty.int .i64)) hO rfl rfl g59 (show _ = _ from rfl) (by decide) fun b64 c61 σ o62 w63 hO => ?_)
     have hO : Obs _ _ [_, _] := hO
     refine zh (zbS (zs hO (zeQ r3 h66) rfl fun _ σ _ _ hO h67 h68 => ?_))
     have hL := hL.trans h67
     have r0 := r0.le h67
     have w57 := w57.le h67
     have w63 := w63.le h67
     have r3 := r3.le h67
     obtain ⟨v69, o72, rfl, rfl, w73⟩ := h68
     obtain ⟨A70, c71, rfl, -⟩ := w73.form
     have hO : Obs _ _ [_, _, _] := hO
     refine zh (zba (za hO [] [(2, zqP p2), (39, .agg #[(.slice A54 c49.length c55), (.int .i64 p1), (.int .i64 0), (.int .i64 0), (.int .i64 0), (.int .i64 0), (.int .i64 0), (.int .i64 0), (.int .i64 0), (.int .i64 0), (.int .i64 0), (.int .i64 0), (.int .i64 0), (.int .i64 0), (.int .i64 0), (.int .i64 0), (.int .i64 0), (.int .i64 0), (.slice (some ⟨b64, 0, none⟩) y58.length c61), (.slice A70 c65.length c71), (.slice none 0 0), (.int .u8 0), (.int .i64 0)])] zqA fun j => ?_))
     refine zbS (zbd (n := 23) hO rfl rfl fun b74 σ hO => ?_)
     have hO : Obs _ _ [_, _, _, _] := hO
     refine zh (zba (za hO [] [(2, zqP p2), (10, zqQ b74)] zqA fun j => ?_))
     refine zfH (zg (zn ?_))
     have hO := hO.sel [3, 0, 1, 2] (by decide)
     exact ⟨b74, A54, c55, o56, c49, (some ⟨b64, 0, none⟩), c61, o62, y58, A70, c71, o72, c65, _, zqO zqz, hO, hL, w57, w63, w73, hF⟩
    ·refine zbS (zs hO (zeQ r3 h66) rfl fun _ σ _ _ hO h67 h68 => ?_)
     have hL := hL.trans h67
     have r0 := r0.le h67
     have w57 := w57.le h67
     have r3 := r3.le h67
     obtain ⟨v69, o72, rfl, rfl, w73⟩ := h68
     obtain ⟨A70, c71, rfl, -⟩ := w73.form
     have hO : Obs _ _ [_, _] := hO
     refine zh (zbS (zjJ (T := (Ty.int .i64)) hO rfl rfl g59 (show _ = _ from rfl) (by decide) fun b64 c61 σ o62 w63 hO => ?_))
     have hO : Obs _ _ [_, _, _] := hO
     refine zh (zba (za hO [] [(2, zqP p2), (39, .agg #[(.slice A54 c49.length c55), (.int .i64 p1), (.int .i64 0), (.int .i64 0), (.int .i64 0), (.int .i64 0), (.int .i64 0), (.int .i64 0), (.int .i64 0), (.int .i64 0), (.int .i64 0), (.int .i64 0), (.int .i64 0), (.int .i64 0), (.int .i64 0), (.int .i64 0), (.int .i64 0), (.int .i64 0), (.slice (some ⟨b64, 0, none⟩) y58.length c61), (.slice A70 c65.length c71), (.slice none 0 0), (.int .u8 0), (.int .i64 0)])] zqA fun j => ?_))
     refine zbS (zbd (n := 23) hO rfl rfl fun b74 σ hO => ?_)
     have hO : Obs _ _ [_, _, _, _] := hO
     refine zh (zba (za hO [] [(2, zqP p2), (10, zqQ b74)] zqA fun j => ?_))
     refine zfH (zg (zn ?_))
     have hO := hO.sel [3, 0, 2, 1] (by decide)
     exact ⟨b74, A54, c55, o56, c49, (some ⟨b64, 0, none⟩), c61, o62, y58, A70, c71, o72, c65, _, zqO zqz, hO, hL, w57, w63, w73, hF⟩
   ·refine zbS (zjJ (T := (Ty.int .i64)) hO rfl rfl g59 (show _ = _ from rfl) (by decide) fun b64 c61 σ o62 w63 hO => ?_)
    have hO : Obs _ _ [_] := hO
    refine zh (zbS (zs hO (zgf r0 h50) rfl fun _ σ _ _ hO h51 h52 => ?_))
    have hL := hL.trans h51
    have r0 := r0.le h51
    have w63 := w63.le h51
    have r3 := r3.le h51
    obtain ⟨v53, o56, rfl, rfl, w57⟩ := h52
    obtain ⟨A54, c55, rfl, -⟩ := w57.form
    have hO : Obs _ _ [_, _] := hO
    refine zh (zbS (zs hO (zeQ r3 h66) rfl fun _ σ _ _ hO h67 h68 => ?_))
    have hL := hL.trans h67
    have r0 := r0.le h67
    have w57 := w57.le h67
    have w63 := w63.le h67
    have r3 := r3.le h67
    obtain ⟨v69, o72, rfl, rfl, w73⟩ := h68
    obtain ⟨A70, c71, rfl, -⟩ := w73.form
    have hO : Obs _ _ [_, _, _] := hO
    refine zh (zba (za hO [] [(2, zqP p2), (39, .agg #[(.slice A54 c49.length c55), (.int .i64 p1), (.int .i64 0), (.int .i64 0), (.int .i64 0), (.int .i64 0), (.int .i64 0), (.int .i64 0), (.int .i64 0), (.int .i64 0), (.int .i64 0), (.int .i64 0), (.int .i64 0), (.int .i64 0), (.int .i64 0), (.int .i64 0), (.int .i64 0), (.int .i64 0), (.slice (some ⟨b64, 0, none⟩) y58.length c61), (.slice A70 c65.length c71), (.slice none 0 0), (.int .u8 0), (.int .i64 0)])] zqA fun j => ?_))
    refine zbS (zbd (n := 23) hO rfl rfl fun b74 σ hO => ?_)
    have hO : Obs _ _ [_, _, _, _] := hO
    refine zh (zba (za hO [] [(2, zqP p2), (10, zqQ b74)] zqA fun j => ?_))
    refine zfH (zg (zn ?_))
    have hO := hO.sel [3, 1, 0, 2] (by decide)
    exact ⟨b74, A54, c55, o56, c49, (some ⟨b64, 0, none⟩), c61, o62, y58, A70, c71, o72, c65, _, zqO zqz, hO, hL, w57, w63, w73, hF⟩
  ·rintro e σ ⟨b32, A33, c34, o35, x36, A38, c39, o40, x41, A43, c44, o45, x46, _, hA, hO, hL, w37, w42, w47, hF⟩
   rw [← zB _ _ hA]
   unfold zjn at hF
   refine zb hO 5 [] [(10, zqQ b32), (42, zqP p2), (45, .pointer (some ⟨b32, 17, none⟩))] zqB fun j => ?_
   refine zI hO (i := 0) rfl (off := 17) rfl rfl rfl rfl (Nat.le_of_ble_eq_true rfl) rfl fun σ hO => ?_
   have hO : Obs _ _ [_, _, _, _] := hO
   refine zh (za hO [] [(8, zqQ b32), (9, zqP 0)] zqA fun j => ?_)
   refine zp ?_
   have hO := hO.no
   have hO : Obs _ _ [_, _, _, _, _] := hO
   have w48 := zd.nil0 (T := (Ty.int .i64)) (ty := 2) hO
   injection hF with hF
   subst hF
   exact hQ _ _ _ _ _ rfl hO hL ⟨_, _, _, _, _, _, _, _, _, rfl, rfl, w37, w42, w47, w48⟩
theorem zhE {rr : (Option ze) × Int} : ∀ (v : Value) (τ1 τ2 : Hp) (vs : List Ob), (fun v τ' vs' => match rr.1 with | none => v = .tuple #[.pointer none, .int .i64 rr.2] ∧ vs' = [] | some m => ∃ (b : Nat) (u0 : Value) (y0 : Ob) (u18 : Value) (y18 : Ob) (u19 : Value) (y19 : Ob) (u20 : Value) (y20 : Ob), v = .tuple #[.pointer (some ⟨b, 0, none⟩), .int .i64 rr.2] ∧ vs' = [some (b, ⟨[u0, .int .i64 m.pc, .int .i64 (m.regs 0), .int .i64 (m.regs 1), .int .i64 (m.regs 2), .int .i64 (m.regs 3), .int .i64 (m.regs 4), .int .i64 (m.regs 5), .int .i64 (m.regs 6), .int .i64 (m.regs 7), .int .i64 (m.regs 8), .int .i64 (m.regs 9), .int .i64 (m.regs 10), .int .i64 (m.regs 11), .int .i64 (m.regs 12), .int .i64 (m.regs 13), .int .i64 (m.regs 14), .int .i64 (m.regs 15), u18, u19, u20, .int .u8 m.how.toNat, .int .i64 m.halting], 58, 23, true⟩), y0, y18, y19, y20] ∧ zd Ty.u8 5 τ' u0 m.code y0 ∧ zd (Ty.int .i64) 2 τ' u18 m.words y18 ∧ zd (Ty.int .i64) 2 τ' u19 m.input y19 ∧ zd (Ty.int .i64) 2 τ' u20 m.out y20) v τ1 vs → (fun v τ' vs' => match rr.1 with | none => v = .tuple #[.pointer none, .int .i64 rr.2] ∧ vs' = [] | some m => ∃ (b : Nat) (u0 : Value) (y0 : Ob) (u18 : Value) (y18 : Ob) (u19 : Value) (y19 : Ob) (u20 : Value) (y20 : Ob), v = .tuple #[.pointer (some ⟨b, 0, none⟩), .int .i64 rr.2] ∧ vs' = [some (b, ⟨[u0, .int .i64 m.pc, .int .i64 (m.regs 0), .int .i64 (m.regs 1), .int .i64 (m.regs 2), .int .i64 (m.regs 3), .int .i64 (m.regs 4), .int .i64 (m.regs 5), .int .i64 (m.regs 6), .int .i64 (m.regs 7), .int .i64 (m.regs 8), .int .i64 (m.regs 9), .int .i64 (m.regs 10), .int .i64 (m.regs 11), .int .i64 (m.regs 12), .int .i64 (m.regs 13), .int .i64 (m.regs 14), .int .i64 (m.regs 15), u18, u19, u20, .int .u8 m.how.toNat, .int .i64 m.halting], 58, 23, true⟩), y0, y18, y19, y20] ∧ zd Ty.u8 5 τ' u0 m.code y0 ∧ zd (Ty.int .i64) 2 τ' u18 m.words y18 ∧ zd (Ty.int .i64) 2 τ' u19 m.input y19 ∧ zd (Ty.int .i64) 2 τ' u20 m.out y20) v τ2 vs := fun v τ1 τ2 vs h => by
 dsimp only at h ⊢
 revert h
 cases rr.1 with
 | none => exact fun h => h
 | some m => exact fun ⟨b, u0, y0, u18, y18, u19, y19, u20, y20, h1, h2, f0, f18, f19, f20⟩ => ⟨b, u0, y0, u18, y18, u19, y19, u20, y20, h1, h2, f0.flat zka, f18.flat (zeW .i64), f19.flat (zeW .i64), f20.flat (zeW .i64)⟩
theorem zjm {τ : Hp} {q0 : ze} {bm0 : Nat} {vm0_0 : Value} {vm0_18 : Value} {om0_18 : Ob} {vm0_19 : Value} {vm0_20 : Value} {om0_20 : Ob} (rm0_0 : RdT Ty.u8 τ vm0_0 q0.code) (wm0_18 : zd (Ty.int .i64) 2 τ vm0_18 q0.words om0_18) (rm0_19 : RdT (Ty.int .i64) τ vm0_19 q0.input) (wm0_20 : zd (Ty.int .i64) 2 τ vm0_20 q0.out om0_20) {rr : Int} (hF : zeA q0 = some rr) :
  Ctr Tryz.prog 18 #[.pointer (some ⟨bm0, 0, none⟩)] τ [some (bm0, ⟨[vm0_0, .int .i64 q0.pc, .int .i64 (q0.regs 0), .int .i64 (q0.regs 1), .int .i64 (q0.regs 2), .int .i64 (q0.regs 3), .int .i64 (q0.regs 4), .int .i64 (q0.regs 5), .int .i64 (q0.regs 6), .int .i64 (q0.regs 7), .int .i64 (q0.regs 8), .int .i64 (q0.regs 9), .int .i64 (q0.regs 10), .int .i64 (q0.regs 11), .int .i64 (q0.regs 12), .int .i64 (q0.regs 13), .int .i64 (q0.regs 14), .int .i64 (q0.regs 15), vm0_18, vm0_19, vm0_20, .int .u8 q0.how.toNat, .int .i64 q0.halting], 58, 23, true⟩), om0_18, om0_20] (fun v τ' vs' => v = .int .u8 rr ∧ vs' = [some (bm0, ⟨[vm0_0, .int .i64 q0.pc, .int .i64 (q0.regs 0), .int .i64 (q0.regs 1), .int .i64 (q0.regs 2), .int .i64 (q0.regs 3), .int .i64 (q0.regs 4), .int .i64 (q0.regs 5), .int .i64 (q0.regs 6), .int .i64 (q0.regs 7), .int .i64 (q0.regs 8), .int .i64 (q0.regs 9), .int .i64 (q0.regs 10), .int .i64 (q0.regs 11), .int .i64 (q0.regs 12), .int .i64 (q0.regs 13), .int .i64 (q0.regs 14), .int .i64 (q0.regs 15), vm0_18, vm0_19, vm0_20, .int .u8 q0.how.toNat, .int .i64 q0.halting], 58, 23, true⟩), om0_18, om0_20]) := by
 obtain ⟨Am0_0, cm0_0, rfl, -⟩ := rm0_0.form
 obtain ⟨Am0_18, cm0_18, rfl, -⟩ := wm0_18.form
 obtain ⟨Am0_19, cm0_19, rfl, -⟩ := rm0_19.form
 obtain ⟨Am0_20, cm0_20, rfl, -⟩ := wm0_20.form
 refine zw (args := [.pointer (some ⟨bm0, 0, none⟩)]) hm Tryz.func18 s18 rfl fun w0 σ hO Q hQ => ?_
 unfold zeA at hF
 have hL := Hp.le.refl τ
 show wpn _ _ a18.body _ _ _
 unfold a18
 dsimp only
 refine za hO [] [(0, zqQ bm0)] zqz fun j => ?_
 refine zf (za hO [] [(0, zqQ bm0), (4, .bool false)] zqA fun j => ?_)
 refine zj rfl ?_
 refine zr (za hO [0] [(0, zqQ bm0), (2, .int .u8 (q0.how.toNat : Int))] (And.intro (And.intro rfl rfl) zqA) fun j => ?_)
 refine zp ?_
 injection hF with hF
 subst hF
 exact hQ _ _ _ _ _ rfl hO hL ⟨rfl, rfl⟩
theorem znw {τ : Hp} {q0 : zc} {bm0 : Nat}  {rr : Bool × zc} (hF : zh6 q0 = some rr) :
  Ctr Tryz.prog 73 #[.pointer (some ⟨bm0, 0, none⟩)] τ [some (bm0, ⟨[.int .u8 q0.Kind.toNat, .int .u8 q0.Op.toNat, .int .i64 q0.R, .int .i64 q0.S, .int .i64 q0.T, .int .i64 q0.N, .int .i64 q0.M], 54, 7, true⟩)] (fun v τ' vs' => v = .bool rr.1 ∧ vs' = [some (bm0, ⟨[.int .u8 rr.2.Kind.toNat, .int .u8 rr.2.Op.toNat, .int .i64 rr.2.R, .int .i64 rr.2.S, .int .i64 rr.2.T, .int .i64 rr.2.N, .int .i64 rr.2.M], 54, 7, true⟩)]) := by
 refine zw (args := [.pointer (some ⟨bm0, 0, none⟩)]) hm Tryz.func73 s73 rfl fun w0 σ hO Q hQ => ?_
 unfold zh6 at hF
 have hL := Hp.le.refl τ
 show wpn _ _ a73.body _ _ _
 unfold a73
 dsimp only
 refine za hO [] [(0, zqQ bm0)] zqz fun j => ?_
 refine za hO [] [(0, zqQ bm0), (2, .bool true)] zqA fun j => ?_
 refine zp ?_
 injection hF with hF
 subst hF
 exact hQ _ _ _ _ _ rfl hO hL ⟨rfl, rfl⟩
theorem zkO {τ : Hp} {v0 : Value} {p0 : (List UInt8)} {p1 : Int} {p2 : Int} (r0 : RdT Ty.u8 τ v0 p0) {rr : (List UInt8) × Int × Int} (hF : zdG p0 p1 p2 = some rr) :
  Ctr Tryz.prog 125 #[v0, .int .i64 p1, .int .i64 p2] τ [] (fun v τ' vs' => ∃ (v0 : Value), v = .tuple #[v0, .int .i64 rr.2.1, .int .i64 rr.2.2] ∧ vs' = [] ∧ RdT Ty.u8 τ' v0 rr.1) := by
 obtain ⟨A0, c0, rfl, -⟩ := r0.form
 refine zw (args := [.slice A0 p0.length c0, .int .i64 p1, .int .i64 p2]) hm Tryz.func125 zpQ rfl fun w0 σ hO Q hQ => ?_
 unfold zdG at hF
 have hL := Hp.le.refl τ
 show wpn _ _ zdl.body _ _ _
 unfold zdl
 dsimp only
 refine za hO [] [(0, .slice A0 p0.length c0), (1, zqP p1), (2, zqP p2)] zqB fun j => ?_
 refine zf (za hO [] [(0, .slice A0 p0.length c0), (1, zqP p1), (2, zqP p2), (17, .bool ((decide (p1 < 0)) || (decide (p1 > (p0.length : Int)))))] (And.intro (And.intro rfl rfl) (fun _ => zqO zqB)) fun j => ?_)
 rcases zi hF with ⟨hb4, hF⟩ | ⟨hb4, hF⟩
 ·refine zl (congrArg Value.bool hb4) ?_
  refine zf (za hO [] [(6, .slice none 0 0), (7, zqP 0), (8, zqP 1)] zqB fun j => ?_)
  refine zA ?_
  injection hF with hF
  subst hF
  exact hQ _ _ _ _ _ rfl hO hL ⟨_, rfl, rfl, (RdT.nil _ _)⟩
 ·refine zj (congrArg Value.bool hb4) ?_
  refine zr (zf (zb hO 2 [] [(1, zqP p1), (2, zqP p2), (18, .slice A0 p0.length c0), (19, zqP p1)] zqC fun j => ?_))
  obtain ⟨y5, g6, hF⟩ := bind_some hF
  refine zda (T := Ty.u8) r0 rfl rfl rfl g6 fun _ r7 => ?_
  obtain ⟨A8, c9, rfl, -⟩ := r7.form
  refine za hO [] [(1, zqP p1), (2, zqP p2), (9, .slice A8 y5.length c9)] zqB fun j => ?_
  refine zf (za hO [] [(1, zqP p1), (2, zqP p2), (9, .slice A8 y5.length c9), (24, .bool (decide ((y5.length : Int) ≥ p2)))] zqC fun j => ?_)
  rcases zi hF with ⟨hb10, hF⟩ | ⟨hb10, hF⟩
  ·refine zl (congrArg Value.bool hb10) ?_
   refine zf (zb hO 2 [] [(1, zqP p1), (2, zqP p2), (25, .slice A8 y5.length c9), (26, zqP p2)] zqC fun j => ?_)
   obtain ⟨y11, g12, hF⟩ := bind_some hF
   refine zda (T := Ty.u8) r7 rfl rfl rfl g12 fun _ r13 => ?_
   obtain ⟨A14, c15, rfl, -⟩ := r13.form
   refine za hO [] [(6, .slice A14 y11.length c15), (7, zqP (IntKind.i64.wrap (p1 + p2))), (8, zqP 0)] zqB fun j => ?_
   refine zA ?_
   injection hF with hF
   subst hF
   exact hQ _ _ _ _ _ rfl hO hL ⟨_, rfl, rfl, r13⟩
  ·refine zj (congrArg Value.bool hb10) ?_
   refine zr (za hO [] [(6, .slice none 0 0), (7, zqP 0), (8, zqP 5)] zqB fun j => ?_)
   refine zp ?_
   injection hF with hF
   subst hF
   exact hQ _ _ _ _ _ rfl hO hL ⟨_, rfl, rfl, (RdT.nil _ _)⟩
theorem zf5 {τ : Hp} {v0 : Value} {p0 : (List UInt8)} {p1 : Int} (r0 : RdT Ty.u8 τ v0 p0) {rr : Int × Int × Int} (hF : zcf p0 p1 = some rr) :
  Ctr Tryz.prog 119 #[v0, .int .i64 p1] τ [] (fun v τ' vs' => v = .tuple #[.int .u8 rr.1, .int .i64 rr.2.1, .int .i64 rr.2.2] ∧ vs' = []) := by
 obtain ⟨A0, c0, rfl, -⟩ := r0.form
 refine zw (args := [.slice A0 p0.length c0, .int .i64 p1]) hm Tryz.func119 zn4 rfl fun w0 σ hO Q hQ => ?_
 unfold zcf at hF
 have hL := Hp.le.refl τ
 show wpn _ _ zi2.body _ _ _
 unfold zi2
 dsimp only
 refine za hO [] [(0, .slice A0 p0.length c0), (1, zqP p1)] zqA fun j => ?_
 refine zb hO 2 [] [(9, .slice A0 p0.length c0), (10, zqP p1)] zqA fun j => ?_
 obtain ⟨c3, h4, hF⟩ := bind_some hF
 refine zs hO (zkO r0 h4) rfl fun _ σ _ _ hO h5 h6 => ?_
 have hL := hL.trans h5
 have r0 := r0.le h5
 obtain ⟨v7, rfl, rfl, r10⟩ := h6
 obtain ⟨A8, c9, rfl, -⟩ := r10.form
 have hO : Obs _ _ [] := hO
 refine za hO [] [(5, zqP c3.2.1), (6, zqP c3.2.2), (7, .slice A8 c3.1.length c9)] zqB fun j => ?_
 refine zf (za hO [] [(5, zqP c3.2.1), (6, zqP c3.2.2), (7, .slice A8 c3.1.length c9), (16, .bool (c3.2.2 != 0))] zqC fun j => ?_)
 rcases zi hF with ⟨hb11, hF⟩ | ⟨hb11, hF⟩
 ·refine zl (congrArg Value.bool hb11) ?_
  refine zf (za hO [] [(4, .int .u8 0), (5, zqP 0), (6, zqP c3.2.2)] zqB fun j => ?_)
  refine zA ?_
  injection hF with hF
  subst hF
  exact hQ _ _ _ _ _ rfl hO hL ⟨rfl, rfl⟩
 ·refine zj (congrArg Value.bool hb11) ?_
  refine zr (zb hO 1 [] [(5, zqP c3.2.1), (18, .slice A8 c3.1.length c9)] zqA fun j => ?_)
  obtain ⟨y12, g13, hF⟩ := bind_some hF
  refine zb9 (T := Ty.u8) r10 hO.base rfl rfl g13 (by decide) fun a14 _ k15 m16 => ?_
  obtain rfl : _ = ([.int .u8 y12.toNat] : List Value) := k15
  refine zX rfl (m16.le hO.base).fst ?_
  refine za hO [] [(4, .int .u8 (y12.toNat : Int)), (5, zqP c3.2.1), (6, zqP 0)] zqB fun j => ?_
  refine zp ?_
  injection hF with hF
  subst hF
  exact hQ _ _ _ _ _ rfl hO hL ⟨rfl, rfl⟩
theorem zib {τ : Hp} {p0 : Int}  {rr : Bool} (hF : zcX p0 = some rr) :
  Ctr Tryz.prog 86 #[.int .i64 p0] τ [] (fun v τ' vs' => v = .bool rr ∧ vs' = []) := by
 refine zw (args := [.int .i64 p0]) hm Tryz.func86 s86 rfl fun w0 σ hO Q hQ => ?_
 unfold zcX at hF
 have hL := Hp.le.refl τ
 show wpn _ _ a86.body _ _ _
 unfold a86
 dsimp only
 refine za hO [] [(0, zqP p0)] zqz fun j => ?_
 refine za hO [] [(2, .bool ((decide (p0 ≥ 0)) && (decide (p0 < 16))))] (And.intro (And.intro rfl rfl) (fun _ => zqO trivial)) fun j => ?_
 refine zp ?_
 injection hF with hF
 subst hF
 exact hQ _ _ _ _ _ rfl hO hL ⟨rfl, rfl⟩
theorem zno {τ : Hp} {q0 : zc} {bm0 : Nat}  {rr : Bool × zc} (hF : zhW q0 = some rr) :
  Ctr Tryz.prog 85 #[.pointer (some ⟨bm0, 0, none⟩)] τ [some (bm0, ⟨[.int .u8 q0.Kind.toNat, .int .u8 q0.Op.toNat, .int .i64 q0.R, .int .i64 q0.S, .int .i64 q0.T, .int .i64 q0.N, .int .i64 q0.M], 54, 7, true⟩)] (fun v τ' vs' => v = .bool rr.1 ∧ vs' = [some (bm0, ⟨[.int .u8 rr.2.Kind.toNat, .int .u8 rr.2.Op.toNat, .int .i64 rr.2.R, .int .i64 rr.2.S, .int .i64 rr.2.T, .int .i64 rr.2.N, .int .i64 rr.2.M], 54, 7, true⟩)]) := by
 refine zw (args := [.pointer (some ⟨bm0, 0, none⟩)]) hm Tryz.func85 s85 rfl fun w0 σ hO Q hQ => ?_
 unfold zhW at hF
 have hL := Hp.le.refl τ
 show wpn _ _ a85.body _ _ _
 unfold a85
 dsimp only
 refine za hO [] [(0, zqQ bm0)] zqz fun j => ?_
 refine zb hO 4 [0] [(0, zqQ bm0), (6, zqP q0.R)] (And.intro (And.intro rfl rfl) zqA) fun j => ?_
 obtain ⟨c2, h3, hF⟩ := bind_some hF
 refine zs hO (zib h3) rfl fun _ σ _ _ hO h4 h5 => ?_
 have hL := hL.trans h4
 obtain ⟨rfl, rfl⟩ := h5
 have hO : Obs _ _ [_] := hO
 refine za hO [] [(0, zqQ bm0), (2, .bool c2)] zqA fun j => ?_
 refine zp ?_
 injection hF with hF
 subst hF
 exact hQ _ _ _ _ _ rfl hO hL ⟨rfl, rfl⟩
theorem zpk {τ : Hp} {q0 : zc} {bm0 : Nat}  {rr : Int × zc} (hF : zhJ q0 = some rr) :
  Ctr Tryz.prog 87 #[.pointer (some ⟨bm0, 0, none⟩)] τ [some (bm0, ⟨[.int .u8 q0.Kind.toNat, .int .u8 q0.Op.toNat, .int .i64 q0.R, .int .i64 q0.S, .int .i64 q0.T, .int .i64 q0.N, .int .i64 q0.M], 54, 7, true⟩)] (fun v τ' vs' => v = .int .u8 rr.1 ∧ vs' = [some (bm0, ⟨[.int .u8 rr.2.Kind.toNat, .int .u8 rr.2.Op.toNat, .int .i64 rr.2.R, .int .i64 rr.2.S, .int .i64 rr.2.T, .int .i64 rr.2.N, .int .i64 rr.2.M], 54, 7, true⟩)]) := by
 refine zw (args := [.pointer (some ⟨bm0, 0, none⟩)]) hm Tryz.func87 s87 rfl fun w0 σ hO Q hQ => ?_
 unfold zhJ at hF
 have hL := Hp.le.refl τ
 show wpn _ _ a87.body _ _ _
 unfold a87
 dsimp only
 refine za hO [] [(0, zqQ bm0)] zqz fun j => ?_
 refine za hO [0] [(0, zqQ bm0), (2, .int .u8 (IntKind.u8.wrap q0.R))] (And.intro (And.intro rfl rfl) zqA) fun j => ?_
 refine zp ?_
 injection hF with hF
 subst hF
 exact hQ _ _ _ _ _ rfl hO hL ⟨rfl, rfl⟩
theorem znv {τ : Hp} {q0 : zc} {bm0 : Nat} {p1 : Int}  {rr : zc} (hF : zfy q0 p1 = some rr) :
  Ctr Tryz.prog 88 #[.pointer (some ⟨bm0, 0, none⟩), .int .u8 p1] τ [some (bm0, ⟨[.int .u8 q0.Kind.toNat, .int .u8 q0.Op.toNat, .int .i64 q0.R, .int .i64 q0.S, .int .i64 q0.T, .int .i64 q0.N, .int .i64 q0.M], 54, 7, true⟩)] (fun v τ' vs' => v = .tuple #[] ∧ vs' = [some (bm0, ⟨[.int .u8 rr.Kind.toNat, .int .u8 rr.Op.toNat, .int .i64 rr.R, .int .i64 rr.S, .int .i64 rr.T, .int .i64 rr.N, .int .i64 rr.M], 54, 7, true⟩)]) := by
 refine zfJ (args := [.pointer (some ⟨bm0, 0, none⟩), .int .u8 p1]) hm Tryz.func88 s88 rfl fun w0 σ hO Q hQ => ?_
 unfold zfy at hF
 have hL := Hp.le.refl τ
 show wpn _ _ a88.body _ _ _
 unfold a88
 dsimp only
 refine zQ (zb hO 5 [] [(0, zqQ bm0), (6, zqP (IntKind.i64.wrap p1)), (8, .pointer (some ⟨bm0, 2, none⟩))] zqB fun j => ?_)
 refine zI hO (i := 0) rfl (off := 2) rfl rfl rfl rfl (Nat.le_of_ble_eq_true rfl) rfl fun σ hO => ?_
 have hO : Obs _ _ [_] := hO
 refine zh (zg ?_)
 injection hF with hF
 subst hF
 exact (hQ _ _ _ _ _ rfl hO hL ⟨rfl, rfl⟩).2
theorem zpV {τ : Hp}   {rr : zx} (hF : zjw  = some rr) :
  Ctr Tryz.prog 84 #[.func (.func 85) #[] #[], .func (.func 87) #[] #[], .func (.func 88) #[] #[]] τ [] (fun v τ' vs' => ∃ (f0_0 : Fn) (a0_0 c0_0 : Array Value) (f0_1 : Fn) (a0_1 c0_1 : Array Value) (f0_2 : Fn) (a0_2 c0_2 : Array Value), v = .agg #[.func f0_0 a0_0 c0_0, .func f0_1 a0_1 c0_1, .func f0_2 a0_2 c0_2] ∧ vs' = [] ∧ zbz τ' rr (.func f0_0 a0_0 c0_0) (.func f0_1 a0_1 c0_1) (.func f0_2 a0_2 c0_2)) := by
 refine zw (args := [.func (.func 85) #[] #[], .func (.func 87) #[] #[], .func (.func 88) #[] #[]]) hm Tryz.func84 s84 rfl fun w0 σ hO Q hQ => ?_
 unfold zjw at hF
 have hL := Hp.le.refl τ
 show wpn _ _ a84.body _ _ _
 unfold a84
 dsimp only
 refine zbd (n := 1) hO rfl rfl fun b4 σ hO => ?_
 have hO : Obs _ _ [_] := hO
 refine zbd (n := 1) hO rfl rfl fun b5 σ hO => ?_
 have hO : Obs _ _ [_, _] := hO
 refine zbp hO fun b6 σ hO => ?_
 have hO : Obs _ _ [_, _, _] := hO
 refine zh (zb hO 4 [] [(6, zqQ b6), (10, .agg #[(.func (.func 85) #[] #[]), (.func (.func 117) #[] #[(.pointer (some ⟨b4, 0, none⟩))]), (.func (.func 118) #[] #[(.pointer (some ⟨b5, 0, none⟩))])])] zqA fun j => ?_)
 refine zI hO (i := 2) rfl (off := 0) rfl rfl rfl rfl (Nat.le_of_ble_eq_true rfl) rfl fun σ hO => ?_
 have hO : Obs _ _ [_, _, _] := hO
 refine zh (zp ?_)
 obtain ⟨_, h8, m7, hO⟩ := hO.shareV (i := 0) rfl
 have hL := hL.trans h8
 have hO : Obs _ _ [_, _, _] := hO
 obtain ⟨_, h10, m9, hO⟩ := hO.shareV (i := 1) rfl
 have hL := hL.trans h10
 have m7 := m7.le h10
 have hO : Obs _ _ [_, _, _] := hO
 injection hF with hF
 subst hF
 have hV0 := hO.val (i := 2) rfl (off := 0) (agg := true) (n := 3) rfl
 have hO := hO.sel [] (by decide)
 exact hQ _ _ _ _ _ (zbu rfl (hV0) rfl) hO hL ⟨_, _, _, _, _, _, _, _, _, rfl, rfl, ⟨(⟨b4, 0, none⟩ : Addr), (⟨b5, 0, none⟩ : Addr), rfl, rfl, rfl, m7, m9⟩⟩
theorem ziC {τ : Hp}   {rr : zx} (hF : ze7  = some rr) :
  Ctr Tryz.prog 74 #[] τ [] (fun v τ' vs' => ∃ (f0_0 : Fn) (a0_0 c0_0 : Array Value) (f0_1 : Fn) (a0_1 c0_1 : Array Value) (f0_2 : Fn) (a0_2 c0_2 : Array Value), v = .agg #[.func f0_0 a0_0 c0_0, .func f0_1 a0_1 c0_1, .func f0_2 a0_2 c0_2] ∧ vs' = [] ∧ zbz τ' rr (.func f0_0 a0_0 c0_0) (.func f0_1 a0_1 c0_1) (.func f0_2 a0_2 c0_2)) := by
 refine zw (args := []) hm Tryz.func74 s74 rfl fun w0 σ hO Q hQ => ?_
 unfold ze7 at hF
 have hL := Hp.le.refl τ
 show wpn _ _ a74.body _ _ _
 unfold a74
 dsimp only
 refine zbp hO fun b1 σ hO => ?_
 have hO : Obs _ _ [_] := hO
 refine zh ?_
 obtain ⟨c2, h3, hF⟩ := bind_some hF
 refine zs hO (zpV h3) rfl fun _ σ _ _ hO h4 h5 => ?_
 have hL := hL.trans h4
 obtain ⟨f7, a8, c9, f10, a11, c12, f13, a14, c15, rfl, rfl, r6⟩ := h5
 have hO : Obs _ _ [_] := hO
 refine zI hO (i := 0) rfl (off := 0) rfl rfl rfl rfl (Nat.le_of_ble_eq_true rfl) rfl fun σ hO => ?_
 have hO : Obs _ _ [_] := hO
 refine zh (zp ?_)
 injection hF with hF
 subst hF
 have hV0 := hO.val (i := 0) rfl (off := 0) (agg := true) (n := 3) rfl
 have hO := hO.sel [] (by decide)
 exact hQ _ _ _ _ _ (zbu rfl (hV0) rfl) hO hL ⟨_, _, _, _, _, _, _, _, _, rfl, rfl, r6⟩
theorem zkA {τ : Hp} {v0 : Value} {p0 : (List UInt8)} {p1 : Int} (r0 : RdT Ty.u8 τ v0 p0) {rr : (List UInt8)} (hF : zeE p0 p1 = some rr) :
  Ctr Tryz.prog 90 #[v0, .int .i64 p1] τ [] (fun v τ' vs' => ∃ (v0 : Value) (o0 : Ob), v = v0 ∧ vs' = [o0] ∧ zd Ty.u8 5 τ' v0 rr o0) := by
 obtain ⟨A0, c0, rfl, -⟩ := r0.form
 refine zw (args := [.slice A0 p0.length c0, .int .i64 p1]) hm Tryz.func90 s90 rfl fun w0 σ hO Q hQ => ?_
 unfold zeE at hF
 have hL := Hp.le.refl τ
 show wpn _ _ a90.body _ _ _
 unfold a90
 dsimp only
 refine za hO [] [(0, .slice A0 p0.length c0), (1, zqP p1)] zqA fun j => ?_
 refine zb hO 1 [] [(1, zqP p1), (6, .slice A0 p0.length c0)] zqA fun j => ?_
 obtain ⟨c3, h4, hF⟩ := bind_some hF
 refine zs hO (zgf r0 h4) rfl fun _ σ _ _ hO h5 h6 => ?_
 have hL := hL.trans h5
 have r0 := r0.le h5
 obtain ⟨v7, o10, rfl, rfl, w11⟩ := h6
 obtain ⟨A8, c9, rfl, -⟩ := w11.form
 have hO : Obs _ _ [_] := hO
 refine za hO [] [(1, zqP p1), (5, .slice A8 c3.length c9)] zqA fun j => ?_
 refine zO (zbo (fun (n : Nat) e' σ' => ∃ (x30 : Int) (A31 : Option Addr) (c32 : Nat) (o33 : Ob) (x34 : List UInt8) (τ' : Hp), agr [(1, zqP x30), (5, .slice A31 x34.length c32)] e' ∧ Obs τ' σ' [o33] ∧ Hp.le τ τ' ∧ zd Ty.u8 5 τ' (.slice A31 x34.length c32) x34 o33 ∧ ze3  n x30 x34 = some rr) big ⟨p1, A8, c9, o10, c3, _, zqO zqz, hO, hL, w11, hF⟩ ?_)
 clear hF hO hL
 rintro n49 e σ ⟨x30, A31, c32, o33, x34, _, hA, hO, hL, w35, hF⟩
 rw [← zB _ _ hA]
 cases n49 with
 | zero => exact nomatch (show none = some rr from hF)
 | succ n49 =>
  replace hF : zf0 (ze3  n49) x30 x34 = some rr := hF
  unfold zf0 at hF
  refine zf (za hO [] [(1, zqP x30), (5, .slice A31 x34.length c32), (13, .bool ((decide (x30 > 63)) || (decide (x30 < (-64)))))] (And.intro (And.intro rfl rfl) (fun _ => zqO zqA)) fun j => ?_)
  rcases zi hF with ⟨hb50, hF⟩ | ⟨hb50, hF⟩
  ·refine zl (congrArg Value.bool hb50) ?_
   refine zr (zei (zO (zb hO 4 [] [(1, zqP x30), (14, .slice A31 x34.length c32), (17, .int .u8 (orI .u8 (IntKind.u8.wrap x30) 128))] zqB fun j => ?_)))
   obtain ⟨z51, hz51, hF⟩ := bind_some hF
   obtain ⟨_, hr56, hF⟩ := bind_some hF
   refine zbM (T := Ty.u8) (y := z51) hO w35 (i := 0) rfl rfl (fun _ => rfl) rfl (u8R hz51) rfl hr56 (by decide) fun u _ σ o54 w55 hO => ?_
   obtain ⟨A52, c53, rfl, -⟩ := w55.form
   have hO : Obs _ _ [_] := hO
   refine za hO [] [(1, zqP x30), (5, .slice A52 (x34 ++ [z51]).length c53)] zqA fun j => ?_
   refine zQ (za hO [] [(1, zqP (zbR .i64 x30 7)), (5, .slice A52 (x34 ++ [z51]).length c53)] zqA fun j => ?_)
   refine zg (zK (zn (zg (zn ?_))))
   exact ⟨n49, Nat.lt_succ_self _, (zbR .i64 x30 7), A52, c53, o54, (x34 ++ [z51]), _, zqO zqz, hO, hL, w55, hF⟩
  ·refine zj (congrArg Value.bool hb50) ?_
   refine zbs (zbr (zbn (zn (zb hO 4 [] [(22, .slice A31 x34.length c32), (25, .int .u8 (zcd .u8 (IntKind.u8.wrap x30) 127))] zqA fun j => ?_))))
   obtain ⟨z57, hz57, hF⟩ := bind_some hF
   obtain ⟨_, hr62, hF⟩ := bind_some hF
   refine zbM (T := Ty.u8) (y := z57) hO w35 (i := 0) rfl rfl (fun _ => rfl) rfl (u8R hz57) rfl hr62 (by decide) fun u _ σ o60 w61 hO => ?_
   obtain ⟨A58, c59, rfl, -⟩ := w61.form
   have hO : Obs _ _ [_] := hO
   refine za hO [] [(4, .slice A58 (x34 ++ [z57]).length c59)] zqz fun j => ?_
   refine zp ?_
   injection hF with hF
   subst hF
   exact hQ _ _ _ _ _ rfl hO hL ⟨_, _, rfl, rfl, w61⟩
theorem zkh {τ : Hp} {v0 : Value} {p0 : (List UInt8)} (r0 : RdT Ty.u8 τ v0 p0) {rr : Int × Int} (hF : zgs p0 = some rr) :
  Ctr Tryz.prog 126 #[v0] τ [] (fun v τ' vs' => v = .tuple #[.int .u64 rr.1, .int .i64 rr.2] ∧ vs' = []) := by
 obtain ⟨A0, c0, rfl, -⟩ := r0.form
 refine zw (args := [.slice A0 p0.length c0]) hm Tryz.func126 zm5 rfl fun w0 σ hO Q hQ => ?_
 unfold zgs at hF
 have hL := Hp.le.refl τ
 show wpn _ _ zjl.body _ _ _
 unfold zjl
 dsimp only
 refine za hO [] [(0, .slice A0 p0.length c0), (2, .int .u64 0)] zqA fun j => ?_
 refine zf (za hO [] [(0, .slice A0 p0.length c0), (2, .int .u64 0), (7, zqP (zbO (p0.length : Int) 10)), (8, zqP 0)] zqC fun j => ?_)
 refine zO (zbo (fun (n : Nat) e' σ' => ∃ (x18 : Int) (x19 : Int) (τ' : Hp), agr [(0, .slice A0 p0.length c0), (2, .int .u64 x18), (7, zqP (zbO (p0.length : Int) 10)), (8, zqP x19)] e' ∧ Obs τ' σ' [] ∧ Hp.le τ τ' ∧ RdT Ty.u8 τ' (.slice A0 p0.length c0) p0 ∧ ze0 p0 n x18 x19 = some rr) big ⟨0, 0, _, zqO zqB, hO, hL, r0, hF⟩ ?_)
 clear hF hO hL
 rintro n34 e σ ⟨x18, x19, _, hA, hO, hL, r17, hF⟩
 rw [← zB _ _ hA]
 cases n34 with
 | zero => exact nomatch (show none = some rr from hF)
 | succ n34 =>
  replace hF : zfe (ze0 p0 n34) p0 x18 x19 = some rr := hF
  unfold zfe at hF
  refine za hO [] [(0, .slice A0 p0.length c0), (2, .int .u64 x18), (7, zqP (zbO (p0.length : Int) 10)), (8, zqP x19), (9, .bool (decide (x19 < (zbO (p0.length : Int) 10))))] zqD fun j => ?_
  rcases zi hF with ⟨hb35, hF⟩ | ⟨hb35, hF⟩
  ·refine zl (congrArg Value.bool hb35) ?_
   refine zr (zO (za hO [] [(0, .slice A0 p0.length c0), (2, .int .u64 x18), (4, zqP x19), (7, zqP (zbO (p0.length : Int) 10)), (8, zqP x19)] zqD fun j => ?_))
   refine zb hO 3 [] [(0, .slice A0 p0.length c0), (4, zqP x19), (7, zqP (zbO (p0.length : Int) 10)), (8, zqP x19), (11, .int .u64 x18), (12, .slice A0 p0.length c0), (13, zqP x19)] zqF fun j => ?_
   obtain ⟨y36, g37, hF⟩ := bind_some hF
   refine zb9 (T := Ty.u8) r17 hO.base rfl rfl g37 (by decide) fun a38 _ k39 m40 => ?_
   obtain rfl : _ = ([.int .u8 y36.toNat] : List Value) := k39
   refine zX rfl (m40.le hO.base).fst ?_
   refine zb hO 4 [] [(0, .slice A0 p0.length c0), (4, zqP x19), (7, zqP (zbO (p0.length : Int) 10)), (8, zqP x19), (11, .int .u64 x18), (17, .int .u64 (IntKind.u64.wrap (zcd .u8 (y36.toNat : Int) 127))), (19, zqP (IntKind.i64.wrap (7 * x19)))] zqF fun j => ?_
   obtain ⟨y41, g42, hF⟩ := bind_some hF
   refine zcW (zgz g42) ?_
   refine za hO [] [(0, .slice A0 p0.length c0), (2, .int .u64 (orI .u64 x18 y41)), (4, zqP x19), (7, zqP (zbO (p0.length : Int) 10)), (8, zqP x19)] zqD fun j => ?_
   refine zb hO 2 [] [(0, .slice A0 p0.length c0), (2, .int .u64 (orI .u64 x18 y41)), (4, zqP x19), (7, zqP (zbO (p0.length : Int) 10)), (8, zqP x19), (22, .slice A0 p0.length c0), (23, zqP x19)] zqF fun j => ?_
   obtain ⟨y43, g44, hF⟩ := bind_some hF
   refine zb9 (T := Ty.u8) r17 hO.base rfl rfl g44 (by decide) fun a45 _ k46 m47 => ?_
   obtain rfl : _ = ([.int .u8 y43.toNat] : List Value) := k46
   refine zX rfl (m47.le hO.base).fst ?_
   refine za hO [] [(0, .slice A0 p0.length c0), (2, .int .u64 (orI .u64 x18 y41)), (4, zqP x19), (7, zqP (zbO (p0.length : Int) 10)), (8, zqP x19), (26, .bool (decide ((y43.toNat : Int) < 128)))] zqE fun j => ?_
   refine z8 ?_
   rcases zi hF with ⟨hb48, hF⟩ | ⟨hb48, hF⟩
   ·refine zl (congrArg Value.bool hb48) ?_
    refine zf (za hO [] [(2, .int .u64 (orI .u64 x18 y41)), (3, zqP (IntKind.i64.wrap (x19 + 1)))] zqA fun j => ?_)
    refine zA (zR (zJ (zJ (zR (zJ ?_)))))
    injection hF with hF
    subst hF
    exact hQ _ _ _ _ _ rfl hO hL ⟨rfl, rfl⟩
   ·refine zj (congrArg Value.bool hb48) ?_
    refine zr (zg (zK (zn (zQ (za hO [] [(0, .slice A0 p0.length c0), (2, .int .u64 (orI .u64 x18 y41)), (7, zqP (zbO (p0.length : Int) 10)), (8, zqP (IntKind.i64.wrap (x19 + 1)))] zqC fun j => ?_)))))
    refine zg (zn ?_)
    exact ⟨n34, Nat.lt_succ_self _, (orI .u64 x18 y41), (IntKind.i64.wrap (x19 + 1)), _, zqO zqB, hO, hL, r17, hF⟩
  ·refine zj (congrArg Value.bool hb35) ?_
   refine zbs (zbr (zbn (zn (za hO [] [(2, .int .u64 0), (3, zqP 0)] zqA fun j => ?_))))
   refine zp ?_
   injection hF with hF
   subst hF
   exact hQ _ _ _ _ _ rfl hO hL ⟨rfl, rfl⟩
theorem zk9 {τ : Hp} {v0 : Value} {p0 : (List UInt8)} {v1 : Value} {p1 : (List UInt8)} (r0 : RdT Ty.u8 τ v0 p0) (r1 : RdT Ty.u8 τ v1 p1) {rr : Bool} (hF : zeG p0 p1 = some rr) :
  Ctr Tryz.prog 127 #[v0, v1] τ [] (fun v τ' vs' => v = .bool rr ∧ vs' = []) := by
 obtain ⟨A0, c0, rfl, -⟩ := r0.form
 obtain ⟨A1, c1, rfl, -⟩ := r1.form
 refine zw (args := [.slice A0 p0.length c0, .slice A1 p1.length c1]) hm Tryz.func127 znU rfl fun w0 σ hO Q hQ => ?_
 unfold zeG at hF
 have hL := Hp.le.refl τ
 show wpn _ _ zjO.body _ _ _
 unfold zjO
 dsimp only
 refine za hO [] [(0, .slice A0 p0.length c0), (1, .slice A1 p1.length c1)] zqA fun j => ?_
 refine zf (za hO [] [(0, .slice A0 p0.length c0), (1, .slice A1 p1.length c1), (10, .bool ((p0.length : Int) != (p1.length : Int)))] zqB fun j => ?_)
 rcases zi hF with ⟨hb3, hF⟩ | ⟨hb3, hF⟩
 ·refine zl (congrArg Value.bool hb3) ?_
  refine zf (za hO [] [(4, .bool false)] zqz fun j => ?_)
  refine zA ?_
  injection hF with hF
  subst hF
  exact hQ _ _ _ _ _ rfl hO hL ⟨rfl, rfl⟩
 ·refine zj (congrArg Value.bool hb3) ?_
  refine zr (zf (za hO [] [(0, .slice A0 p0.length c0), (1, .slice A1 p1.length c1), (12, zqP (p0.length : Int)), (13, zqP 0)] zqC fun j => ?_))
  refine zO (zbo (fun (n : Nat) e' σ' => ∃ (x20 : Int) (τ' : Hp), agr [(0, .slice A0 p0.length c0), (1, .slice A1 p1.length c1), (12, zqP (p0.length : Int)), (13, zqP x20)] e' ∧ Obs τ' σ' [] ∧ Hp.le τ τ' ∧ RdT Ty.u8 τ' (.slice A0 p0.length c0) p0 ∧ RdT Ty.u8 τ' (.slice A1 p1.length c1) p1 ∧ zgt p0 p1 n x20 = some rr) big ⟨0, _, zqO zqB, hO, hL, r0, r1, hF⟩ ?_)
  clear hF hO hL
  rintro n33 e σ ⟨x20, _, hA, hO, hL, r18, r19, hF⟩
  rw [← zB _ _ hA]
  cases n33 with
  | zero => exact nomatch (show none = some rr from hF)
  | succ n33 =>
   replace hF : zfK (zgt p0 p1 n33) p0 p1 x20 = some rr := hF
   unfold zfK at hF
   refine za hO [] [(0, .slice A0 p0.length c0), (1, .slice A1 p1.length c1), (12, zqP (p0.length : Int)), (13, zqP x20), (14, .bool (decide (x20 < (p0.length : Int))))] zqD fun j => ?_
   rcases zi hF with ⟨hb34, hF⟩ | ⟨hb34, hF⟩
   ·refine zl (congrArg Value.bool hb34) ?_
    refine zr (zO (za hO [] [(0, .slice A0 p0.length c0), (1, .slice A1 p1.length c1), (5, zqP x20), (12, zqP (p0.length : Int)), (13, zqP x20)] zqD fun j => ?_))
    refine zbK (zb hO 2 [] [(0, .slice A0 p0.length c0), (1, .slice A1 p1.length c1), (5, zqP x20), (12, zqP (p0.length : Int)), (13, zqP x20), (16, .slice A0 p0.length c0), (17, zqP x20)] zqF fun j => ?_)
    obtain ⟨y35, g36, hF⟩ := bind_some hF
    refine zb9 (T := Ty.u8) r18 hO.base rfl rfl g36 (by decide) fun a37 _ k38 m39 => ?_
    obtain rfl : _ = ([.int .u8 y35.toNat] : List Value) := k38
    refine zX rfl (m39.le hO.base).fst ?_
    refine zb hO 2 [] [(0, .slice A0 p0.length c0), (1, .slice A1 p1.length c1), (12, zqP (p0.length : Int)), (13, zqP x20), (19, .int .u8 (y35.toNat : Int)), (20, .slice A1 p1.length c1), (21, zqP x20)] zqF fun j => ?_
    obtain ⟨y40, g41, hF⟩ := bind_some hF
    refine zb9 (T := Ty.u8) r19 hO.base rfl rfl g41 (by decide) fun a42 _ k43 m44 => ?_
    obtain rfl : _ = ([.int .u8 y40.toNat] : List Value) := k43
    refine zX rfl (m44.le hO.base).fst ?_
    refine za hO [] [(0, .slice A0 p0.length c0), (1, .slice A1 p1.length c1), (12, zqP (p0.length : Int)), (13, zqP x20), (24, .bool ((y35.toNat : Int) != (y40.toNat : Int)))] zqD fun j => ?_
    refine z8 ?_
    rcases zi hF with ⟨hb45, hF⟩ | ⟨hb45, hF⟩
    ·refine zl (congrArg Value.bool hb45) ?_
     refine zf (za hO [] [(4, .bool false)] zqz fun j => ?_)
     refine zA (zR (zJ (zJ (zR (zJ ?_)))))
     injection hF with hF
     subst hF
     exact hQ _ _ _ _ _ rfl hO hL ⟨rfl, rfl⟩
    ·refine zj (congrArg Value.bool hb45) ?_
     refine zr (zg (zK (zn (zQ (za hO [] [(0, .slice A0 p0.length c0), (1, .slice A1 p1.length c1), (12, zqP (p0.length : Int)), (13, zqP (IntKind.i64.wrap (x20 + 1)))] zqC fun j => ?_)))))
     refine zg (zn ?_)
     exact ⟨n33, Nat.lt_succ_self _, (IntKind.i64.wrap (x20 + 1)), _, zqO zqB, hO, hL, r18, r19, hF⟩
   ·refine zj (congrArg Value.bool hb34) ?_
    refine zbs (zbr (zbn (zn (za hO [] [(4, .bool true)] zqz fun j => ?_))))
    refine zp ?_
    injection hF with hF
    subst hF
    exact hQ _ _ _ _ _ rfl hO hL ⟨rfl, rfl⟩
theorem zom {τ : Hp} {p0 : Int} {p1 : Int}  {rr : Int} (hF : ze5 p0 p1 = some rr) :
  Ctr Tryz.prog 121 #[.int .u64 p0, .int .i64 p1] τ [] (fun v τ' vs' => v = .int .i64 rr ∧ vs' = []) := by
 refine zw (args := [.int .u64 p0, .int .i64 p1]) hm Tryz.func121 znq rfl fun w0 σ hO Q hQ => ?_
 unfold ze5 at hF
 have hL := Hp.le.refl τ
 show wpn _ _ zjg.body _ _ _
 unfold zjg
 dsimp only
 refine za hO [] [(0, .int .u64 p0), (1, zqP p1)] zqA fun j => ?_
 refine za hO [] [(0, .int .u64 p0), (5, zqP (zbg 0 (IntKind.i64.wrap (64 - (IntKind.i64.wrap (7 * p1))))))] zqA fun j => ?_
 refine zb hO 2 [] [(5, zqP (zbg 0 (IntKind.i64.wrap (64 - (IntKind.i64.wrap (7 * p1)))))), (10, .int .u64 p0), (11, zqP (zbg 0 (IntKind.i64.wrap (64 - (IntKind.i64.wrap (7 * p1))))))] zqB fun j => ?_
 obtain ⟨y3, g4, hF⟩ := bind_some hF
 refine zcW (zgz g4) ?_
 refine zb hO 2 [] [(13, zqP (IntKind.i64.wrap y3)), (14, zqP (zbg 0 (IntKind.i64.wrap (64 - (IntKind.i64.wrap (7 * p1))))))] zqA fun j => ?_
 obtain ⟨y5, g6, hF⟩ := bind_some hF
 refine zcW (zlR g6) ?_
 refine za hO [] [(4, zqP y5)] zqz fun j => ?_
 refine zp ?_
 injection hF with hF
 subst hF
 exact hQ _ _ _ _ _ rfl hO hL ⟨rfl, rfl⟩
theorem zoA {τ : Hp} {v0 : Value} {p0 : (List UInt8)} {p1 : Int} (r0 : RdT Ty.u8 τ v0 p0) {rr : Int × Int × Int} (hF : zhg p0 p1 = some rr) :
  Ctr Tryz.prog 120 #[v0, .int .i64 p1, .func (.func 121) #[] #[], .func (.func 90) #[] #[]] τ [] (fun v τ' vs' => v = .tuple #[.int .i64 rr.1, .int .i64 rr.2.1, .int .i64 rr.2.2] ∧ vs' = []) := by
 obtain ⟨A0, c0, rfl, -⟩ := r0.form
 refine zw (args := [.slice A0 p0.length c0, .int .i64 p1, .func (.func 121) #[] #[], .func (.func 90) #[] #[]]) hm Tryz.func120 zpX rfl fun w0 σ hO Q hQ => ?_
 unfold zhg at hF
 have hL := Hp.le.refl τ
 show wpn _ _ zjt.body _ _ _
 unfold zjt
 dsimp only
 refine za hO [] [(0, .slice A0 p0.length c0), (1, zqP p1), (2, .func (.func 121) #[] #[]), (3, .func (.func 90) #[] #[])] zqC fun j => ?_
 refine zf (za hO [] [(0, .slice A0 p0.length c0), (1, zqP p1), (2, .func (.func 121) #[] #[]), (3, .func (.func 90) #[] #[]), (21, .bool ((decide (p1 < 0)) || (decide (p1 > (p0.length : Int)))))] (And.intro (And.intro rfl rfl) (fun _ => zqO zqC)) fun j => ?_)
 rcases zi hF with ⟨hb5, hF⟩ | ⟨hb5, hF⟩
 ·refine zl (congrArg Value.bool hb5) ?_
  refine zf (za hO [] [(8, zqP 0), (9, zqP 0), (10, zqP 1)] zqB fun j => ?_)
  refine zA ?_
  injection hF with hF
  subst hF
  exact hQ _ _ _ _ _ rfl hO hL ⟨rfl, rfl⟩
 ·refine zj (congrArg Value.bool hb5) ?_
  refine zr (zb hO 2 [] [(0, .slice A0 p0.length c0), (1, zqP p1), (2, .func (.func 121) #[] #[]), (3, .func (.func 90) #[] #[]), (23, .slice A0 p0.length c0), (24, zqP p1)] zqE fun j => ?_)
  obtain ⟨y6, g7, hF⟩ := bind_some hF
  refine zda (T := Ty.u8) r0 rfl rfl rfl g7 fun _ r8 => ?_
  obtain ⟨A9, c10, rfl, -⟩ := r8.form
  obtain ⟨c11, h12, hF⟩ := bind_some hF
  refine zs hO (zkh r8 h12) rfl fun _ σ _ _ hO h13 h14 => ?_
  have hL := hL.trans h13
  have r0 := r0.le h13
  have r8 := r8.le h13
  obtain ⟨rfl, rfl⟩ := h14
  have hO : Obs _ _ [] := hO
  refine za hO [] [(0, .slice A0 p0.length c0), (1, zqP p1), (2, .func (.func 121) #[] #[]), (3, .func (.func 90) #[] #[]), (11, .int .u64 c11.1), (12, zqP c11.2)] zqE fun j => ?_
  refine zb hO 3 [] [(0, .slice A0 p0.length c0), (1, zqP p1), (3, .func (.func 90) #[] #[]), (12, zqP c11.2), (29, .func (.func 121) #[] #[]), (30, .int .u64 c11.1), (31, zqP c11.2)] zqF fun j => ?_
  obtain ⟨c15, h16, hF⟩ := bind_some hF
  refine zho rfl (by kernel_rfl) hO (zom h16) rfl fun _ σ _ _ hO h17 h18 => ?_
  have hL := hL.trans h17
  have r0 := r0.le h17
  obtain ⟨rfl, rfl⟩ := h18
  have hO : Obs _ _ [] := hO
  refine za hO [] [(0, .slice A0 p0.length c0), (1, zqP p1), (3, .func (.func 90) #[] #[]), (12, zqP c11.2), (13, zqP c15)] zqD fun j => ?_
  refine zf (zbK (zb hO 3 [] [(0, .slice A0 p0.length c0), (1, zqP p1), (3, .func (.func 90) #[] #[]), (12, zqP c11.2), (13, zqP c15), (35, .bool (c11.2 == 0))] zqE fun j => ?_))
  obtain ⟨c19, h20, hF⟩ := bind_some hF
  refine zbG 2 (fun e' σ' => ∃ (τ' : Hp), agr [(47, .bool c19), (1, zqP p1), (12, zqP c11.2), (13, zqP c15)] e' ∧ Obs τ' σ' [] ∧ Hp.le τ τ') ?_ ?_
  ·have hF := h20
   rcases zi hF with ⟨hb21, hF⟩ | ⟨hb21, hF⟩
   ·refine zM (congrArg (fun x => isB (.bool x) false) hb21) ?_
    refine zz (congrArg Value.bool hb21) ?_
    refine zh ?_
    injection hF with hF
    subst hF
    refine zg ?_
    exact ⟨rfl, _, zqO zqB, hO, hL⟩
   ·refine zE (congrArg (fun x => isB (.bool x) false) hb21) ?_
    refine zb hO 7 [] [(1, zqP p1), (12, zqP c11.2), (13, zqP c15), (35, .bool (c11.2 == 0)), (36, .func (.func 90) #[] #[]), (37, zqP c15), (39, .slice A0 p0.length c0), (40, zqP p1), (43, zqP (IntKind.i64.wrap (p1 + c11.2)))] zqH fun j => ?_
    obtain ⟨y22, g23, hF⟩ := bind_some hF
    refine zda (T := Ty.u8) r0 rfl rfl rfl g23 fun _ r24 => ?_
    obtain ⟨A25, c26, rfl, -⟩ := r24.form
    obtain ⟨c27, h28, hF⟩ := bind_some hF
    refine zho rfl (by kernel_rfl) hO (zkA (RdT.nil Ty.u8 _) h28) rfl fun _ σ _ _ hO h29 h30 => ?_
    have hL := hL.trans h29
    have r0 := r0.le h29
    have r24 := r24.le h29
    obtain ⟨v31, o34, rfl, rfl, w35⟩ := h30
    obtain ⟨A32, c33, rfl, -⟩ := w35.form
    have hO : Obs _ _ [_] := hO
    obtain ⟨_, h37, r36, hO⟩ := w35.share hO (i := 0) rfl
    have hL := hL.trans h37
    have r0 := r0.le h37
    have r24 := r24.le h37
    have hO : Obs _ _ [_] := hO
    obtain ⟨c38, h39, hF⟩ := bind_some hF
    refine zs hO (zk9 r36 r24 h39) rfl fun _ σ _ _ hO h40 h41 => ?_
    have hL := hL.trans h40
    have r36 := r36.le h40
    have r0 := r0.le h40
    have r24 := r24.le h40
    obtain ⟨rfl, rfl⟩ := h41
    have hO : Obs _ _ [_] := hO
    refine zb hO 1 [] [(1, zqP p1), (12, zqP c11.2), (13, zqP c15), (35, .bool (c11.2 == 0)), (46, .bool (!c38))] zqD fun j => ?_
    refine zz (congrArg Value.bool hb21) ?_
    refine zh ?_
    injection hF with hF
    subst hF
    refine zg ?_
    have hO := hO.sel [] (by decide)
    exact ⟨rfl, _, zqO zqB, hO, hL⟩
  ·rintro e σ ⟨_, hA, hO, hL⟩
   rw [← zB _ _ hA]
   refine zh ?_
   rcases zi hF with ⟨hb42, hF⟩ | ⟨hb42, hF⟩
   ·refine zl (congrArg Value.bool hb42) ?_
    refine zf (za hO [] [(8, zqP 0), (9, zqP 0), (10, zqP 5)] zqB fun j => ?_)
    refine zA ?_
    injection hF with hF
    subst hF
    exact hQ _ _ _ _ _ rfl hO hL ⟨rfl, rfl⟩
   ·refine zj (congrArg Value.bool hb42) ?_
    refine zr (za hO [] [(8, zqP c15), (9, zqP (IntKind.i64.wrap (p1 + c11.2))), (10, zqP 0)] zqB fun j => ?_)
    refine zp ?_
    injection hF with hF
    subst hF
    exact hQ _ _ _ _ _ rfl hO hL ⟨rfl, rfl⟩
theorem zpd {τ : Hp} {v0 : Value} {p0 : (List UInt8)} {p1 : Int} (r0 : RdT Ty.u8 τ v0 p0) {rr : Int × Int × Int} (hF : zgh p0 p1 = some rr) :
  Ctr Tryz.prog 92 #[v0, .int .i64 p1] τ [] (fun v τ' vs' => v = .tuple #[.int .i64 rr.1, .int .i64 rr.2.1, .int .i64 rr.2.2] ∧ vs' = []) := by
 obtain ⟨A0, c0, rfl, -⟩ := r0.form
 refine zw (args := [.slice A0 p0.length c0, .int .i64 p1]) hm Tryz.func92 s92 rfl fun w0 σ hO Q hQ => ?_
 unfold zgh at hF
 have hL := Hp.le.refl τ
 show wpn _ _ a92.body _ _ _
 unfold a92
 dsimp only
 refine za hO [] [(0, .slice A0 p0.length c0), (1, zqP p1)] zqA fun j => ?_
 refine zb hO 2 [] [(7, .slice A0 p0.length c0), (8, zqP p1)] zqA fun j => ?_
 obtain ⟨c3, h4, hF⟩ := bind_some hF
 refine zs hO (zoA r0 h4) rfl fun _ σ _ _ hO h5 h6 => ?_
 have hL := hL.trans h5
 have r0 := r0.le h5
 obtain ⟨rfl, rfl⟩ := h6
 have hO : Obs _ _ [] := hO
 refine za hO [] [(4, zqP c3.1), (5, zqP c3.2.1), (6, zqP c3.2.2)] zqB fun j => ?_
 refine zp ?_
 injection hF with hF
 subst hF
 exact hQ _ _ _ _ _ rfl hO hL ⟨rfl, rfl⟩
theorem zlV {τ : Hp} {v0 : Value} {p0 : (List UInt8)} {p1 : Int} {q2 : zc} {bm2 : Nat} (r0 : RdT Ty.u8 τ v0 p0) {rr : Int × Bool × zc} (hF : zdq p0 p1 q2 = some rr) :
  Ctr Tryz.prog 91 #[v0, .int .i64 p1, .pointer (some ⟨bm2, 0, none⟩)] τ [some (bm2, ⟨[.int .u8 q2.Kind.toNat, .int .u8 q2.Op.toNat, .int .i64 q2.R, .int .i64 q2.S, .int .i64 q2.T, .int .i64 q2.N, .int .i64 q2.M], 54, 7, true⟩)] (fun v τ' vs' => v = .tuple #[.int .i64 rr.1, .bool rr.2.1] ∧ vs' = [some (bm2, ⟨[.int .u8 rr.2.2.Kind.toNat, .int .u8 rr.2.2.Op.toNat, .int .i64 rr.2.2.R, .int .i64 rr.2.2.S, .int .i64 rr.2.2.T, .int .i64 rr.2.2.N, .int .i64 rr.2.2.M], 54, 7, true⟩)]) := by
 obtain ⟨A0, c0, rfl, -⟩ := r0.form
 refine zw (args := [.slice A0 p0.length c0, .int .i64 p1, .pointer (some ⟨bm2, 0, none⟩)]) hm Tryz.func91 s91 rfl fun w0 σ hO Q hQ => ?_
 unfold zdq at hF
 have hL := Hp.le.refl τ
 show wpn _ _ a91.body _ _ _
 unfold a91
 dsimp only
 refine za hO [] [(0, .slice A0 p0.length c0), (1, zqP p1), (2, zqQ bm2)] zqB fun j => ?_
 refine zb hO 2 [] [(2, zqQ bm2), (12, .slice A0 p0.length c0), (13, zqP p1)] zqB fun j => ?_
 obtain ⟨c4, h5, hF⟩ := bind_some hF
 refine zs hO (zpd r0 h5) rfl fun _ σ _ _ hO h6 h7 => ?_
 have hL := hL.trans h6
 have r0 := r0.le h6
 obtain ⟨rfl, rfl⟩ := h7
 have hO : Obs _ _ [_] := hO
 refine za hO [] [(2, zqQ bm2), (8, zqP c4.1), (9, zqP c4.2.1), (10, zqP c4.2.2)] zqC fun j => ?_
 refine zb hO 4 [] [(2, zqQ bm2), (9, zqP c4.2.1), (10, zqP c4.2.2), (19, zqP c4.1), (21, .pointer (some ⟨bm2, 5, none⟩))] zqD fun j => ?_
 refine zI hO (i := 0) rfl (off := 5) rfl rfl rfl rfl (Nat.le_of_ble_eq_true rfl) rfl fun σ hO => ?_
 have hO : Obs _ _ [_] := hO
 refine zh (za hO [] [(2, zqQ bm2), (6, zqP c4.2.1), (7, .bool (c4.2.2 == 0))] zqB fun j => ?_)
 refine zp ?_
 injection hF with hF
 subst hF
 exact hQ _ _ _ _ _ rfl hO hL ⟨rfl, rfl⟩
theorem znb {τ : Hp} {q0 : zc} {bm0 : Nat}  {rr : Bool × zc} (hF : zhm q0 = some rr) :
  Ctr Tryz.prog 93 #[.pointer (some ⟨bm0, 0, none⟩)] τ [some (bm0, ⟨[.int .u8 q0.Kind.toNat, .int .u8 q0.Op.toNat, .int .i64 q0.R, .int .i64 q0.S, .int .i64 q0.T, .int .i64 q0.N, .int .i64 q0.M], 54, 7, true⟩)] (fun v τ' vs' => v = .bool rr.1 ∧ vs' = [some (bm0, ⟨[.int .u8 rr.2.Kind.toNat, .int .u8 rr.2.Op.toNat, .int .i64 rr.2.R, .int .i64 rr.2.S, .int .i64 rr.2.T, .int .i64 rr.2.N, .int .i64 rr.2.M], 54, 7, true⟩)]) := by
 refine zw (args := [.pointer (some ⟨bm0, 0, none⟩)]) hm Tryz.func93 s93 rfl fun w0 σ hO Q hQ => ?_
 unfold zhm at hF
 have hL := Hp.le.refl τ
 show wpn _ _ a93.body _ _ _
 unfold a93
 dsimp only
 refine za hO [] [(0, zqQ bm0)] zqz fun j => ?_
 refine zb hO 4 [0] [(0, zqQ bm0), (6, zqP q0.R)] (And.intro (And.intro rfl rfl) zqA) fun j => ?_
 obtain ⟨c2, h3, hF⟩ := bind_some hF
 refine zs hO (zib h3) rfl fun _ σ _ _ hO h4 h5 => ?_
 have hL := hL.trans h4
 obtain ⟨rfl, rfl⟩ := h5
 have hO : Obs _ _ [_] := hO
 refine zb hO 1 [] [(0, zqQ bm0), (8, .bool c2)] zqA fun j => ?_
 obtain ⟨c6, h7, hF⟩ := bind_some hF
 refine zbG 2 (fun e' σ' => ∃ (τ' : Hp), agr [(14, .bool c6), (0, zqQ bm0)] e' ∧ Obs τ' σ' [some (bm0, ⟨[.int .u8 (q0.Kind.toNat : Int), .int .u8 (q0.Op.toNat : Int), .int .i64 q0.R, .int .i64 q0.S, .int .i64 q0.T, .int .i64 q0.N, .int .i64 q0.M], 54, 7, true⟩)] ∧ Hp.le τ τ') ?_ ?_
 ·have hF := h7
  rcases zi hF with ⟨hb8, hF⟩ | ⟨hb8, hF⟩
  ·refine zE (congrArg (fun x => isB (.bool x) true) hb8) ?_
   refine zb hO 4 [0] [(0, zqQ bm0), (8, .bool c2), (12, zqP q0.S)] (And.intro (And.intro rfl rfl) zqB) fun j => ?_
   obtain ⟨c9, h10, hF⟩ := bind_some hF
   refine zs hO (zib h10) rfl fun _ σ _ _ hO h11 h12 => ?_
   have hL := hL.trans h11
   obtain ⟨rfl, rfl⟩ := h12
   have hO : Obs _ _ [_] := hO
   refine zz (congrArg Value.bool hb8) ?_
   refine zh ?_
   injection hF with hF
   subst hF
   refine zg ?_
   exact ⟨rfl, _, zqO zqz, hO, hL⟩
  ·refine zM (congrArg (fun x => isB (.bool x) true) hb8) ?_
   refine zz (congrArg Value.bool hb8) ?_
   refine zh ?_
   injection hF with hF
   subst hF
   refine zg ?_
   exact ⟨rfl, _, zqO zqz, hO, hL⟩
 ·rintro e σ ⟨_, hA, hO, hL⟩
  rw [← zB _ _ hA]
  refine za hO [] [(0, zqQ bm0), (2, .bool c6)] zqA fun j => ?_
  refine zp ?_
  injection hF with hF
  subst hF
  exact hQ _ _ _ _ _ rfl hO hL ⟨rfl, rfl⟩
theorem zps {τ : Hp} {p0 : Int} {p1 : Int}  {rr : Int × Bool} (hF : zfq p0 p1 = some rr) :
  Ctr Tryz.prog 95 #[.int .i64 p0, .int .i64 p1] τ [] (fun v τ' vs' => v = .tuple #[.int .u8 rr.1, .bool rr.2] ∧ vs' = []) := by
 refine zw (args := [.int .i64 p0, .int .i64 p1]) hm Tryz.func95 s95 rfl fun w0 σ hO Q hQ => ?_
 unfold zfq at hF
 have hL := Hp.le.refl τ
 show wpn _ _ a95.body _ _ _
 unfold a95
 dsimp only
 refine za hO [] [(0, zqP p0), (1, zqP p1)] zqA fun j => ?_
 refine zf (za hO [] [(0, zqP p0), (1, zqP p1), (19, .bool ((((decide (p0 < 0)) || (decide (p0 ≥ 16))) || (decide (p1 < 0))) || (decide (p1 ≥ 16))))] (And.intro (And.intro rfl rfl) (fun _ => And.intro (And.intro rfl rfl) (fun _ => And.intro (And.intro rfl rfl) (fun _ => zqO zqA)))) fun j => ?_)
 rcases zi hF with ⟨hb3, hF⟩ | ⟨hb3, hF⟩
 ·refine zl (congrArg Value.bool hb3) ?_
  refine zf (za hO [] [(4, .int .u8 0), (5, .bool false)] zqA fun j => ?_)
  refine zA ?_
  injection hF with hF
  subst hF
  exact hQ _ _ _ _ _ rfl hO hL ⟨rfl, rfl⟩
 ·refine zj (congrArg Value.bool hb3) ?_
  refine zr (za hO [] [(4, .int .u8 (IntKind.u8.wrap (orI .i64 (zbZ .i64 p0 4) p1))), (5, .bool true)] zqA fun j => ?_)
  refine zp ?_
  injection hF with hF
  subst hF
  exact hQ _ _ _ _ _ rfl hO hL ⟨rfl, rfl⟩
theorem zqk {τ : Hp} {q0 : zc} {bm0 : Nat}  {rr : Int × zc} (hF : zgU q0 = some rr) :
  Ctr Tryz.prog 94 #[.pointer (some ⟨bm0, 0, none⟩)] τ [some (bm0, ⟨[.int .u8 q0.Kind.toNat, .int .u8 q0.Op.toNat, .int .i64 q0.R, .int .i64 q0.S, .int .i64 q0.T, .int .i64 q0.N, .int .i64 q0.M], 54, 7, true⟩)] (fun v τ' vs' => v = .int .u8 rr.1 ∧ vs' = [some (bm0, ⟨[.int .u8 rr.2.Kind.toNat, .int .u8 rr.2.Op.toNat, .int .i64 rr.2.R, .int .i64 rr.2.S, .int .i64 rr.2.T, .int .i64 rr.2.N, .int .i64 rr.2.M], 54, 7, true⟩)]) := by
 refine zw (args := [.pointer (some ⟨bm0, 0, none⟩)]) hm Tryz.func94 s94 rfl fun w0 σ hO Q hQ => ?_
 unfold zgU at hF
 have hL := Hp.le.refl τ
 show wpn _ _ a94.body _ _ _
 unfold a94
 dsimp only
 refine za hO [] [(0, zqQ bm0)] zqz fun j => ?_
 refine zbK (zb hO 8 [0, 0] [(0, zqQ bm0), (9, zqP q0.R), (13, zqP q0.S)] (And.intro (And.intro rfl rfl) (And.intro (And.intro rfl rfl) zqB)) fun j => ?_)
 obtain ⟨c2, h3, hF⟩ := bind_some hF
 refine zs hO (zps h3) rfl fun _ σ _ _ hO h4 h5 => ?_
 have hL := hL.trans h4
 obtain ⟨rfl, rfl⟩ := h5
 have hO : Obs _ _ [_] := hO
 refine za hO [] [(0, zqQ bm0), (3, .int .u8 c2.1)] zqA fun j => ?_
 refine za hO [] [(0, zqQ bm0), (2, .int .u8 c2.1)] zqA fun j => ?_
 refine zp ?_
 injection hF with hF
 subst hF
 exact hQ _ _ _ _ _ rfl hO hL ⟨rfl, rfl⟩
theorem zpZ {τ : Hp} {p0 : Int}  {rr : Int × Int} (hF : zgu p0 = some rr) :
  Ctr Tryz.prog 97 #[.int .u8 p0] τ [] (fun v τ' vs' => v = .tuple #[.int .i64 rr.1, .int .i64 rr.2] ∧ vs' = []) := by
 refine zw (args := [.int .u8 p0]) hm Tryz.func97 s97 rfl fun w0 σ hO Q hQ => ?_
 unfold zgu at hF
 have hL := Hp.le.refl τ
 show wpn _ _ a97.body _ _ _
 unfold a97
 dsimp only
 refine za hO [] [(0, .int .u8 p0)] zqz fun j => ?_
 refine za hO [] [(2, zqP (IntKind.i64.wrap (zbR .u8 p0 4))), (3, zqP (IntKind.i64.wrap (zcd .u8 p0 15)))] zqA fun j => ?_
 refine zp ?_
 injection hF with hF
 subst hF
 exact hQ _ _ _ _ _ rfl hO hL ⟨rfl, rfl⟩
theorem zms {τ : Hp} {q0 : zc} {bm0 : Nat} {p1 : Int}  {rr : zc} (hF : zfr q0 p1 = some rr) :
  Ctr Tryz.prog 96 #[.pointer (some ⟨bm0, 0, none⟩), .int .u8 p1] τ [some (bm0, ⟨[.int .u8 q0.Kind.toNat, .int .u8 q0.Op.toNat, .int .i64 q0.R, .int .i64 q0.S, .int .i64 q0.T, .int .i64 q0.N, .int .i64 q0.M], 54, 7, true⟩)] (fun v τ' vs' => v = .tuple #[] ∧ vs' = [some (bm0, ⟨[.int .u8 rr.Kind.toNat, .int .u8 rr.Op.toNat, .int .i64 rr.R, .int .i64 rr.S, .int .i64 rr.T, .int .i64 rr.N, .int .i64 rr.M], 54, 7, true⟩)]) := by
 refine zfJ (args := [.pointer (some ⟨bm0, 0, none⟩), .int .u8 p1]) hm Tryz.func96 s96 rfl fun w0 σ hO Q hQ => ?_
 unfold zfr at hF
 have hL := Hp.le.refl τ
 show wpn _ _ a96.body _ _ _
 unfold a96
 dsimp only
 refine zQ (zb hO 3 [] [(0, zqQ bm0), (5, zqQ bm0), (6, zqQ bm0), (7, .int .u8 p1)] zqC fun j => ?_)
 obtain ⟨c3, h4, hF⟩ := bind_some hF
 refine zs hO (zpZ h4) rfl fun _ σ _ _ hO h5 h6 => ?_
 have hL := hL.trans h5
 obtain ⟨rfl, rfl⟩ := h6
 have hO : Obs _ _ [_] := hO
 refine zb hO 5 [] [(0, zqQ bm0), (6, zqQ bm0), (9, zqP c3.1), (10, zqP c3.2), (12, .pointer (some ⟨bm0, 2, none⟩))] zqD fun j => ?_
 refine zI hO (i := 0) rfl (off := 2) rfl rfl rfl rfl (Nat.le_of_ble_eq_true rfl) rfl fun σ hO => ?_
 have hO : Obs _ _ [_] := hO
 refine zb hO 2 [] [(0, zqQ bm0), (10, zqP c3.2), (14, .pointer (some ⟨bm0, 3, none⟩))] zqB fun j => ?_
 refine zI hO (i := 0) rfl (off := 3) rfl rfl rfl rfl (Nat.le_of_ble_eq_true rfl) rfl fun σ hO => ?_
 have hO : Obs _ _ [_] := hO
 refine zh (zg ?_)
 injection hF with hF
 subst hF
 exact (hQ _ _ _ _ _ rfl hO hL ⟨rfl, rfl⟩).2
theorem zqu {τ : Hp}   {rr : zx} (hF : zje  = some rr) :
  Ctr Tryz.prog 84 #[.func (.func 93) #[] #[], .func (.func 94) #[] #[], .func (.func 96) #[] #[]] τ [] (fun v τ' vs' => ∃ (f0_0 : Fn) (a0_0 c0_0 : Array Value) (f0_1 : Fn) (a0_1 c0_1 : Array Value) (f0_2 : Fn) (a0_2 c0_2 : Array Value), v = .agg #[.func f0_0 a0_0 c0_0, .func f0_1 a0_1 c0_1, .func f0_2 a0_2 c0_2] ∧ vs' = [] ∧ zbz τ' rr (.func f0_0 a0_0 c0_0) (.func f0_1 a0_1 c0_1) (.func f0_2 a0_2 c0_2)) := by
 refine zw (args := [.func (.func 93) #[] #[], .func (.func 94) #[] #[], .func (.func 96) #[] #[]]) hm Tryz.func84 s84 rfl fun w0 σ hO Q hQ => ?_
 unfold zje at hF
 have hL := Hp.le.refl τ
 show wpn _ _ a84.body _ _ _
 unfold a84
 dsimp only
 refine zbd (n := 1) hO rfl rfl fun b4 σ hO => ?_
 have hO : Obs _ _ [_] := hO
 refine zbd (n := 1) hO rfl rfl fun b5 σ hO => ?_
 have hO : Obs _ _ [_, _] := hO
 refine zbp hO fun b6 σ hO => ?_
 have hO : Obs _ _ [_, _, _] := hO
 refine zh (zb hO 4 [] [(6, zqQ b6), (10, .agg #[(.func (.func 93) #[] #[]), (.func (.func 117) #[] #[(.pointer (some ⟨b4, 0, none⟩))]), (.func (.func 118) #[] #[(.pointer (some ⟨b5, 0, none⟩))])])] zqA fun j => ?_)
 refine zI hO (i := 2) rfl (off := 0) rfl rfl rfl rfl (Nat.le_of_ble_eq_true rfl) rfl fun σ hO => ?_
 have hO : Obs _ _ [_, _, _] := hO
 refine zh (zp ?_)
 obtain ⟨_, h8, m7, hO⟩ := hO.shareV (i := 0) rfl
 have hL := hL.trans h8
 have hO : Obs _ _ [_, _, _] := hO
 obtain ⟨_, h10, m9, hO⟩ := hO.shareV (i := 1) rfl
 have hL := hL.trans h10
 have m7 := m7.le h10
 have hO : Obs _ _ [_, _, _] := hO
 injection hF with hF
 subst hF
 have hV0 := hO.val (i := 2) rfl (off := 0) (agg := true) (n := 3) rfl
 have hO := hO.sel [] (by decide)
 exact hQ _ _ _ _ _ (zbu rfl (hV0) rfl) hO hL ⟨_, _, _, _, _, _, _, _, _, rfl, rfl, ⟨(⟨b4, 0, none⟩ : Addr), (⟨b5, 0, none⟩ : Addr), rfl, rfl, rfl, m7, m9⟩⟩
theorem zfb {τ : Hp}   {rr : zx} (hF : zdZ  = some rr) :
  Ctr Tryz.prog 76 #[] τ [] (fun v τ' vs' => ∃ (f0_0 : Fn) (a0_0 c0_0 : Array Value) (f0_1 : Fn) (a0_1 c0_1 : Array Value) (f0_2 : Fn) (a0_2 c0_2 : Array Value), v = .agg #[.func f0_0 a0_0 c0_0, .func f0_1 a0_1 c0_1, .func f0_2 a0_2 c0_2] ∧ vs' = [] ∧ zbz τ' rr (.func f0_0 a0_0 c0_0) (.func f0_1 a0_1 c0_1) (.func f0_2 a0_2 c0_2)) := by
 refine zw (args := []) hm Tryz.func76 s76 rfl fun w0 σ hO Q hQ => ?_
 unfold zdZ at hF
 have hL := Hp.le.refl τ
 show wpn _ _ a76.body _ _ _
 unfold a76
 dsimp only
 refine zbp hO fun b1 σ hO => ?_
 have hO : Obs _ _ [_] := hO
 refine zh ?_
 obtain ⟨c2, h3, hF⟩ := bind_some hF
 refine zs hO (zqu h3) rfl fun _ σ _ _ hO h4 h5 => ?_
 have hL := hL.trans h4
 obtain ⟨f7, a8, c9, f10, a11, c12, f13, a14, c15, rfl, rfl, r6⟩ := h5
 have hO : Obs _ _ [_] := hO
 refine zI hO (i := 0) rfl (off := 0) rfl rfl rfl rfl (Nat.le_of_ble_eq_true rfl) rfl fun σ hO => ?_
 have hO : Obs _ _ [_] := hO
 refine zh (zp ?_)
 injection hF with hF
 subst hF
 have hV0 := hO.val (i := 0) rfl (off := 0) (agg := true) (n := 3) rfl
 have hO := hO.sel [] (by decide)
 exact hQ _ _ _ _ _ (zbu rfl (hV0) rfl) hO hL ⟨_, _, _, _, _, _, _, _, _, rfl, rfl, r6⟩
theorem zod {τ : Hp} {q0 : zc} {bm0 : Nat}  {rr : Int × zc} (hF : zhG q0 = some rr) :
  Ctr Tryz.prog 99 #[.pointer (some ⟨bm0, 0, none⟩)] τ [some (bm0, ⟨[.int .u8 q0.Kind.toNat, .int .u8 q0.Op.toNat, .int .i64 q0.R, .int .i64 q0.S, .int .i64 q0.T, .int .i64 q0.N, .int .i64 q0.M], 54, 7, true⟩)] (fun v τ' vs' => v = .int .u8 rr.1 ∧ vs' = [some (bm0, ⟨[.int .u8 rr.2.Kind.toNat, .int .u8 rr.2.Op.toNat, .int .i64 rr.2.R, .int .i64 rr.2.S, .int .i64 rr.2.T, .int .i64 rr.2.N, .int .i64 rr.2.M], 54, 7, true⟩)]) := by
 refine zw (args := [.pointer (some ⟨bm0, 0, none⟩)]) hm Tryz.func99 s99 rfl fun w0 σ hO Q hQ => ?_
 unfold zhG at hF
 have hL := Hp.le.refl τ
 show wpn _ _ a99.body _ _ _
 unfold a99
 dsimp only
 refine za hO [] [(0, zqQ bm0)] zqz fun j => ?_
 refine za hO [0] [(0, zqQ bm0), (2, .int .u8 (q0.Op.toNat : Int))] (And.intro (And.intro rfl rfl) zqA) fun j => ?_
 refine zp ?_
 injection hF with hF
 subst hF
 exact hQ _ _ _ _ _ rfl hO hL ⟨rfl, rfl⟩
theorem zni {τ : Hp} {q0 : zc} {bm0 : Nat} {p1 : Int}  {rr : zc} (hF : zfZ q0 p1 = some rr) :
  Ctr Tryz.prog 100 #[.pointer (some ⟨bm0, 0, none⟩), .int .u8 p1] τ [some (bm0, ⟨[.int .u8 q0.Kind.toNat, .int .u8 q0.Op.toNat, .int .i64 q0.R, .int .i64 q0.S, .int .i64 q0.T, .int .i64 q0.N, .int .i64 q0.M], 54, 7, true⟩)] (fun v τ' vs' => v = .tuple #[] ∧ vs' = [some (bm0, ⟨[.int .u8 rr.Kind.toNat, .int .u8 rr.Op.toNat, .int .i64 rr.R, .int .i64 rr.S, .int .i64 rr.T, .int .i64 rr.N, .int .i64 rr.M], 54, 7, true⟩)]) := by
 refine zfJ (args := [.pointer (some ⟨bm0, 0, none⟩), .int .u8 p1]) hm Tryz.func100 znW rfl fun w0 σ hO Q hQ => ?_
 unfold zfZ at hF
 have hL := Hp.le.refl τ
 show wpn _ _ zf4.body _ _ _
 unfold zf4
 dsimp only
 refine zQ (zb hO 4 [] [(0, zqQ bm0), (5, .int .u8 p1), (7, .pointer (some ⟨bm0, 1, none⟩))] zqB fun j => ?_)
 refine zI hO (i := 0) rfl (off := 1) rfl rfl rfl rfl (Nat.le_of_ble_eq_true rfl) rfl fun σ hO => ?_
 have hO : Obs _ _ [_] := hO
 refine zh (zg ?_)
 obtain ⟨z3, hz3, hF⟩ := bind_some hF
 injection hF with hF
 subst hF
 exact (hQ _ _ _ _ _ rfl hO hL ⟨(by first | rfl | (simp only [zgH hz3]; done) | (simp only [← zgH hz3]; try rfl)), (by first | rfl | (simp only [zgH hz3]; done) | (simp only [← zgH hz3]; try rfl))⟩).2
theorem zmx {τ : Hp} {q0_0 : Int} {a0_0 : Addr} {q0_1 : Int} {a0_1 : Addr} (m0_0 : At τ a0_0 [.int .u8 q0_0]) (m0_1 : At τ a0_1 [.int .u8 q0_1]) {rr : zx} (hF : ziE q0_0 q0_1 = some rr) :
  Ctr Tryz.prog 84 #[.func (.func 98) #[] #[(.pointer (some a0_0)), (.pointer (some a0_1))], .func (.func 99) #[] #[], .func (.func 100) #[] #[]] τ [] (fun v τ' vs' => ∃ (f0_0 : Fn) (a0_0 c0_0 : Array Value) (f0_1 : Fn) (a0_1 c0_1 : Array Value) (f0_2 : Fn) (a0_2 c0_2 : Array Value), v = .agg #[.func f0_0 a0_0 c0_0, .func f0_1 a0_1 c0_1, .func f0_2 a0_2 c0_2] ∧ vs' = [] ∧ zbz τ' rr (.func f0_0 a0_0 c0_0) (.func f0_1 a0_1 c0_1) (.func f0_2 a0_2 c0_2)) := by
 refine zw (args := [.func (.func 98) #[] #[(.pointer (some a0_0)), (.pointer (some a0_1))], .func (.func 99) #[] #[], .func (.func 100) #[] #[]]) hm Tryz.func84 s84 rfl fun w0 σ hO Q hQ => ?_
 unfold ziE at hF
 have hL := Hp.le.refl τ
 show wpn _ _ a84.body _ _ _
 unfold a84
 dsimp only
 refine zbd (n := 1) hO rfl rfl fun b4 σ hO => ?_
 have hO : Obs _ _ [_] := hO
 refine zbd (n := 1) hO rfl rfl fun b5 σ hO => ?_
 have hO : Obs _ _ [_, _] := hO
 refine zbp hO fun b6 σ hO => ?_
 have hO : Obs _ _ [_, _, _] := hO
 refine zh (zb hO 4 [] [(6, zqQ b6), (10, .agg #[(.func (.func 98) #[] #[(.pointer (some a0_0)), (.pointer (some a0_1))]), (.func (.func 117) #[] #[(.pointer (some ⟨b4, 0, none⟩))]), (.func (.func 118) #[] #[(.pointer (some ⟨b5, 0, none⟩))])])] zqA fun j => ?_)
 refine zI hO (i := 2) rfl (off := 0) rfl rfl rfl rfl (Nat.le_of_ble_eq_true rfl) rfl fun σ hO => ?_
 have hO : Obs _ _ [_, _, _] := hO
 refine zh (zp ?_)
 obtain ⟨_, h8, m7, hO⟩ := hO.shareV (i := 0) rfl
 have hL := hL.trans h8
 have m0_0 := m0_0.le h8
 have m0_1 := m0_1.le h8
 have hO : Obs _ _ [_, _, _] := hO
 obtain ⟨_, h10, m9, hO⟩ := hO.shareV (i := 1) rfl
 have hL := hL.trans h10
 have m0_0 := m0_0.le h10
 have m0_1 := m0_1.le h10
 have m7 := m7.le h10
 have hO : Obs _ _ [_, _, _] := hO
 injection hF with hF
 subst hF
 have hV0 := hO.val (i := 2) rfl (off := 0) (agg := true) (n := 3) rfl
 have hO := hO.sel [] (by decide)
 exact hQ _ _ _ _ _ (zbu rfl (hV0) rfl) hO hL ⟨_, _, _, _, _, _, _, _, _, rfl, rfl, ⟨a0_0, a0_1, (⟨b4, 0, none⟩ : Addr), (⟨b5, 0, none⟩ : Addr), rfl, rfl, rfl, m0_0, m0_1, m7, m9⟩⟩
theorem zk6 {τ : Hp} {p0 : Int} {p1 : Int}  {rr : zx} (hF : zhR p0 p1 = some rr) :
  Ctr Tryz.prog 77 #[.int .u8 p0, .int .u8 p1] τ [] (fun v τ' vs' => ∃ (f0_0 : Fn) (a0_0 c0_0 : Array Value) (f0_1 : Fn) (a0_1 c0_1 : Array Value) (f0_2 : Fn) (a0_2 c0_2 : Array Value), v = .agg #[.func f0_0 a0_0 c0_0, .func f0_1 a0_1 c0_1, .func f0_2 a0_2 c0_2] ∧ vs' = [] ∧ zbz τ' rr (.func f0_0 a0_0 c0_0) (.func f0_1 a0_1 c0_1) (.func f0_2 a0_2 c0_2)) := by
 refine zw (args := [.int .u8 p0, .int .u8 p1]) hm Tryz.func77 s77 rfl fun w0 σ hO Q hQ => ?_
 unfold zhR at hF
 have hL := Hp.le.refl τ
 show wpn _ _ a77.body _ _ _
 unfold a77
 dsimp only
 refine zbd (n := 1) hO rfl rfl fun b3 σ hO => ?_
 have hO : Obs _ _ [_] := hO
 refine zbd (n := 1) hO rfl rfl fun b4 σ hO => ?_
 have hO : Obs _ _ [_, _] := hO
 refine zbp hO fun b5 σ hO => ?_
 have hO : Obs _ _ [_, _, _] := hO
 refine zh (zb hO 1 [] [(4, zqQ b5), (5, .func (.func 98) #[] #[(.pointer (some ⟨b3, 0, none⟩)), (.pointer (some ⟨b4, 0, none⟩))])] zqA fun j => ?_)
 obtain ⟨_, h7, m6, hO⟩ := hO.shareV (i := 0) rfl
 have hL := hL.trans h7
 have hO : Obs _ _ [_, _, _] := hO
 obtain ⟨_, h9, m8, hO⟩ := hO.shareV (i := 1) rfl
 have hL := hL.trans h9
 have m6 := m6.le h9
 have hO : Obs _ _ [_, _, _] := hO
 obtain ⟨c10, h11, hF⟩ := bind_some hF
 refine zs hO (zmx m6 m8 h11) rfl fun _ σ _ _ hO h12 h13 => ?_
 have hL := hL.trans h12
 have m6 := m6.le h12
 have m8 := m8.le h12
 obtain ⟨f15, a16, c17, f18, a19, c20, f21, a22, c23, rfl, rfl, r14⟩ := h13
 have hO : Obs _ _ [_, _, _] := hO
 refine zI hO (i := 2) rfl (off := 0) rfl rfl rfl rfl (Nat.le_of_ble_eq_true rfl) rfl fun σ hO => ?_
 have hO : Obs _ _ [_, _, _] := hO
 refine zh (zp ?_)
 injection hF with hF
 subst hF
 have hV0 := hO.val (i := 2) rfl (off := 0) (agg := true) (n := 3) rfl
 have hO := hO.sel [] (by decide)
 exact hQ _ _ _ _ _ (zbu rfl (hV0) rfl) hO hL ⟨_, _, _, _, _, _, _, _, _, rfl, rfl, r14⟩
theorem zp5 {τ : Hp} {q0 : zc} {bm0 : Nat}  {rr : Bool × zc} (hF : zhy q0 = some rr) :
  Ctr Tryz.prog 101 #[.pointer (some ⟨bm0, 0, none⟩)] τ [some (bm0, ⟨[.int .u8 q0.Kind.toNat, .int .u8 q0.Op.toNat, .int .i64 q0.R, .int .i64 q0.S, .int .i64 q0.T, .int .i64 q0.N, .int .i64 q0.M], 54, 7, true⟩)] (fun v τ' vs' => v = .bool rr.1 ∧ vs' = [some (bm0, ⟨[.int .u8 rr.2.Kind.toNat, .int .u8 rr.2.Op.toNat, .int .i64 rr.2.R, .int .i64 rr.2.S, .int .i64 rr.2.T, .int .i64 rr.2.N, .int .i64 rr.2.M], 54, 7, true⟩)]) := by
 refine zw (args := [.pointer (some ⟨bm0, 0, none⟩)]) hm Tryz.func101 zmo rfl fun w0 σ hO Q hQ => ?_
 unfold zhy at hF
 have hL := Hp.le.refl τ
 show wpn _ _ ziu.body _ _ _
 unfold ziu
 dsimp only
 refine za hO [] [(0, zqQ bm0)] zqz fun j => ?_
 refine zb hO 4 [0] [(0, zqQ bm0), (6, zqP q0.T)] (And.intro (And.intro rfl rfl) zqA) fun j => ?_
 obtain ⟨c2, h3, hF⟩ := bind_some hF
 refine zs hO (zib h3) rfl fun _ σ _ _ hO h4 h5 => ?_
 have hL := hL.trans h4
 obtain ⟨rfl, rfl⟩ := h5
 have hO : Obs _ _ [_] := hO
 refine za hO [] [(0, zqQ bm0), (2, .bool c2)] zqA fun j => ?_
 refine zp ?_
 injection hF with hF
 subst hF
 exact hQ _ _ _ _ _ rfl hO hL ⟨rfl, rfl⟩
theorem zp2 {τ : Hp} {q0 : zc} {bm0 : Nat}  {rr : Int × zc} (hF : zhK q0 = some rr) :
  Ctr Tryz.prog 102 #[.pointer (some ⟨bm0, 0, none⟩)] τ [some (bm0, ⟨[.int .u8 q0.Kind.toNat, .int .u8 q0.Op.toNat, .int .i64 q0.R, .int .i64 q0.S, .int .i64 q0.T, .int .i64 q0.N, .int .i64 q0.M], 54, 7, true⟩)] (fun v τ' vs' => v = .int .u8 rr.1 ∧ vs' = [some (bm0, ⟨[.int .u8 rr.2.Kind.toNat, .int .u8 rr.2.Op.toNat, .int .i64 rr.2.R, .int .i64 rr.2.S, .int .i64 rr.2.T, .int .i64 rr.2.N, .int .i64 rr.2.M], 54, 7, true⟩)]) := by
 refine zw (args := [.pointer (some ⟨bm0, 0, none⟩)]) hm Tryz.func102 zmJ rfl fun w0 σ hO Q hQ => ?_
 unfold zhK at hF
 have hL := Hp.le.refl τ
 show wpn _ _ zjL.body _ _ _
 unfold zjL
 dsimp only
 refine za hO [] [(0, zqQ bm0)] zqz fun j => ?_
 refine za hO [0] [(0, zqQ bm0), (2, .int .u8 (IntKind.u8.wrap q0.T))] (And.intro (And.intro rfl rfl) zqA) fun j => ?_
 refine zp ?_
 injection hF with hF
 subst hF
 exact hQ _ _ _ _ _ rfl hO hL ⟨rfl, rfl⟩
theorem znB {τ : Hp} {q0 : zc} {bm0 : Nat} {p1 : Int}  {rr : zc} (hF : zgS q0 p1 = some rr) :
  Ctr Tryz.prog 103 #[.pointer (some ⟨bm0, 0, none⟩), .int .u8 p1] τ [some (bm0, ⟨[.int .u8 q0.Kind.toNat, .int .u8 q0.Op.toNat, .int .i64 q0.R, .int .i64 q0.S, .int .i64 q0.T, .int .i64 q0.N, .int .i64 q0.M], 54, 7, true⟩)] (fun v τ' vs' => v = .tuple #[] ∧ vs' = [some (bm0, ⟨[.int .u8 rr.Kind.toNat, .int .u8 rr.Op.toNat, .int .i64 rr.R, .int .i64 rr.S, .int .i64 rr.T, .int .i64 rr.N, .int .i64 rr.M], 54, 7, true⟩)]) := by
 refine zfJ (args := [.pointer (some ⟨bm0, 0, none⟩), .int .u8 p1]) hm Tryz.func103 zoz rfl fun w0 σ hO Q hQ => ?_
 unfold zgS at hF
 have hL := Hp.le.refl τ
 show wpn _ _ zht.body _ _ _
 unfold zht
 dsimp only
 refine zQ (zb hO 5 [] [(0, zqQ bm0), (6, zqP (IntKind.i64.wrap p1)), (8, .pointer (some ⟨bm0, 4, none⟩))] zqB fun j => ?_)
 refine zI hO (i := 0) rfl (off := 4) rfl rfl rfl rfl (Nat.le_of_ble_eq_true rfl) rfl fun σ hO => ?_
 have hO : Obs _ _ [_] := hO
 refine zh (zg ?_)
 injection hF with hF
 subst hF
 exact (hQ _ _ _ _ _ rfl hO hL ⟨rfl, rfl⟩).2
theorem zoG {τ : Hp}   {rr : zx} (hF : zi7  = some rr) :
  Ctr Tryz.prog 84 #[.func (.func 101) #[] #[], .func (.func 102) #[] #[], .func (.func 103) #[] #[]] τ [] (fun v τ' vs' => ∃ (f0_0 : Fn) (a0_0 c0_0 : Array Value) (f0_1 : Fn) (a0_1 c0_1 : Array Value) (f0_2 : Fn) (a0_2 c0_2 : Array Value), v = .agg #[.func f0_0 a0_0 c0_0, .func f0_1 a0_1 c0_1, .func f0_2 a0_2 c0_2] ∧ vs' = [] ∧ zbz τ' rr (.func f0_0 a0_0 c0_0) (.func f0_1 a0_1 c0_1) (.func f0_2 a0_2 c0_2)) := by
 refine zw (args := [.func (.func 101) #[] #[], .func (.func 102) #[] #[], .func (.func 103) #[] #[]]) hm Tryz.func84 s84 rfl fun w0 σ hO Q hQ => ?_
 unfold zi7 at hF
 have hL := Hp.le.refl τ
 show wpn _ _ a84.body _ _ _
 unfold a84
 dsimp only
 refine zbd (n := 1) hO rfl rfl fun b4 σ hO => ?_
 have hO : Obs _ _ [_] := hO
 refine zbd (n := 1) hO rfl rfl fun b5 σ hO => ?_
 have hO : Obs _ _ [_, _] := hO
 refine zbp hO fun b6 σ hO => ?_
 have hO : Obs _ _ [_, _, _] := hO
 refine zh (zb hO 4 [] [(6, zqQ b6), (10, .agg #[(.func (.func 101) #[] #[]), (.func (.func 117) #[] #[(.pointer (some ⟨b4, 0, none⟩))]), (.func (.func 118) #[] #[(.pointer (some ⟨b5, 0, none⟩))])])] zqA fun j => ?_)
 refine zI hO (i := 2) rfl (off := 0) rfl rfl rfl rfl (Nat.le_of_ble_eq_true rfl) rfl fun σ hO => ?_
 have hO : Obs _ _ [_, _, _] := hO
 refine zh (zp ?_)
 obtain ⟨_, h8, m7, hO⟩ := hO.shareV (i := 0) rfl
 have hL := hL.trans h8
 have hO : Obs _ _ [_, _, _] := hO
 obtain ⟨_, h10, m9, hO⟩ := hO.shareV (i := 1) rfl
 have hL := hL.trans h10
 have m7 := m7.le h10
 have hO : Obs _ _ [_, _, _] := hO
 injection hF with hF
 subst hF
 have hV0 := hO.val (i := 2) rfl (off := 0) (agg := true) (n := 3) rfl
 have hO := hO.sel [] (by decide)
 exact hQ _ _ _ _ _ (zbu rfl (hV0) rfl) hO hL ⟨_, _, _, _, _, _, _, _, _, rfl, rfl, ⟨(⟨b4, 0, none⟩ : Addr), (⟨b5, 0, none⟩ : Addr), rfl, rfl, rfl, m7, m9⟩⟩
theorem zkq {τ : Hp}   {rr : zx} (hF : zhl  = some rr) :
  Ctr Tryz.prog 78 #[] τ [] (fun v τ' vs' => ∃ (f0_0 : Fn) (a0_0 c0_0 : Array Value) (f0_1 : Fn) (a0_1 c0_1 : Array Value) (f0_2 : Fn) (a0_2 c0_2 : Array Value), v = .agg #[.func f0_0 a0_0 c0_0, .func f0_1 a0_1 c0_1, .func f0_2 a0_2 c0_2] ∧ vs' = [] ∧ zbz τ' rr (.func f0_0 a0_0 c0_0) (.func f0_1 a0_1 c0_1) (.func f0_2 a0_2 c0_2)) := by
 refine zw (args := []) hm Tryz.func78 s78 rfl fun w0 σ hO Q hQ => ?_
 unfold zhl at hF
 have hL := Hp.le.refl τ
 show wpn _ _ a78.body _ _ _
 unfold a78
 dsimp only
 refine zbp hO fun b1 σ hO => ?_
 have hO : Obs _ _ [_] := hO
 refine zh ?_
 obtain ⟨c2, h3, hF⟩ := bind_some hF
 refine zs hO (zoG h3) rfl fun _ σ _ _ hO h4 h5 => ?_
 have hL := hL.trans h4
 obtain ⟨f7, a8, c9, f10, a11, c12, f13, a14, c15, rfl, rfl, r6⟩ := h5
 have hO : Obs _ _ [_] := hO
 refine zI hO (i := 0) rfl (off := 0) rfl rfl rfl rfl (Nat.le_of_ble_eq_true rfl) rfl fun σ hO => ?_
 have hO : Obs _ _ [_] := hO
 refine zh (zp ?_)
 injection hF with hF
 subst hF
 have hV0 := hO.val (i := 0) rfl (off := 0) (agg := true) (n := 3) rfl
 have hO := hO.sel [] (by decide)
 exact hQ _ _ _ _ _ (zbu rfl (hV0) rfl) hO hL ⟨_, _, _, _, _, _, _, _, _, rfl, rfl, r6⟩
theorem zmW {τ : Hp} {q0 : zc} {bm0 : Nat}  {rr : Bool × zc} (hF : zia q0 = some rr) :
  Ctr Tryz.prog 79 #[.pointer (some ⟨bm0, 0, none⟩)] τ [some (bm0, ⟨[.int .u8 q0.Kind.toNat, .int .u8 q0.Op.toNat, .int .i64 q0.R, .int .i64 q0.S, .int .i64 q0.T, .int .i64 q0.N, .int .i64 q0.M], 54, 7, true⟩)] (fun v τ' vs' => v = .bool rr.1 ∧ vs' = [some (bm0, ⟨[.int .u8 rr.2.Kind.toNat, .int .u8 rr.2.Op.toNat, .int .i64 rr.2.R, .int .i64 rr.2.S, .int .i64 rr.2.T, .int .i64 rr.2.N, .int .i64 rr.2.M], 54, 7, true⟩)]) := by
 refine zw (args := [.pointer (some ⟨bm0, 0, none⟩)]) hm Tryz.func79 s79 rfl fun w0 σ hO Q hQ => ?_
 unfold zia at hF
 have hL := Hp.le.refl τ
 show wpn _ _ a79.body _ _ _
 unfold a79
 dsimp only
 refine za hO [] [(0, zqQ bm0)] zqz fun j => ?_
 refine za hO [0, 0] [(0, zqQ bm0), (2, .bool ((decide (q0.N ≥ (-65536))) && (decide (q0.N ≤ 65536))))] (And.intro (And.intro rfl rfl) (And.intro (And.intro rfl rfl) (And.intro (And.intro rfl rfl) (fun _ => zqO zqz)))) fun j => ?_
 refine zp ?_
 injection hF with hF
 subst hF
 exact hQ _ _ _ _ _ rfl hO hL ⟨rfl, rfl⟩
theorem zoW {τ : Hp} {q0 : zc} {bm0 : Nat}  {rr : Bool × zc} (hF : zg4 q0 = some rr) :
  Ctr Tryz.prog 104 #[.pointer (some ⟨bm0, 0, none⟩)] τ [some (bm0, ⟨[.int .u8 q0.Kind.toNat, .int .u8 q0.Op.toNat, .int .i64 q0.R, .int .i64 q0.S, .int .i64 q0.T, .int .i64 q0.N, .int .i64 q0.M], 54, 7, true⟩)] (fun v τ' vs' => v = .bool rr.1 ∧ vs' = [some (bm0, ⟨[.int .u8 rr.2.Kind.toNat, .int .u8 rr.2.Op.toNat, .int .i64 rr.2.R, .int .i64 rr.2.S, .int .i64 rr.2.T, .int .i64 rr.2.N, .int .i64 rr.2.M], 54, 7, true⟩)]) := by
 refine zw (args := [.pointer (some ⟨bm0, 0, none⟩)]) hm Tryz.func104 zn2 rfl fun w0 σ hO Q hQ => ?_
 unfold zg4 at hF
 have hL := Hp.le.refl τ
 show wpn _ _ zjx.body _ _ _
 unfold zjx
 dsimp only
 refine za hO [] [(0, zqQ bm0)] zqz fun j => ?_
 refine za hO [0, 0] [(0, zqQ bm0), (2, .bool ((decide (q0.M ≥ 1)) && (decide (q0.M ≤ 65536))))] (And.intro (And.intro rfl rfl) (And.intro (And.intro rfl rfl) (And.intro (And.intro rfl rfl) (fun _ => zqO zqz)))) fun j => ?_
 refine zp ?_
 injection hF with hF
 subst hF
 exact hQ _ _ _ _ _ rfl hO hL ⟨rfl, rfl⟩
theorem zlL {τ : Hp} {v0 : Value} {p0 : (List UInt8)} {p1 : Int} (r0 : RdT Ty.u8 τ v0 p0) {rr : (List UInt8)} (hF : zew p0 p1 = some rr) :
  Ctr Tryz.prog 106 #[v0, .int .u64 p1] τ [] (fun v τ' vs' => ∃ (v0 : Value) (o0 : Ob), v = v0 ∧ vs' = [o0] ∧ zd Ty.u8 5 τ' v0 rr o0) := by
 obtain ⟨A0, c0, rfl, -⟩ := r0.form
 refine zw (args := [.slice A0 p0.length c0, .int .u64 p1]) hm Tryz.func106 zp7 rfl fun w0 σ hO Q hQ => ?_
 unfold zew at hF
 have hL := Hp.le.refl τ
 show wpn _ _ zfB.body _ _ _
 unfold zfB
 dsimp only
 refine za hO [] [(0, .slice A0 p0.length c0), (1, .int .u64 p1)] zqA fun j => ?_
 refine zb hO 1 [] [(1, .int .u64 p1), (6, .slice A0 p0.length c0)] zqA fun j => ?_
 obtain ⟨c3, h4, hF⟩ := bind_some hF
 refine zs hO (zgf r0 h4) rfl fun _ σ _ _ hO h5 h6 => ?_
 have hL := hL.trans h5
 have r0 := r0.le h5
 obtain ⟨v7, o10, rfl, rfl, w11⟩ := h6
 obtain ⟨A8, c9, rfl, -⟩ := w11.form
 have hO : Obs _ _ [_] := hO
 refine za hO [] [(1, .int .u64 p1), (5, .slice A8 c3.length c9)] zqA fun j => ?_
 refine zO (zbo (fun (n : Nat) e' σ' => ∃ (x30 : Int) (A31 : Option Addr) (c32 : Nat) (o33 : Ob) (x34 : List UInt8) (τ' : Hp), agr [(1, .int .u64 x30), (5, .slice A31 x34.length c32)] e' ∧ Obs τ' σ' [o33] ∧ Hp.le τ τ' ∧ zd Ty.u8 5 τ' (.slice A31 x34.length c32) x34 o33 ∧ zfL  n x30 x34 = some rr) big ⟨p1, A8, c9, o10, c3, _, zqO zqz, hO, hL, w11, hF⟩ ?_)
 clear hF hO hL
 rintro n49 e σ ⟨x30, A31, c32, o33, x34, _, hA, hO, hL, w35, hF⟩
 rw [← zB _ _ hA]
 cases n49 with
 | zero => exact nomatch (show none = some rr from hF)
 | succ n49 =>
  replace hF : ze1 (zfL  n49) x30 x34 = some rr := hF
  unfold ze1 at hF
  refine zf (za hO [] [(1, .int .u64 x30), (5, .slice A31 x34.length c32), (9, .bool (decide (x30 > 127)))] zqB fun j => ?_)
  rcases zi hF with ⟨hb50, hF⟩ | ⟨hb50, hF⟩
  ·refine zl (congrArg Value.bool hb50) ?_
   refine zr (zei (zO (zb hO 4 [] [(1, .int .u64 x30), (10, .slice A31 x34.length c32), (13, .int .u8 (orI .u8 (IntKind.u8.wrap x30) 128))] zqB fun j => ?_)))
   obtain ⟨z51, hz51, hF⟩ := bind_some hF
   obtain ⟨_, hr56, hF⟩ := bind_some hF
   refine zbM (T := Ty.u8) (y := z51) hO w35 (i := 0) rfl rfl (fun _ => rfl) rfl (u8R hz51) rfl hr56 (by decide) fun u _ σ o54 w55 hO => ?_
   obtain ⟨A52, c53, rfl, -⟩ := w55.form
   have hO : Obs _ _ [_] := hO
   refine za hO [] [(1, .int .u64 x30), (5, .slice A52 (x34 ++ [z51]).length c53)] zqA fun j => ?_
   refine zQ (za hO [] [(1, .int .u64 (zbR .u64 x30 7)), (5, .slice A52 (x34 ++ [z51]).length c53)] zqA fun j => ?_)
   refine zg (zK (zn (zg (zn ?_))))
   exact ⟨n49, Nat.lt_succ_self _, (zbR .u64 x30 7), A52, c53, o54, (x34 ++ [z51]), _, zqO zqz, hO, hL, w55, hF⟩
  ·refine zj (congrArg Value.bool hb50) ?_
   refine zbs (zbr (zbn (zn (zb hO 3 [] [(18, .slice A31 x34.length c32), (20, .int .u8 (IntKind.u8.wrap x30))] zqA fun j => ?_))))
   obtain ⟨z57, hz57, hF⟩ := bind_some hF
   obtain ⟨_, hr62, hF⟩ := bind_some hF
   refine zbM (T := Ty.u8) (y := z57) hO w35 (i := 0) rfl rfl (fun _ => rfl) rfl (u8R hz57) rfl hr62 (by decide) fun u _ σ o60 w61 hO => ?_
   obtain ⟨A58, c59, rfl, -⟩ := w61.form
   have hO : Obs _ _ [_] := hO
   refine za hO [] [(4, .slice A58 (x34 ++ [z57]).length c59)] zqz fun j => ?_
   refine zp ?_
   injection hF with hF
   subst hF
   exact hQ _ _ _ _ _ rfl hO hL ⟨_, _, rfl, rfl, w61⟩
theorem zos {τ : Hp} {p0 : Int} {p1 : Int}  {rr : Int} (hF : zig p0 p1 = some rr) :
  Ctr Tryz.prog 123 #[.int .u64 p0, .int .i64 p1] τ [] (fun v τ' vs' => v = .int .u64 rr ∧ vs' = []) := by
 refine zw (args := [.int .u64 p0, .int .i64 p1]) hm Tryz.func123 znh rfl fun w0 σ hO Q hQ => ?_
 unfold zig at hF
 have hL := Hp.le.refl τ
 show wpn _ _ zjp.body _ _ _
 unfold zjp
 dsimp only
 refine za hO [] [(0, .int .u64 p0)] zqz fun j => ?_
 refine za hO [] [(4, .int .u64 p0)] zqz fun j => ?_
 refine zp ?_
 injection hF with hF
 subst hF
 exact hQ _ _ _ _ _ rfl hO hL ⟨rfl, rfl⟩
theorem zmP {τ : Hp} {v0 : Value} {p0 : (List UInt8)} {p1 : Int} (r0 : RdT Ty.u8 τ v0 p0) {rr : Int × Int × Int} (hF : zg6 p0 p1 = some rr) :
  Ctr Tryz.prog 122 #[v0, .int .i64 p1, .func (.func 123) #[] #[], .func (.func 106) #[] #[]] τ [] (fun v τ' vs' => v = .tuple #[.int .u64 rr.1, .int .i64 rr.2.1, .int .i64 rr.2.2] ∧ vs' = []) := by
 obtain ⟨A0, c0, rfl, -⟩ := r0.form
 refine zw (args := [.slice A0 p0.length c0, .int .i64 p1, .func (.func 123) #[] #[], .func (.func 106) #[] #[]]) hm Tryz.func122 zl8 rfl fun w0 σ hO Q hQ => ?_
 unfold zg6 at hF
 have hL := Hp.le.refl τ
 show wpn _ _ zfW.body _ _ _
 unfold zfW
 dsimp only
 refine za hO [] [(0, .slice A0 p0.length c0), (1, zqP p1), (2, .func (.func 123) #[] #[]), (3, .func (.func 106) #[] #[])] zqC fun j => ?_
 refine zf (za hO [] [(0, .slice A0 p0.length c0), (1, zqP p1), (2, .func (.func 123) #[] #[]), (3, .func (.func 106) #[] #[]), (21, .bool ((decide (p1 < 0)) || (decide (p1 > (p0.length : Int)))))] (And.intro (And.intro rfl rfl) (fun _ => zqO zqC)) fun j => ?_)
 rcases zi hF with ⟨hb5, hF⟩ | ⟨hb5, hF⟩
 ·refine zl (congrArg Value.bool hb5) ?_
  refine zf (za hO [] [(8, .int .u64 0), (9, zqP 0), (10, zqP 1)] zqB fun j => ?_)
  refine zA ?_
  injection hF with hF
  subst hF
  exact hQ _ _ _ _ _ rfl hO hL ⟨rfl, rfl⟩
 ·refine zj (congrArg Value.bool hb5) ?_
  refine zr (zb hO 2 [] [(0, .slice A0 p0.length c0), (1, zqP p1), (2, .func (.func 123) #[] #[]), (3, .func (.func 106) #[] #[]), (23, .slice A0 p0.length c0), (24, zqP p1)] zqE fun j => ?_)
  obtain ⟨y6, g7, hF⟩ := bind_some hF
  refine zda (T := Ty.u8) r0 rfl rfl rfl g7 fun _ r8 => ?_
  obtain ⟨A9, c10, rfl, -⟩ := r8.form
  obtain ⟨c11, h12, hF⟩ := bind_some hF
  refine zs hO (zkh r8 h12) rfl fun _ σ _ _ hO h13 h14 => ?_
  have hL := hL.trans h13
  have r0 := r0.le h13
  have r8 := r8.le h13
  obtain ⟨rfl, rfl⟩ := h14
  have hO : Obs _ _ [] := hO
  refine za hO [] [(0, .slice A0 p0.length c0), (1, zqP p1), (2, .func (.func 123) #[] #[]), (3, .func (.func 106) #[] #[]), (11, .int .u64 c11.1), (12, zqP c11.2)] zqE fun j => ?_
  refine zb hO 3 [] [(0, .slice A0 p0.length c0), (1, zqP p1), (3, .func (.func 106) #[] #[]), (12, zqP c11.2), (29, .func (.func 123) #[] #[]), (30, .int .u64 c11.1), (31, zqP c11.2)] zqF fun j => ?_
  obtain ⟨c15, h16, hF⟩ := bind_some hF
  refine zho rfl (by kernel_rfl) hO (zos h16) rfl fun _ σ _ _ hO h17 h18 => ?_
  have hL := hL.trans h17
  have r0 := r0.le h17
  obtain ⟨rfl, rfl⟩ := h18
  have hO : Obs _ _ [] := hO
  refine za hO [] [(0, .slice A0 p0.length c0), (1, zqP p1), (3, .func (.func 106) #[] #[]), (12, zqP c11.2), (13, .int .u64 c15)] zqD fun j => ?_
  refine zf (zbK (zb hO 3 [] [(0, .slice A0 p0.length c0), (1, zqP p1), (3, .func (.func 106) #[] #[]), (12, zqP c11.2), (13, .int .u64 c15), (35, .bool (c11.2 == 0))] zqE fun j => ?_))
  obtain ⟨c19, h20, hF⟩ := bind_some hF
  refine zbG 2 (fun e' σ' => ∃ (τ' : Hp), agr [(47, .bool c19), (1, zqP p1), (12, zqP c11.2), (13, .int .u64 c15)] e' ∧ Obs τ' σ' [] ∧ Hp.le τ τ') ?_ ?_
  ·have hF := h20
   rcases zi hF with ⟨hb21, hF⟩ | ⟨hb21, hF⟩
   ·refine zM (congrArg (fun x => isB (.bool x) false) hb21) ?_
    refine zz (congrArg Value.bool hb21) ?_
    refine zh ?_
    injection hF with hF
    subst hF
    refine zg ?_
    exact ⟨rfl, _, zqO zqB, hO, hL⟩
   ·refine zE (congrArg (fun x => isB (.bool x) false) hb21) ?_
    refine zb hO 7 [] [(1, zqP p1), (12, zqP c11.2), (13, .int .u64 c15), (35, .bool (c11.2 == 0)), (36, .func (.func 106) #[] #[]), (37, .int .u64 c15), (39, .slice A0 p0.length c0), (40, zqP p1), (43, zqP (IntKind.i64.wrap (p1 + c11.2)))] zqH fun j => ?_
    obtain ⟨y22, g23, hF⟩ := bind_some hF
    refine zda (T := Ty.u8) r0 rfl rfl rfl g23 fun _ r24 => ?_
    obtain ⟨A25, c26, rfl, -⟩ := r24.form
    obtain ⟨c27, h28, hF⟩ := bind_some hF
    refine zho rfl (by kernel_rfl) hO (zlL (RdT.nil Ty.u8 _) h28) rfl fun _ σ _ _ hO h29 h30 => ?_
    have hL := hL.trans h29
    have r0 := r0.le h29
    have r24 := r24.le h29
    obtain ⟨v31, o34, rfl, rfl, w35⟩ := h30
    obtain ⟨A32, c33, rfl, -⟩ := w35.form
    have hO : Obs _ _ [_] := hO
    obtain ⟨_, h37, r36, hO⟩ := w35.share hO (i := 0) rfl
    have hL := hL.trans h37
    have r0 := r0.le h37
    have r24 := r24.le h37
    have hO : Obs _ _ [_] := hO
    obtain ⟨c38, h39, hF⟩ := bind_some hF
    refine zs hO (zk9 r36 r24 h39) rfl fun _ σ _ _ hO h40 h41 => ?_
    have hL := hL.trans h40
    have r36 := r36.le h40
    have r0 := r0.le h40
    have r24 := r24.le h40
    obtain ⟨rfl, rfl⟩ := h41
    have hO : Obs _ _ [_] := hO
    refine zb hO 1 [] [(1, zqP p1), (12, zqP c11.2), (13, .int .u64 c15), (35, .bool (c11.2 == 0)), (46, .bool (!c38))] zqD fun j => ?_
    refine zz (congrArg Value.bool hb21) ?_
    refine zh ?_
    injection hF with hF
    subst hF
    refine zg ?_
    have hO := hO.sel [] (by decide)
    exact ⟨rfl, _, zqO zqB, hO, hL⟩
  ·rintro e σ ⟨_, hA, hO, hL⟩
   rw [← zB _ _ hA]
   refine zh ?_
   rcases zi hF with ⟨hb42, hF⟩ | ⟨hb42, hF⟩
   ·refine zl (congrArg Value.bool hb42) ?_
    refine zf (za hO [] [(8, .int .u64 0), (9, zqP 0), (10, zqP 5)] zqB fun j => ?_)
    refine zA ?_
    injection hF with hF
    subst hF
    exact hQ _ _ _ _ _ rfl hO hL ⟨rfl, rfl⟩
   ·refine zj (congrArg Value.bool hb42) ?_
    refine zr (za hO [] [(8, .int .u64 c15), (9, zqP (IntKind.i64.wrap (p1 + c11.2))), (10, zqP 0)] zqB fun j => ?_)
    refine zp ?_
    injection hF with hF
    subst hF
    exact hQ _ _ _ _ _ rfl hO hL ⟨rfl, rfl⟩
theorem znE {τ : Hp} {v0 : Value} {p0 : (List UInt8)} {p1 : Int} (r0 : RdT Ty.u8 τ v0 p0) {rr : Int × Int × Int} (hF : zfl p0 p1 = some rr) :
  Ctr Tryz.prog 108 #[v0, .int .i64 p1] τ [] (fun v τ' vs' => v = .tuple #[.int .u64 rr.1, .int .i64 rr.2.1, .int .i64 rr.2.2] ∧ vs' = []) := by
 obtain ⟨A0, c0, rfl, -⟩ := r0.form
 refine zw (args := [.slice A0 p0.length c0, .int .i64 p1]) hm Tryz.func108 zqd rfl fun w0 σ hO Q hQ => ?_
 unfold zfl at hF
 have hL := Hp.le.refl τ
 show wpn _ _ zip.body _ _ _
 unfold zip
 dsimp only
 refine za hO [] [(0, .slice A0 p0.length c0), (1, zqP p1)] zqA fun j => ?_
 refine zb hO 2 [] [(7, .slice A0 p0.length c0), (8, zqP p1)] zqA fun j => ?_
 obtain ⟨c3, h4, hF⟩ := bind_some hF
 refine zs hO (zmP r0 h4) rfl fun _ σ _ _ hO h5 h6 => ?_
 have hL := hL.trans h5
 have r0 := r0.le h5
 obtain ⟨rfl, rfl⟩ := h6
 have hO : Obs _ _ [] := hO
 refine za hO [] [(4, .int .u64 c3.1), (5, zqP c3.2.1), (6, zqP c3.2.2)] zqB fun j => ?_
 refine zp ?_
 injection hF with hF
 subst hF
 exact hQ _ _ _ _ _ rfl hO hL ⟨rfl, rfl⟩
theorem zoK {τ : Hp} {v0 : Value} {p0 : (List UInt8)} {p1 : Int} {q2 : zc} {bm2 : Nat} (r0 : RdT Ty.u8 τ v0 p0) {rr : Int × Bool × zc} (hF : zgC p0 p1 q2 = some rr) :
  Ctr Tryz.prog 107 #[v0, .int .i64 p1, .pointer (some ⟨bm2, 0, none⟩)] τ [some (bm2, ⟨[.int .u8 q2.Kind.toNat, .int .u8 q2.Op.toNat, .int .i64 q2.R, .int .i64 q2.S, .int .i64 q2.T, .int .i64 q2.N, .int .i64 q2.M], 54, 7, true⟩)] (fun v τ' vs' => v = .tuple #[.int .i64 rr.1, .bool rr.2.1] ∧ vs' = [some (bm2, ⟨[.int .u8 rr.2.2.Kind.toNat, .int .u8 rr.2.2.Op.toNat, .int .i64 rr.2.2.R, .int .i64 rr.2.2.S, .int .i64 rr.2.2.T, .int .i64 rr.2.2.N, .int .i64 rr.2.2.M], 54, 7, true⟩)]) := by
 obtain ⟨A0, c0, rfl, -⟩ := r0.form
 refine zw (args := [.slice A0 p0.length c0, .int .i64 p1, .pointer (some ⟨bm2, 0, none⟩)]) hm Tryz.func107 zp9 rfl fun w0 σ hO Q hQ => ?_
 unfold zgC at hF
 have hL := Hp.le.refl τ
 show wpn _ _ zjT.body _ _ _
 unfold zjT
 dsimp only
 refine za hO [] [(0, .slice A0 p0.length c0), (1, zqP p1), (2, zqQ bm2)] zqB fun j => ?_
 refine zb hO 2 [] [(2, zqQ bm2), (12, .slice A0 p0.length c0), (13, zqP p1)] zqB fun j => ?_
 obtain ⟨c4, h5, hF⟩ := bind_some hF
 refine zs hO (znE r0 h5) rfl fun _ σ _ _ hO h6 h7 => ?_
 have hL := hL.trans h6
 have r0 := r0.le h6
 obtain ⟨rfl, rfl⟩ := h7
 have hO : Obs _ _ [_] := hO
 refine za hO [] [(2, zqQ bm2), (8, .int .u64 c4.1), (9, zqP c4.2.1), (10, zqP c4.2.2)] zqC fun j => ?_
 refine zb hO 6 [] [(2, zqQ bm2), (9, zqP c4.2.1), (10, zqP c4.2.2), (21, zqP (IntKind.i64.wrap (zbO c4.1 16777216))), (23, .pointer (some ⟨bm2, 6, none⟩))] zqD fun j => ?_
 refine zI hO (i := 0) rfl (off := 6) rfl rfl rfl rfl (Nat.le_of_ble_eq_true rfl) rfl fun σ hO => ?_
 have hO : Obs _ _ [_] := hO
 refine zh (za hO [] [(2, zqQ bm2), (6, zqP c4.2.1), (7, .bool (c4.2.2 == 0))] zqB fun j => ?_)
 refine zp ?_
 injection hF with hF
 subst hF
 exact hQ _ _ _ _ _ rfl hO hL ⟨rfl, rfl⟩
theorem zpo {τ : Hp}   {rr : zx} (hF : zjc  = some rr) :
  Ctr Tryz.prog 80 #[] τ [] (fun v τ' vs' => ∃ (f0_0 : Fn) (a0_0 c0_0 : Array Value) (f0_1 : Fn) (a0_1 c0_1 : Array Value) (f0_2 : Fn) (a0_2 c0_2 : Array Value), v = .agg #[.func f0_0 a0_0 c0_0, .func f0_1 a0_1 c0_1, .func f0_2 a0_2 c0_2] ∧ vs' = [] ∧ zbz τ' rr (.func f0_0 a0_0 c0_0) (.func f0_1 a0_1 c0_1) (.func f0_2 a0_2 c0_2)) := by
 refine zw (args := []) hm Tryz.func80 s80 rfl fun w0 σ hO Q hQ => ?_
 unfold zjc at hF
 have hL := Hp.le.refl τ
 show wpn _ _ a80.body _ _ _
 unfold a80
 dsimp only
 refine zbp hO fun b1 σ hO => ?_
 have hO : Obs _ _ [_] := hO
 refine zh (zb hO 1 [] [(0, zqQ b1), (1, .agg #[(.func (.func 104) #[] #[]), (.func (.func 105) #[] #[]), (.func (.func 107) #[] #[])])] zqA fun j => ?_)
 refine zI hO (i := 0) rfl (off := 0) rfl rfl rfl rfl (Nat.le_of_ble_eq_true rfl) rfl fun σ hO => ?_
 have hO : Obs _ _ [_] := hO
 refine zh (zp ?_)
 injection hF with hF
 subst hF
 have hV0 := hO.val (i := 0) rfl (off := 0) (agg := true) (n := 3) rfl
 have hO := hO.sel [] (by decide)
 exact hQ _ _ _ _ _ (zbu rfl (hV0) rfl) hO hL ⟨_, _, _, _, _, _, _, _, _, rfl, rfl, ⟨rfl, rfl, rfl⟩⟩
theorem zmb {τ : Hp} {q0 : zc} {bm0 : Nat}  {rr : Bool × zc} (hF : zhX q0 = some rr) :
  Ctr Tryz.prog 109 #[.pointer (some ⟨bm0, 0, none⟩)] τ [some (bm0, ⟨[.int .u8 q0.Kind.toNat, .int .u8 q0.Op.toNat, .int .i64 q0.R, .int .i64 q0.S, .int .i64 q0.T, .int .i64 q0.N, .int .i64 q0.M], 54, 7, true⟩)] (fun v τ' vs' => v = .bool rr.1 ∧ vs' = [some (bm0, ⟨[.int .u8 rr.2.Kind.toNat, .int .u8 rr.2.Op.toNat, .int .i64 rr.2.R, .int .i64 rr.2.S, .int .i64 rr.2.T, .int .i64 rr.2.N, .int .i64 rr.2.M], 54, 7, true⟩)]) := by
 refine zw (args := [.pointer (some ⟨bm0, 0, none⟩)]) hm Tryz.func109 znI rfl fun w0 σ hO Q hQ => ?_
 unfold zhX at hF
 have hL := Hp.le.refl τ
 show wpn _ _ ziA.body _ _ _
 unfold ziA
 dsimp only
 refine za hO [] [(0, zqQ bm0)] zqz fun j => ?_
 refine za hO [0, 0] [(0, zqQ bm0), (2, .bool ((decide (q0.N ≥ 0)) && (decide (q0.N < 16777216))))] (And.intro (And.intro rfl rfl) (And.intro (And.intro rfl rfl) (And.intro (And.intro rfl rfl) (fun _ => zqO zqz)))) fun j => ?_
 refine zp ?_
 injection hF with hF
 subst hF
 exact hQ _ _ _ _ _ rfl hO hL ⟨rfl, rfl⟩
theorem zm4 {τ : Hp} {p1 : Int} (r0 : RdT Ty.u8 τ (.slice none 0 0) []) {rr : (List UInt8)} (hF : zfs [] p1 = some rr) :
  Ctr Tryz.prog 128 #[.slice none 0 0, .int .i64 p1] τ [] (fun v τ' vs' => ∃ (v0 : Value) (o0 : Ob), v = v0 ∧ vs' = [o0] ∧ zd Ty.u8 5 τ' v0 rr o0) := by
 refine zw (args := [.slice none 0 0, .int .i64 p1]) hm Tryz.func128 zmi rfl fun w0 σ hO Q hQ => ?_
 unfold zfs at hF
 have hL := Hp.le.refl τ
 show wpn _ _ zdU.body _ _ _
 unfold zdU
 dsimp only
 refine za hO [] [(0, .slice none 0 0), (1, zqP p1)] zqA fun j => ?_
 refine zf (za hO [] [(0, .slice none 0 0), (1, zqP p1), (6, .bool (decide (p1 < 0)))] zqB fun j => ?_)
 refine zbL (fun e' σ' => ∃ (τ' : Hp), agr [(0, .slice none 0 0), (1, zqP p1)] e' ∧ Obs τ' σ' [] ∧ Hp.le τ τ' ∧ zhn p1 = some rr) ?_ ?_
 ·refine z8 ?_
  rcases zi hF with ⟨hb15, hF⟩ | ⟨hb15, hF⟩
  ·refine zl (congrArg Value.bool hb15) ?_
   refine zb hO 1 [] [(0, .slice none 0 0), (1, zqP p1), (7, .iface 9 (.string (⟨#[99, 97, 110, 110, 111, 116, 32, 98, 101, 32, 110, 101, 103, 97, 116, 105, 118, 101]⟩ : ByteArray)))] zqB fun j => ?_
   exact nomatch (show none = some _ from hF)
  ·refine zj (congrArg Value.bool hb15) ?_
   refine zr (zg (zn ?_))
   exact ⟨_, zqO zqz, hO, hL, hF⟩
 ·rintro e σ ⟨_, hA, hO, hL, hF⟩
  rw [← zB _ _ hA]
  unfold zhn at hF
  refine zf (za hO [] [(0, .slice none 0 0), (1, zqP (IntKind.i64.wrap (p1 - (IntKind.i64.wrap (0 - 0)))))] zqA fun j => ?_)
  refine zf (za hO [] [(0, .slice none 0 0), (1, zqP (IntKind.i64.wrap (p1 - (IntKind.i64.wrap (0 - 0))))), (16, .bool (decide ((IntKind.i64.wrap (p1 - (IntKind.i64.wrap (0 - 0)))) > 0)))] zqB fun j => ?_)
  rcases zi hF with ⟨hb4, hF⟩ | ⟨hb4, hF⟩
  ·refine zl (congrArg Value.bool hb4) ?_
   refine zb hO 3 [] [(0, .slice none 0 0), (1, zqP (IntKind.i64.wrap (p1 - (IntKind.i64.wrap (0 - 0))))), (17, .slice none 0 0), (19, zqP 0)] zqC fun j => ?_
   refine zmV rfl rfl rfl ?_
   refine zb hO 1 [] [(0, .slice none 0 0), (20, .slice none 0 0), (21, zqP (IntKind.i64.wrap (p1 - (IntKind.i64.wrap (0 - 0)))))] zqB fun j => ?_
   have hO := hO.no
   have hO : Obs _ _ [_] := hO
   have w5 := zd.nil0 (T := Ty.u8) (ty := 5) hO
   obtain ⟨_, g10, hF⟩ := bind_some hF
   obtain ⟨_, hr11, hF⟩ := bind_some hF
   refine znF (T := Ty.u8) (z := (0 : UInt8)) hO w5 (i := 0) rfl rfl rfl (zpi g10) (show _ = _ from rfl) hr11 (by decide) fun _ σ o8 w9 hO => ?_
   obtain ⟨A6, c7, rfl, -⟩ := w9.form
   have hO : Obs _ _ [_] := hO
   refine zb hO 2 [] [(22, .slice A6 (([] : List UInt8) ++ List.replicate (Int.toNat (IntKind.i64.wrap (p1 - (IntKind.i64.wrap (0 - 0))))) (0 : UInt8)).length c7), (24, zqP 0)] zqA fun j => ?_
   obtain ⟨y12, g13, hF⟩ := bind_some hF
   refine znV (T := Ty.u8) w9 rfl rfl g13 fun w14 => ?_
   refine za hO [] [(0, .slice A6 y12.length c7)] zqz fun j => ?_
   refine za hO [] [(4, .slice A6 y12.length c7)] zqz fun j => ?_
   refine zp ?_
   injection hF with hF
   subst hF
   exact hQ _ _ _ _ _ rfl hO hL ⟨_, _, rfl, rfl, w14⟩
  ·refine zj (congrArg Value.bool hb4) ?_
   refine zr (za hO [] [(4, .slice none 0 0)] zqz fun j => ?_)
   refine zp ?_
   have hO := hO.no
   have hO : Obs _ _ [_] := hO
   injection hF with hF
   subst hF
   exact hQ _ _ _ _ _ rfl hO hL ⟨_, _, rfl, rfl, (zd.nil _ _ _)⟩
theorem zp1 {τ : Hp} {v0 : Value} {p0 : (List (List UInt8))} (r0 : RdT (Ty.slice Ty.u8) τ v0 p0) {rr : (List UInt8)} (hF : zh2 p0 = some rr) :
  Ctr Tryz.prog 124 #[v0] τ [] (fun v τ' vs' => ∃ (v0 : Value) (o0 : Ob), v = v0 ∧ vs' = [o0] ∧ zd Ty.u8 5 τ' v0 rr o0) := by
 obtain ⟨A0, c0, rfl, -⟩ := r0.form
 refine zw (args := [.slice A0 p0.length c0]) hm Tryz.func124 zpz rfl fun w0 σ hO Q hQ => ?_
 unfold zh2 at hF
 have hL := Hp.le.refl τ
 show wpn _ _ zjs.body _ _ _
 unfold zjs
 dsimp only
 refine za hO [] [(0, .slice A0 p0.length c0)] zqz fun j => ?_
 refine za hO [] [(0, .slice A0 p0.length c0), (3, zqP 0)] zqA fun j => ?_
 refine zf (za hO [] [(0, .slice A0 p0.length c0), (3, zqP 0), (9, .slice A0 p0.length c0), (10, zqP (p0.length : Int)), (11, zqP 0)] zqD fun j => ?_)
 refine zO (zbo (fun (n : Nat) e' σ' => ∃ (x84 : Int) (x86 : Int) (τ' : Hp), agr [(0, .slice A0 p0.length c0), (3, zqP x84), (9, .slice A0 p0.length c0), (10, zqP (p0.length : Int)), (11, zqP x86)] e' ∧ Obs τ' σ' [] ∧ Hp.le τ τ' ∧ RdT (Ty.slice Ty.u8) τ' (.slice A0 p0.length c0) p0 ∧ RdT (Ty.slice Ty.u8) τ' (.slice A0 p0.length c0) p0 ∧ zfk p0 n x84 x86 = some rr) big ⟨0, 0, _, zqO zqC, hO, hL, r0, r0, hF⟩ ?_)
 clear hF hO hL
 rintro n166 e σ ⟨x84, x86, _, hA, hO, hL, r83, r85, hF⟩
 rw [← zB _ _ hA]
 cases n166 with
 | zero => exact nomatch (show none = some rr from hF)
 | succ n166 =>
  replace hF : zfI (zfk p0 n166) p0 x84 x86 = some rr := hF
  unfold zfI at hF
  refine za hO [] [(0, .slice A0 p0.length c0), (3, zqP x84), (9, .slice A0 p0.length c0), (10, zqP (p0.length : Int)), (11, zqP x86), (12, .bool (decide (x86 < (p0.length : Int))))] zqE fun j => ?_
  rcases zi hF with ⟨hb167, hF⟩ | ⟨hb167, hF⟩
  ·refine zl (congrArg Value.bool hb167) ?_
   refine zr (zO ?_)
   obtain ⟨y168, g169, hF⟩ := bind_some hF
   refine zb9 (T := (Ty.slice Ty.u8)) r85 hO.base rfl rfl g169 (by decide) fun a170 _ k171 m172 => ?_
   obtain ⟨v173, rfl, r174⟩ := k171
   obtain ⟨A175, c176, rfl, -⟩ := r174.form
   refine zX rfl (m172.le hO.base).fst ?_
   refine za hO [] [(0, .slice A0 p0.length c0), (3, zqP x84), (5, .slice A175 y168.length c176), (9, .slice A0 p0.length c0), (10, zqP (p0.length : Int)), (11, zqP x86)] zqE fun j => ?_
   refine za hO [] [(0, .slice A0 p0.length c0), (3, zqP (IntKind.i64.wrap (x84 + (y168.length : Int)))), (9, .slice A0 p0.length c0), (10, zqP (p0.length : Int)), (11, zqP x86)] zqD fun j => ?_
   refine za hO [] [(0, .slice A0 p0.length c0), (3, zqP (IntKind.i64.wrap (x84 + (y168.length : Int)))), (9, .slice A0 p0.length c0), (10, zqP (p0.length : Int)), (11, zqP x86), (20, .bool (decide ((IntKind.i64.wrap (x84 + (y168.length : Int))) < 0)))] zqE fun j => ?_
   refine z8 ?_
   rcases zi hF with ⟨hb177, hF⟩ | ⟨hb177, hF⟩
   ·refine zl (congrArg Value.bool hb177) ?_
    refine zb hO 1 [] [(0, .slice A0 p0.length c0), (3, zqP (IntKind.i64.wrap (x84 + (y168.length : Int)))), (9, .slice A0 p0.length c0), (10, zqP (p0.length : Int)), (11, zqP x86), (21, .iface 9 (.string (⟨#[108, 101, 110, 32, 111, 117, 116, 32, 111, 102, 32, 114, 97, 110, 103, 101]⟩ : ByteArray)))] zqE fun j => ?_
    exact nomatch (show none = some _ from hF)
   ·refine zj (congrArg Value.bool hb177) ?_
    refine zr (zg (zK (zn (zQ (za hO [] [(0, .slice A0 p0.length c0), (3, zqP (IntKind.i64.wrap (x84 + (y168.length : Int)))), (9, .slice A0 p0.length c0), (10, zqP (p0.length : Int)), (11, zqP (IntKind.i64.wrap (x86 + 1)))] zqD fun j => ?_)))))
    refine zg (zn ?_)
    exact ⟨n166, Nat.lt_succ_self _, (IntKind.i64.wrap (x84 + (y168.length : Int))), (IntKind.i64.wrap (x86 + 1)), _, zqO zqC, hO, hL, r83, r85, hF⟩
  ·refine zj (congrArg Value.bool hb167) ?_
   refine zbs (zbr (zbn (zn (zb hO 1 [] [(0, .slice A0 p0.length c0), (23, zqP x84)] zqA fun j => ?_))))
   obtain ⟨c178, h179, hF⟩ := bind_some hF
   refine zs hO (zm4 (RdT.nil Ty.u8 _) h179) rfl fun _ σ _ _ hO h180 h181 => ?_
   have hL := hL.trans h180
   have r83 := r83.le h180
   obtain ⟨v182, o185, rfl, rfl, w186⟩ := h181
   obtain ⟨A183, c184, rfl, -⟩ := w186.form
   have hO : Obs _ _ [_] := hO
   refine za hO [] [(0, .slice A0 p0.length c0), (6, .slice A183 c178.length c184)] zqA fun j => ?_
   refine zf (za hO [] [(6, .slice A183 c178.length c184), (25, .slice A0 p0.length c0), (26, zqP (p0.length : Int)), (27, zqP 0)] zqC fun j => ?_)
   refine zO (zbo (fun (n : Nat) e' σ' => ∃ (A208 : Option Addr) (c209 : Nat) (o210 : Ob) (x211 : List UInt8) (x214 : Int) (τ' : Hp), agr [(6, .slice A208 x211.length c209), (25, .slice A0 p0.length c0), (26, zqP (p0.length : Int)), (27, zqP x214)] e' ∧ Obs τ' σ' [o210] ∧ Hp.le τ τ' ∧ zd Ty.u8 5 τ' (.slice A208 x211.length c209) x211 o210 ∧ RdT (Ty.slice Ty.u8) τ' (.slice A0 p0.length c0) p0 ∧ ze8 p0 n x211 x214 = some rr) big ⟨A183, c184, o185, c178, 0, _, zqO zqB, hO, hL, w186, r83, hF⟩ ?_)
   clear hF hO hL
   rintro n230 e σ ⟨A208, c209, o210, x211, x214, _, hA, hO, hL, w212, r213, hF⟩
   rw [← zB _ _ hA]
   cases n230 with
   | zero => exact nomatch (show none = some rr from hF)
   | succ n230 =>
    replace hF : zfS (ze8 p0 n230) p0 x211 x214 = some rr := hF
    unfold zfS at hF
    refine za hO [] [(6, .slice A208 x211.length c209), (25, .slice A0 p0.length c0), (26, zqP (p0.length : Int)), (27, zqP x214), (28, .bool (decide (x214 < (p0.length : Int))))] zqD fun j => ?_
    rcases zi hF with ⟨hb231, hF⟩ | ⟨hb231, hF⟩
    ·refine zl (congrArg Value.bool hb231) ?_
     refine zr (zO ?_)
     obtain ⟨y232, g233, hF⟩ := bind_some hF
     refine zb9 (T := (Ty.slice Ty.u8)) r213 hO.base rfl rfl g233 (by decide) fun a234 _ k235 m236 => ?_
     obtain ⟨v237, rfl, r238⟩ := k235
     obtain ⟨A239, c240, rfl, -⟩ := r238.form
     refine zX rfl (m236.le hO.base).fst ?_
     refine za hO [] [(6, .slice A208 x211.length c209), (8, .slice A239 y232.length c240), (25, .slice A0 p0.length c0), (26, zqP (p0.length : Int)), (27, zqP x214)] zqD fun j => ?_
     refine zQ (zb hO 2 [] [(25, .slice A0 p0.length c0), (26, zqP (p0.length : Int)), (27, zqP x214), (31, .slice A208 x211.length c209), (32, .slice A239 y232.length c240)] zqD fun j => ?_)
     obtain ⟨_, hr245, hF⟩ := bind_some hF
     refine zfA (T := Ty.u8) hO w212 (i := 0) rfl rfl rfl r238 hr245 (by decide) fun _ σ o243 w244 hO => ?_
     obtain ⟨A241, c242, rfl, -⟩ := w244.form
     have hO : Obs _ _ [_] := hO
     refine za hO [] [(6, .slice A241 (x211 ++ y232).length c242), (25, .slice A0 p0.length c0), (26, zqP (p0.length : Int)), (27, zqP x214)] zqC fun j => ?_
     refine zg (zK (zn (zQ (za hO [] [(6, .slice A241 (x211 ++ y232).length c242), (25, .slice A0 p0.length c0), (26, zqP (p0.length : Int)), (27, zqP (IntKind.i64.wrap (x214 + 1)))] zqC fun j => ?_))))
     refine zg (zn ?_)
     exact ⟨n230, Nat.lt_succ_self _, A241, c242, o243, (x211 ++ y232), (IntKind.i64.wrap (x214 + 1)), _, zqO zqB, hO, hL, w244, r213, hF⟩
    ·refine zj (congrArg Value.bool hb231) ?_
     refine zbs (zbr (zbn (zn (za hO [] [(2, .slice A208 x211.length c209)] zqz fun j => ?_))))
     refine zp ?_
     injection hF with hF
     subst hF
     exact hQ _ _ _ _ _ rfl hO hL ⟨_, _, rfl, rfl, w212⟩
theorem zpw {τ : Hp} {v0 : Value} {p0 : (List UInt8)} {p1 : Int} (r0 : RdT Ty.u8 τ v0 p0) {rr : (List UInt8) × Int} (hF : zfi p0 p1 = some rr) :
  Ctr Tryz.prog 111 #[v0, .int .i64 p1] τ [] (fun v τ' vs' => ∃ (v0 : Value) (o0 : Ob), v = .tuple #[v0, .int .i64 rr.2] ∧ vs' = [o0] ∧ zd Ty.u8 5 τ' v0 rr.1 o0) := by
 obtain ⟨A0, c0, rfl, -⟩ := r0.form
 refine zw (args := [.slice A0 p0.length c0, .int .i64 p1]) hm Tryz.func111 zmq rfl fun w0 σ hO Q hQ => ?_
 unfold zfi at hF
 have hL := Hp.le.refl τ
 show wpn _ _ zem.body _ _ _
 unfold zem
 dsimp only
 refine za hO [] [(0, .slice A0 p0.length c0), (1, zqP p1)] zqA fun j => ?_
 refine zf (za hO [] [(0, .slice A0 p0.length c0), (1, zqP p1), (13, .bool ((decide (p1 < 0)) || (decide (p1 ≥ 16777216))))] (And.intro (And.intro rfl rfl) (fun _ => zqO zqA)) fun j => ?_)
 rcases zi hF with ⟨hb3, hF⟩ | ⟨hb3, hF⟩
 ·refine zl (congrArg Value.bool hb3) ?_
  refine zf (za hO [] [(4, .slice none 0 0), (5, zqP 1)] zqA fun j => ?_)
  refine zA ?_
  have hO := hO.no
  have hO : Obs _ _ [_] := hO
  injection hF with hF
  subst hF
  exact hQ _ _ _ _ _ rfl hO hL ⟨_, _, rfl, rfl, (zd.nil _ _ _)⟩
 ·refine zj (congrArg Value.bool hb3) ?_
  refine zr (zqj (T := Ty.u8) (l := ([(0 : UInt8), (0 : UInt8), (0 : UInt8)] : List UInt8)) hO ⟨[.int .u8 0], _, rfl, rfl, ⟨[.int .u8 0], _, rfl, rfl, ⟨[.int .u8 0], _, rfl, rfl, rfl⟩⟩⟩ rfl (by decide) fun b4 σ o5 w6 hO => ?_)
  have hO : Obs _ _ [_] := hO
  refine zh (zf (za hO [] [(0, .slice A0 p0.length c0), (1, zqP p1), (6, zqQ b4), (14, zqP 0)] zqC fun j => ?_))
  refine zO (zbo (fun (n : Nat) e' σ' => ∃ (o43 : Ob) (x44 : List UInt8) (x46 : Int) (τ' : Hp), agr [(0, .slice A0 p0.length c0), (1, zqP p1), (6, zqQ b4), (14, zqP x46)] e' ∧ Obs τ' σ' [o43] ∧ Hp.le τ τ' ∧ RdT Ty.u8 τ' (.slice A0 p0.length c0) p0 ∧ zd Ty.u8 135 τ' (.slice (some ⟨b4, 0, none⟩) 3 3) x44 o43 ∧ zeM p0 p1 n x44 x46 = some rr) big ⟨o5, ([(0 : UInt8), (0 : UInt8), (0 : UInt8)] : List UInt8), 0, _, zqO zqB, hO, hL, r0, w6, hF⟩ ?_)
  clear hF hO hL
  rintro n78 e σ ⟨o43, x44, x46, _, hA, hO, hL, r42, w45, hF⟩
  rw [← zB _ _ hA]
  cases n78 with
  | zero => exact nomatch (show none = some rr from hF)
  | succ n78 =>
   replace hF : zhU (zeM p0 p1 n78) p0 p1 x44 x46 = some rr := hF
   unfold zhU at hF
   refine za hO [] [(0, .slice A0 p0.length c0), (1, zqP p1), (6, zqQ b4), (14, zqP x46), (15, .bool (decide (x46 < 3)))] zqD fun j => ?_
   rcases zi hF with ⟨hb79, hF⟩ | ⟨hb79, hF⟩
   ·refine zl (congrArg Value.bool hb79) ?_
    refine zr (zO (za hO [] [(0, .slice A0 p0.length c0), (1, zqP p1), (6, zqQ b4), (7, zqP x46), (14, zqP x46)] zqD fun j => ?_))
    refine zQ (zb hO 5 [] [(0, .slice A0 p0.length c0), (1, zqP p1), (6, zqQ b4), (14, zqP x46), (18, zqP (IntKind.i64.wrap (2 - x46))), (19, zqP p1), (21, zqP (IntKind.i64.wrap (8 * x46)))] zqF fun j => ?_)
    obtain ⟨y80, g81, hF⟩ := bind_some hF
    refine zcW (zlR g81) ?_
    refine zb hO 1 [] [(0, .slice A0 p0.length c0), (1, zqP p1), (6, zqQ b4), (14, zqP x46), (18, zqP (IntKind.i64.wrap (2 - x46))), (23, .int .u8 (IntKind.u8.wrap y80))] zqE fun j => ?_
    obtain ⟨y82, g83, hF⟩ := bind_some hF
    refine zoa (T := Ty.u8) hO w45 (i := 0) rfl rfl rfl g83 rfl fun a84 _ k85 m86 i87 => ?_
    have k88 := k85
    obtain rfl : _ = ([.int .u8 y82.toNat] : List Value) := k88
    obtain ⟨z89, hz89, hF⟩ := bind_some hF
    refine zeI (T := Ty.u8) (z' := z89) (off := 0) (vs := [.int .u8 (IntKind.u8.wrap y80)]) hO w45 (i := 0) rfl (by rw [add_zero]; rfl) i87 g83 k85 m86 rfl rfl rfl rfl (by decide) (u8R hz89) fun σ o90 w91 hO => ?_
    have hO : Obs _ _ [_] := hO
    refine zh (zg (zK (zn (zQ (za hO [] [(0, .slice A0 p0.length c0), (1, zqP p1), (6, zqQ b4), (14, zqP (IntKind.i64.wrap (x46 + 1)))] zqC fun j => ?_)))))
    refine zg (zn ?_)
    exact ⟨n78, Nat.lt_succ_self _, o90, (x44.set (Int.toNat (IntKind.i64.wrap (2 - x46))) z89), (IntKind.i64.wrap (x46 + 1)), _, zqO zqB, hO, hL, r42, w91, hF⟩
   ·refine zj (congrArg Value.bool hb79) ?_
    refine zbs (zbr (zbn (zn (zb hO 1 [] [(6, zqQ b4), (26, .slice A0 p0.length c0)] zqA fun j => ?_))))
    refine zoL (T := Ty.u8) rfl ?_
    have l94 : 3 = x44.length := w45.len
    obtain ⟨_, h93, r92, hO⟩ := w45.share hO (i := 0) rfl
    have hL := hL.trans h93
    have r42 := r42.le h93
    have hO : Obs _ _ [_] := hO
    refine zby (T := (Ty.slice Ty.u8)) (l := ([p0, x44] : List (List UInt8))) (cs := [.slice A0 p0.length c0, .slice (some ⟨b4, 0, none⟩) 3 3]) hO rfl ⟨[.slice A0 p0.length c0], _, rfl, ⟨_, rfl, r42⟩, ⟨[.slice (some ⟨b4, 0, none⟩) 3 3], _, rfl, ⟨_, rfl, r92⟩, rfl⟩⟩ rfl (by decide) fun _ σ o97 w98 hO => ?_
    obtain ⟨A95, c96, rfl, -⟩ := w98.form
    have hO : Obs _ _ [_, _] := hO
    obtain ⟨_, h100, r99, hO⟩ := w98.share hO (i := 1) rfl
    have hL := hL.trans h100
    have r42 := r42.le h100
    have r92 := r92.le h100
    have hO : Obs _ _ [_, _] := hO
    obtain ⟨c101, h102, hF⟩ := bind_some hF
    refine zs hO (zp1 r99 h102) rfl fun _ σ _ _ hO h103 h104 => ?_
    have hL := hL.trans h103
    have r42 := r42.le h103
    have r92 := r92.le h103
    have r99 := r99.le h103
    obtain ⟨v105, o108, rfl, rfl, w109⟩ := h104
    obtain ⟨A106, c107, rfl, -⟩ := w109.form
    have hO : Obs _ _ [_, _, _] := hO
    refine za hO [] [(4, .slice A106 c101.length c107), (5, zqP 0)] zqA fun j => ?_
    refine zp ?_
    injection hF with hF
    subst hF
    have hO := hO.sel [2] (by decide)
    exact hQ _ _ _ _ _ rfl hO hL ⟨_, _, rfl, rfl, w109⟩
theorem zmQ {τ : Hp} {v0 : Value} {p0 : (List UInt8)} {p1 : Int} (r0 : RdT Ty.u8 τ v0 p0) {rr : Int × Int × Int} (hF : zdF p0 p1 = some rr) :
  Ctr Tryz.prog 113 #[v0, .int .i64 p1] τ [] (fun v τ' vs' => v = .tuple #[.int .i64 rr.1, .int .i64 rr.2.1, .int .i64 rr.2.2] ∧ vs' = []) := by
 obtain ⟨A0, c0, rfl, -⟩ := r0.form
 refine zw (args := [.slice A0 p0.length c0, .int .i64 p1]) hm Tryz.func113 zpH rfl fun w0 σ hO Q hQ => ?_
 unfold zdF at hF
 have hL := Hp.le.refl τ
 show wpn _ _ zjv.body _ _ _
 unfold zjv
 dsimp only
 refine za hO [] [(0, .slice A0 p0.length c0), (1, zqP p1), (4, zqP 0)] zqB fun j => ?_
 refine zb hO 2 [] [(4, zqP 0), (11, .slice A0 p0.length c0), (12, zqP p1)] zqB fun j => ?_
 obtain ⟨c3, h4, hF⟩ := bind_some hF
 refine zs hO (zkO r0 h4) rfl fun _ σ _ _ hO h5 h6 => ?_
 have hL := hL.trans h5
 have r0 := r0.le h5
 obtain ⟨v7, rfl, rfl, r10⟩ := h6
 obtain ⟨A8, c9, rfl, -⟩ := r10.form
 have hO : Obs _ _ [] := hO
 refine za hO [] [(4, zqP 0), (5, zqP c3.2.1), (6, zqP c3.2.2), (7, .slice A8 c3.1.length c9)] zqC fun j => ?_
 refine zf (za hO [] [(4, zqP 0), (5, zqP c3.2.1), (6, zqP c3.2.2), (17, .slice A8 c3.1.length c9), (18, zqP (c3.1.length : Int)), (19, zqP 0)] zqE fun j => ?_)
 refine zO (zbo (fun (n : Nat) e' σ' => ∃ (x18 : Int) (x20 : Int) (τ' : Hp), agr [(4, zqP x18), (5, zqP c3.2.1), (6, zqP c3.2.2), (17, .slice A8 c3.1.length c9), (18, zqP (c3.1.length : Int)), (19, zqP x20)] e' ∧ Obs τ' σ' [] ∧ Hp.le τ τ' ∧ RdT Ty.u8 τ' (.slice A8 c3.1.length c9) c3.1 ∧ zej c3 n x18 x20 = some rr) big ⟨0, 0, _, zqO zqD, hO, hL, r10, hF⟩ ?_)
 clear hF hO hL
 rintro n27 e σ ⟨x18, x20, _, hA, hO, hL, r19, hF⟩
 rw [← zB _ _ hA]
 cases n27 with
 | zero => exact nomatch (show none = some rr from hF)
 | succ n27 =>
  replace hF : zhM (zej c3 n27) c3 x18 x20 = some rr := hF
  unfold zhM at hF
  refine za hO [] [(4, zqP x18), (5, zqP c3.2.1), (6, zqP c3.2.2), (17, .slice A8 c3.1.length c9), (18, zqP (c3.1.length : Int)), (19, zqP x20), (20, .bool (decide (x20 < (c3.1.length : Int))))] zqF fun j => ?_
  rcases zi hF with ⟨hb28, hF⟩ | ⟨hb28, hF⟩
  ·refine zl (congrArg Value.bool hb28) ?_
   refine zr (zO ?_)
   obtain ⟨y29, g30, hF⟩ := bind_some hF
   refine zb9 (T := Ty.u8) r19 hO.base rfl rfl g30 (by decide) fun a31 _ k32 m33 => ?_
   obtain rfl : _ = ([.int .u8 y29.toNat] : List Value) := k32
   refine zX rfl (m33.le hO.base).fst ?_
   refine za hO [] [(4, zqP x18), (5, zqP c3.2.1), (6, zqP c3.2.2), (9, .int .u8 (y29.toNat : Int)), (17, .slice A8 c3.1.length c9), (18, zqP (c3.1.length : Int)), (19, zqP x20)] zqF fun j => ?_
   refine zQ (za hO [] [(4, zqP (orI .i64 (zbZ .i64 x18 8) (IntKind.i64.wrap (y29.toNat : Int)))), (5, zqP c3.2.1), (6, zqP c3.2.2), (17, .slice A8 c3.1.length c9), (18, zqP (c3.1.length : Int)), (19, zqP x20)] zqE fun j => ?_)
   refine zg (zK (zn (zQ (za hO [] [(4, zqP (orI .i64 (zbZ .i64 x18 8) (IntKind.i64.wrap (y29.toNat : Int)))), (5, zqP c3.2.1), (6, zqP c3.2.2), (17, .slice A8 c3.1.length c9), (18, zqP (c3.1.length : Int)), (19, zqP (IntKind.i64.wrap (x20 + 1)))] zqE fun j => ?_))))
   refine zg (zn ?_)
   exact ⟨n27, Nat.lt_succ_self _, (orI .i64 (zbZ .i64 x18 8) (IntKind.i64.wrap (y29.toNat : Int))), (IntKind.i64.wrap (x20 + 1)), _, zqO zqD, hO, hL, r19, hF⟩
  ·refine zj (congrArg Value.bool hb28) ?_
   refine zbs (zbr (zbn (zn (za hO [] [(4, zqP x18), (5, zqP c3.2.1), (6, zqP c3.2.2)] zqB fun j => ?_))))
   refine zp ?_
   injection hF with hF
   subst hF
   exact hQ _ _ _ _ _ rfl hO hL ⟨rfl, rfl⟩
theorem zmw {τ : Hp} {v0 : Value} {p0 : (List UInt8)} {p1 : Int} {q2 : zc} {bm2 : Nat} (r0 : RdT Ty.u8 τ v0 p0) {rr : Int × Bool × zc} (hF : zfw p0 p1 q2 = some rr) :
  Ctr Tryz.prog 112 #[v0, .int .i64 p1, .pointer (some ⟨bm2, 0, none⟩)] τ [some (bm2, ⟨[.int .u8 q2.Kind.toNat, .int .u8 q2.Op.toNat, .int .i64 q2.R, .int .i64 q2.S, .int .i64 q2.T, .int .i64 q2.N, .int .i64 q2.M], 54, 7, true⟩)] (fun v τ' vs' => v = .tuple #[.int .i64 rr.1, .bool rr.2.1] ∧ vs' = [some (bm2, ⟨[.int .u8 rr.2.2.Kind.toNat, .int .u8 rr.2.2.Op.toNat, .int .i64 rr.2.2.R, .int .i64 rr.2.2.S, .int .i64 rr.2.2.T, .int .i64 rr.2.2.N, .int .i64 rr.2.2.M], 54, 7, true⟩)]) := by
 obtain ⟨A0, c0, rfl, -⟩ := r0.form
 refine zw (args := [.slice A0 p0.length c0, .int .i64 p1, .pointer (some ⟨bm2, 0, none⟩)]) hm Tryz.func112 znH rfl fun w0 σ hO Q hQ => ?_
 unfold zfw at hF
 have hL := Hp.le.refl τ
 show wpn _ _ zjb.body _ _ _
 unfold zjb
 dsimp only
 refine za hO [] [(0, .slice A0 p0.length c0), (1, zqP p1), (2, zqQ bm2)] zqB fun j => ?_
 refine zb hO 2 [] [(2, zqQ bm2), (12, .slice A0 p0.length c0), (13, zqP p1)] zqB fun j => ?_
 obtain ⟨c4, h5, hF⟩ := bind_some hF
 refine zs hO (zmQ r0 h5) rfl fun _ σ _ _ hO h6 h7 => ?_
 have hL := hL.trans h6
 have r0 := r0.le h6
 obtain ⟨rfl, rfl⟩ := h7
 have hO : Obs _ _ [_] := hO
 refine za hO [] [(2, zqQ bm2), (8, zqP c4.1), (9, zqP c4.2.1), (10, zqP c4.2.2)] zqC fun j => ?_
 refine zb hO 4 [] [(2, zqQ bm2), (9, zqP c4.2.1), (10, zqP c4.2.2), (19, zqP c4.1), (21, .pointer (some ⟨bm2, 5, none⟩))] zqD fun j => ?_
 refine zI hO (i := 0) rfl (off := 5) rfl rfl rfl rfl (Nat.le_of_ble_eq_true rfl) rfl fun σ hO => ?_
 have hO : Obs _ _ [_] := hO
 refine zh (za hO [] [(2, zqQ bm2), (6, zqP c4.2.1), (7, .bool (c4.2.2 == 0))] zqB fun j => ?_)
 refine zp ?_
 injection hF with hF
 subst hF
 exact hQ _ _ _ _ _ rfl hO hL ⟨rfl, rfl⟩
theorem zkX {τ : Hp}   {rr : zx} (hF : zh3  = some rr) :
  Ctr Tryz.prog 81 #[] τ [] (fun v τ' vs' => ∃ (f0_0 : Fn) (a0_0 c0_0 : Array Value) (f0_1 : Fn) (a0_1 c0_1 : Array Value) (f0_2 : Fn) (a0_2 c0_2 : Array Value), v = .agg #[.func f0_0 a0_0 c0_0, .func f0_1 a0_1 c0_1, .func f0_2 a0_2 c0_2] ∧ vs' = [] ∧ zbz τ' rr (.func f0_0 a0_0 c0_0) (.func f0_1 a0_1 c0_1) (.func f0_2 a0_2 c0_2)) := by
 refine zw (args := []) hm Tryz.func81 s81 rfl fun w0 σ hO Q hQ => ?_
 unfold zh3 at hF
 have hL := Hp.le.refl τ
 show wpn _ _ a81.body _ _ _
 unfold a81
 dsimp only
 refine zbp hO fun b1 σ hO => ?_
 have hO : Obs _ _ [_] := hO
 refine zh (zb hO 1 [] [(0, zqQ b1), (1, .agg #[(.func (.func 109) #[] #[]), (.func (.func 110) #[] #[]), (.func (.func 112) #[] #[])])] zqA fun j => ?_)
 refine zI hO (i := 0) rfl (off := 0) rfl rfl rfl rfl (Nat.le_of_ble_eq_true rfl) rfl fun σ hO => ?_
 have hO : Obs _ _ [_] := hO
 refine zh (zp ?_)
 injection hF with hF
 subst hF
 have hV0 := hO.val (i := 0) rfl (off := 0) (agg := true) (n := 3) rfl
 have hO := hO.sel [] (by decide)
 exact hQ _ _ _ _ _ (zbu rfl (hV0) rfl) hO hL ⟨_, _, _, _, _, _, _, _, _, rfl, rfl, ⟨rfl, rfl, rfl⟩⟩
theorem zmc {τ : Hp} {q0 : zc} {bm0 : Nat}  {rr : Bool × zc} (hF : zhZ q0 = some rr) :
  Ctr Tryz.prog 114 #[.pointer (some ⟨bm0, 0, none⟩)] τ [some (bm0, ⟨[.int .u8 q0.Kind.toNat, .int .u8 q0.Op.toNat, .int .i64 q0.R, .int .i64 q0.S, .int .i64 q0.T, .int .i64 q0.N, .int .i64 q0.M], 54, 7, true⟩)] (fun v τ' vs' => v = .bool rr.1 ∧ vs' = [some (bm0, ⟨[.int .u8 rr.2.Kind.toNat, .int .u8 rr.2.Op.toNat, .int .i64 rr.2.R, .int .i64 rr.2.S, .int .i64 rr.2.T, .int .i64 rr.2.N, .int .i64 rr.2.M], 54, 7, true⟩)]) := by
 refine zw (args := [.pointer (some ⟨bm0, 0, none⟩)]) hm Tryz.func114 znj rfl fun w0 σ hO Q hQ => ?_
 unfold zhZ at hF
 have hL := Hp.le.refl τ
 show wpn _ _ zeU.body _ _ _
 unfold zeU
 dsimp only
 refine za hO [] [(0, zqQ bm0)] zqz fun j => ?_
 refine za hO [0, 0] [(0, zqQ bm0), (2, .bool ((decide (q0.N ≥ 2)) && (decide (q0.N ≤ 4))))] (And.intro (And.intro rfl rfl) (And.intro (And.intro rfl rfl) (And.intro (And.intro rfl rfl) (fun _ => zqO zqz)))) fun j => ?_
 refine zp ?_
 injection hF with hF
 subst hF
 exact hQ _ _ _ _ _ rfl hO hL ⟨rfl, rfl⟩
theorem zoS {τ : Hp} {q0 : zc} {bm0 : Nat}  {rr : Int × zc} (hF : zhO q0 = some rr) :
  Ctr Tryz.prog 115 #[.pointer (some ⟨bm0, 0, none⟩)] τ [some (bm0, ⟨[.int .u8 q0.Kind.toNat, .int .u8 q0.Op.toNat, .int .i64 q0.R, .int .i64 q0.S, .int .i64 q0.T, .int .i64 q0.N, .int .i64 q0.M], 54, 7, true⟩)] (fun v τ' vs' => v = .int .u8 rr.1 ∧ vs' = [some (bm0, ⟨[.int .u8 rr.2.Kind.toNat, .int .u8 rr.2.Op.toNat, .int .i64 rr.2.R, .int .i64 rr.2.S, .int .i64 rr.2.T, .int .i64 rr.2.N, .int .i64 rr.2.M], 54, 7, true⟩)]) := by
 refine zw (args := [.pointer (some ⟨bm0, 0, none⟩)]) hm Tryz.func115 zl4 rfl fun w0 σ hO Q hQ => ?_
 unfold zhO at hF
 have hL := Hp.le.refl τ
 show wpn _ _ zh7.body _ _ _
 unfold zh7
 dsimp only
 refine za hO [] [(0, zqQ bm0)] zqz fun j => ?_
 refine za hO [0] [(0, zqQ bm0), (2, .int .u8 (IntKind.u8.wrap q0.N))] (And.intro (And.intro rfl rfl) zqA) fun j => ?_
 refine zp ?_
 injection hF with hF
 subst hF
 exact hQ _ _ _ _ _ rfl hO hL ⟨rfl, rfl⟩
theorem zpt {τ : Hp} {q0 : zc} {bm0 : Nat} {p1 : Int}  {rr : zc} (hF : zfO q0 p1 = some rr) :
  Ctr Tryz.prog 116 #[.pointer (some ⟨bm0, 0, none⟩), .int .u8 p1] τ [some (bm0, ⟨[.int .u8 q0.Kind.toNat, .int .u8 q0.Op.toNat, .int .i64 q0.R, .int .i64 q0.S, .int .i64 q0.T, .int .i64 q0.N, .int .i64 q0.M], 54, 7, true⟩)] (fun v τ' vs' => v = .tuple #[] ∧ vs' = [some (bm0, ⟨[.int .u8 rr.Kind.toNat, .int .u8 rr.Op.toNat, .int .i64 rr.R, .int .i64 rr.S, .int .i64 rr.T, .int .i64 rr.N, .int .i64 rr.M], 54, 7, true⟩)]) := by
 refine zfJ (args := [.pointer (some ⟨bm0, 0, none⟩), .int .u8 p1]) hm Tryz.func116 zql rfl fun w0 σ hO Q hQ => ?_
 unfold zfO at hF
 have hL := Hp.le.refl τ
 show wpn _ _ zio.body _ _ _
 unfold zio
 dsimp only
 refine zQ (zb hO 5 [] [(0, zqQ bm0), (6, zqP (IntKind.i64.wrap p1)), (8, .pointer (some ⟨bm0, 5, none⟩))] zqB fun j => ?_)
 refine zI hO (i := 0) rfl (off := 5) rfl rfl rfl rfl (Nat.le_of_ble_eq_true rfl) rfl fun σ hO => ?_
 have hO : Obs _ _ [_] := hO
 refine zh (zg ?_)
 injection hF with hF
 subst hF
 exact (hQ _ _ _ _ _ rfl hO hL ⟨rfl, rfl⟩).2
theorem zo8 {τ : Hp}   {rr : zx} (hF : ziD  = some rr) :
  Ctr Tryz.prog 84 #[.func (.func 114) #[] #[], .func (.func 115) #[] #[], .func (.func 116) #[] #[]] τ [] (fun v τ' vs' => ∃ (f0_0 : Fn) (a0_0 c0_0 : Array Value) (f0_1 : Fn) (a0_1 c0_1 : Array Value) (f0_2 : Fn) (a0_2 c0_2 : Array Value), v = .agg #[.func f0_0 a0_0 c0_0, .func f0_1 a0_1 c0_1, .func f0_2 a0_2 c0_2] ∧ vs' = [] ∧ zbz τ' rr (.func f0_0 a0_0 c0_0) (.func f0_1 a0_1 c0_1) (.func f0_2 a0_2 c0_2)) := by
 refine zw (args := [.func (.func 114) #[] #[], .func (.func 115) #[] #[], .func (.func 116) #[] #[]]) hm Tryz.func84 s84 rfl fun w0 σ hO Q hQ => ?_
 unfold ziD at hF
 have hL := Hp.le.refl τ
 show wpn _ _ a84.body _ _ _
 unfold a84
 dsimp only
 refine zbd (n := 1) hO rfl rfl fun b4 σ hO => ?_
 have hO : Obs _ _ [_] := hO
 refine zbd (n := 1) hO rfl rfl fun b5 σ hO => ?_
 have hO : Obs _ _ [_, _] := hO
 refine zbp hO fun b6 σ hO => ?_
 have hO : Obs _ _ [_, _, _] := hO
 refine zh (zb hO 4 [] [(6, zqQ b6), (10, .agg #[(.func (.func 114) #[] #[]), (.func (.func 117) #[] #[(.pointer (some ⟨b4, 0, none⟩))]), (.func (.func 118) #[] #[(.pointer (some ⟨b5, 0, none⟩))])])] zqA fun j => ?_)
 refine zI hO (i := 2) rfl (off := 0) rfl rfl rfl rfl (Nat.le_of_ble_eq_true rfl) rfl fun σ hO => ?_
 have hO : Obs _ _ [_, _, _] := hO
 refine zh (zp ?_)
 obtain ⟨_, h8, m7, hO⟩ := hO.shareV (i := 0) rfl
 have hL := hL.trans h8
 have hO : Obs _ _ [_, _, _] := hO
 obtain ⟨_, h10, m9, hO⟩ := hO.shareV (i := 1) rfl
 have hL := hL.trans h10
 have m7 := m7.le h10
 have hO : Obs _ _ [_, _, _] := hO
 injection hF with hF
 subst hF
 have hV0 := hO.val (i := 2) rfl (off := 0) (agg := true) (n := 3) rfl
 have hO := hO.sel [] (by decide)
 exact hQ _ _ _ _ _ (zbu rfl (hV0) rfl) hO hL ⟨_, _, _, _, _, _, _, _, _, rfl, rfl, ⟨(⟨b4, 0, none⟩ : Addr), (⟨b5, 0, none⟩ : Addr), rfl, rfl, rfl, m7, m9⟩⟩
theorem zmz {τ : Hp}   {rr : zx} (hF : ziy  = some rr) :
  Ctr Tryz.prog 82 #[] τ [] (fun v τ' vs' => ∃ (f0_0 : Fn) (a0_0 c0_0 : Array Value) (f0_1 : Fn) (a0_1 c0_1 : Array Value) (f0_2 : Fn) (a0_2 c0_2 : Array Value), v = .agg #[.func f0_0 a0_0 c0_0, .func f0_1 a0_1 c0_1, .func f0_2 a0_2 c0_2] ∧ vs' = [] ∧ zbz τ' rr (.func f0_0 a0_0 c0_0) (.func f0_1 a0_1 c0_1) (.func f0_2 a0_2 c0_2)) := by
 refine zw (args := []) hm Tryz.func82 s82 rfl fun w0 σ hO Q hQ => ?_
 unfold ziy at hF
 have hL := Hp.le.refl τ
 show wpn _ _ a82.body _ _ _
 unfold a82
 dsimp only
 refine zbp hO fun b1 σ hO => ?_
 have hO : Obs _ _ [_] := hO
 refine zh ?_
 obtain ⟨c2, h3, hF⟩ := bind_some hF
 refine zs hO (zo8 h3) rfl fun _ σ _ _ hO h4 h5 => ?_
 have hL := hL.trans h4
 obtain ⟨f7, a8, c9, f10, a11, c12, f13, a14, c15, rfl, rfl, r6⟩ := h5
 have hO : Obs _ _ [_] := hO
 refine zI hO (i := 0) rfl (off := 0) rfl rfl rfl rfl (Nat.le_of_ble_eq_true rfl) rfl fun σ hO => ?_
 have hO : Obs _ _ [_] := hO
 refine zh (zp ?_)
 injection hF with hF
 subst hF
 have hV0 := hO.val (i := 0) rfl (off := 0) (agg := true) (n := 3) rfl
 have hO := hO.sel [] (by decide)
 exact hQ _ _ _ _ _ (zbu rfl (hV0) rfl) hO hL ⟨_, _, _, _, _, _, _, _, _, rfl, rfl, r6⟩
theorem znS {τ : Hp}   {rr : zx} (hF : zjK  = some rr) :
  Ctr Tryz.prog 75 #[.func (.func 73) #[] #[]] τ [] (fun v τ' vs' => ∃ (f0_0 : Fn) (a0_0 c0_0 : Array Value) (f0_1 : Fn) (a0_1 c0_1 : Array Value) (f0_2 : Fn) (a0_2 c0_2 : Array Value), v = .agg #[.func f0_0 a0_0 c0_0, .func f0_1 a0_1 c0_1, .func f0_2 a0_2 c0_2] ∧ vs' = [] ∧ zbz τ' rr (.func f0_0 a0_0 c0_0) (.func f0_1 a0_1 c0_1) (.func f0_2 a0_2 c0_2)) := by
 refine zw (args := [.func (.func 73) #[] #[]]) hm Tryz.func75 s75 rfl fun w0 σ hO Q hQ => ?_
 unfold zjK at hF
 have hL := Hp.le.refl τ
 show wpn _ _ a75.body _ _ _
 unfold a75
 dsimp only
 refine zbp hO fun b2 σ hO => ?_
 have hO : Obs _ _ [_] := hO
 refine zh (zb hO 2 [] [(2, zqQ b2), (4, .agg #[(.func (.func 73) #[] #[]), (.func (.func 89) #[] #[]), (.func (.func 91) #[] #[])])] zqA fun j => ?_)
 refine zI hO (i := 0) rfl (off := 0) rfl rfl rfl rfl (Nat.le_of_ble_eq_true rfl) rfl fun σ hO => ?_
 have hO : Obs _ _ [_] := hO
 refine zh (zp ?_)
 injection hF with hF
 subst hF
 have hV0 := hO.val (i := 0) rfl (off := 0) (agg := true) (n := 3) rfl
 have hO := hO.sel [] (by decide)
 exact hQ _ _ _ _ _ (zbu rfl (hV0) rfl) hO hL ⟨_, _, _, _, _, _, _, _, _, rfl, rfl, ⟨rfl, rfl, rfl⟩⟩
theorem zi9 {τ : Hp}   {rr : zx} (hF : zfz  = some rr) :
  Ctr Tryz.prog 75 #[.func (.func 79) #[] #[]] τ [] (fun v τ' vs' => ∃ (f0_0 : Fn) (a0_0 c0_0 : Array Value) (f0_1 : Fn) (a0_1 c0_1 : Array Value) (f0_2 : Fn) (a0_2 c0_2 : Array Value), v = .agg #[.func f0_0 a0_0 c0_0, .func f0_1 a0_1 c0_1, .func f0_2 a0_2 c0_2] ∧ vs' = [] ∧ zbz τ' rr (.func f0_0 a0_0 c0_0) (.func f0_1 a0_1 c0_1) (.func f0_2 a0_2 c0_2)) := by
 refine zw (args := [.func (.func 79) #[] #[]]) hm Tryz.func75 s75 rfl fun w0 σ hO Q hQ => ?_
 unfold zfz at hF
 have hL := Hp.le.refl τ
 show wpn _ _ a75.body _ _ _
 unfold a75
 dsimp only
 refine zbp hO fun b2 σ hO => ?_
 have hO : Obs _ _ [_] := hO
 refine zh (zb hO 2 [] [(2, zqQ b2), (4, .agg #[(.func (.func 79) #[] #[]), (.func (.func 89) #[] #[]), (.func (.func 91) #[] #[])])] zqA fun j => ?_)
 refine zI hO (i := 0) rfl (off := 0) rfl rfl rfl rfl (Nat.le_of_ble_eq_true rfl) rfl fun σ hO => ?_
 have hO : Obs _ _ [_] := hO
 refine zh (zp ?_)
 injection hF with hF
 subst hF
 have hV0 := hO.val (i := 0) rfl (off := 0) (agg := true) (n := 3) rfl
 have hO := hO.sel [] (by decide)
 exact hQ _ _ _ _ _ (zbu rfl (hV0) rfl) hO hL ⟨_, _, _, _, _, _, _, _, _, rfl, rfl, ⟨rfl, rfl, rfl⟩⟩
end Go.Proofs.YtgkllgoelpfdkaaGreat
