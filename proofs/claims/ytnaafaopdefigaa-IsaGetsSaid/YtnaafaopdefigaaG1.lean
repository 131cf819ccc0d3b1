import Derived.Test.YtnaafaopdefigaaF
import Derived.Test.YtnaafaopdefigaaAc0
import Derived.Test.YtnaafaopdefigaaM00
import Derived.Test.YtnaafaopdefigaaM01
import Derived.Test.YtnaafaopdefigaaG0
namespace Go.Proofs.Ytnaafaopdefigaa
open Go.Ab Go.RowKit
set_option linter.unusedVariables false
set_option linter.unusedSimpArgs false
set_option maxRecDepth 10000
theorem zeX {τ : Hp} {v0 : Value} {p0 : (List UInt8)} {o0 : Ob} {q1 : za} {bm1 : Nat} {af0 : Addr} (wp0 : OwnO Ty.u8 5 τ v0 p0 o0) (mf0 : At τ af0 [.func (.func 66) #[] #[]]) {rr : (List UInt8) × za} (hF : zcR p0 q1 = some rr) :
    Ctr Try.prog 89 #[v0, .pointer (some ⟨bm1, 0, none⟩), .pointer (some af0)] τ [o0, some (bm1, ⟨[.int .u8 q1.Kind.toNat, .int .u8 q1.Op.toNat, .int .i64 q1.R, .int .i64 q1.S, .int .i64 q1.T, .int .i64 q1.N, .int .i64 q1.M], 24, 7, true⟩)] (fun v τ' vs' => ∃ (v0 : Value) (o0 : Ob), v = v0 ∧ vs' = [o0, some (bm1, ⟨[.int .u8 rr.2.Kind.toNat, .int .u8 rr.2.Op.toNat, .int .i64 rr.2.R, .int .i64 rr.2.S, .int .i64 rr.2.T, .int .i64 rr.2.N, .int .i64 rr.2.M], 24, 7, true⟩)] ∧ OwnO Ty.u8 5 τ' v0 rr.1 o0) := by
  obtain ⟨A0, c0, rfl, -⟩ := wp0.form
  refine ctr_of (args := [.slice A0 p0.length c0, .pointer (some ⟨bm1, 0, none⟩), .pointer (some af0)]) hm Try.func89 s89 rfl fun w0 σ hO Q hQ => ?_
  unfold zcR at hF
  have hL := Hp.le.refl τ
  show wpn _ _ a89.body _ _ _
  unfold a89
  dsimp only
  refine wpn_qa hO [] [(0, .slice A0 p0.length c0), (1, .pointer (some ⟨bm1, 0, none⟩)), (2, .pointer (some af0))] (ar (ar (ar trivial))) fun j => ?_
  refine wpn_q hO 1 [] [(1, .pointer (some ⟨bm1, 0, none⟩)), (2, .pointer (some af0)), (6, .slice A0 p0.length c0)] (ar (ar (ar trivial))) fun j => ?_
  refine wpn_ld rfl (mf0.le hO.base).fst ?_
  refine wpn_q hO 1 [] [(1, .pointer (some ⟨bm1, 0, none⟩)), (6, .slice A0 p0.length c0), (7, .func (.func 66) #[] #[]), (8, .pointer (some ⟨bm1, 0, none⟩))] (ar (ar (ar (ar trivial)))) fun j => ?_
  obtain ⟨c3, h4, hF⟩ := bind_some hF
  refine wpn_cv (hs := [_]) (vs := [_]) rfl (by kernel_rfl) hO (zee h4) rfl fun _ σ _ _ hO h5 h6 => ?_
  have hL := hL.trans h5
  have wp0 := wp0.le h5
  obtain ⟨rfl, rfl⟩ := h6
  have hO : Obs _ _ [_, _] := hO
  obtain ⟨z7, hz7, hF⟩ := bind_some hF
  obtain ⟨_, hr, hF⟩ := bind_some hF
  refine wpn_ap1 (T := Ty.u8) (y := z7) hO wp0 (i := 0) rfl rfl (fun _ => rfl) rfl (u8R hz7) rfl hr (by decide) fun u _ σ o10 w11 hO => ?_
  obtain ⟨A8, c9, rfl, -⟩ := w11.form
  have hO : Obs _ _ [_, _] := hO
  refine wpn_qa hO [] [(1, .pointer (some ⟨bm1, 0, none⟩)), (5, .slice A8 (p0 ++ [z7]).length c9)] (ar (ar trivial)) fun j => ?_
  refine wpn_r1 ?_
  injection hF with hF
  subst hF
  exact hQ _ _ _ _ _ rfl hO hL ⟨_, _, rfl, rfl, w11⟩
theorem zd0 {τ : Hp} {v0 : Value} {p0 : (List UInt8)} {o0 : Ob} {q1 : za} {bm1 : Nat} {af0 : Addr} (wp0 : OwnO Ty.u8 5 τ v0 p0 o0) (mf0 : At τ af0 [.func (.func 71) #[] #[]]) {rr : (List UInt8) × za} (hF : zcr p0 q1 = some rr) :
    Ctr Try.prog 89 #[v0, .pointer (some ⟨bm1, 0, none⟩), .pointer (some af0)] τ [o0, some (bm1, ⟨[.int .u8 q1.Kind.toNat, .int .u8 q1.Op.toNat, .int .i64 q1.R, .int .i64 q1.S, .int .i64 q1.T, .int .i64 q1.N, .int .i64 q1.M], 24, 7, true⟩)] (fun v τ' vs' => ∃ (v0 : Value) (o0 : Ob), v = v0 ∧ vs' = [o0, some (bm1, ⟨[.int .u8 rr.2.Kind.toNat, .int .u8 rr.2.Op.toNat, .int .i64 rr.2.R, .int .i64 rr.2.S, .int .i64 rr.2.T, .int .i64 rr.2.N, .int .i64 rr.2.M], 24, 7, true⟩)] ∧ OwnO Ty.u8 5 τ' v0 rr.1 o0) := by
  obtain ⟨A0, c0, rfl, -⟩ := wp0.form
  refine ctr_of (args := [.slice A0 p0.length c0, .pointer (some ⟨bm1, 0, none⟩), .pointer (some af0)]) hm Try.func89 s89 rfl fun w0 σ hO Q hQ => ?_
  unfold zcr at hF
  have hL := Hp.le.refl τ
  show wpn _ _ a89.body _ _ _
  unfold a89
  dsimp only
  refine wpn_qa hO [] [(0, .slice A0 p0.length c0), (1, .pointer (some ⟨bm1, 0, none⟩)), (2, .pointer (some af0))] (ar (ar (ar trivial))) fun j => ?_
  refine wpn_q hO 1 [] [(1, .pointer (some ⟨bm1, 0, none⟩)), (2, .pointer (some af0)), (6, .slice A0 p0.length c0)] (ar (ar (ar trivial))) fun j => ?_
  refine wpn_ld rfl (mf0.le hO.base).fst ?_
  refine wpn_q hO 1 [] [(1, .pointer (some ⟨bm1, 0, none⟩)), (6, .slice A0 p0.length c0), (7, .func (.func 71) #[] #[]), (8, .pointer (some ⟨bm1, 0, none⟩))] (ar (ar (ar (ar trivial)))) fun j => ?_
  obtain ⟨c3, h4, hF⟩ := bind_some hF
  refine wpn_cv (hs := [_]) (vs := [_]) rfl (by kernel_rfl) hO (zeU h4) rfl fun _ σ _ _ hO h5 h6 => ?_
  have hL := hL.trans h5
  have wp0 := wp0.le h5
  obtain ⟨rfl, rfl⟩ := h6
  have hO : Obs _ _ [_, _] := hO
  obtain ⟨z7, hz7, hF⟩ := bind_some hF
  obtain ⟨_, hr, hF⟩ := bind_some hF
  refine wpn_ap1 (T := Ty.u8) (y := z7) hO wp0 (i := 0) rfl rfl (fun _ => rfl) rfl (u8R hz7) rfl hr (by decide) fun u _ σ o10 w11 hO => ?_
  obtain ⟨A8, c9, rfl, -⟩ := w11.form
  have hO : Obs _ _ [_, _] := hO
  refine wpn_qa hO [] [(1, .pointer (some ⟨bm1, 0, none⟩)), (5, .slice A8 (p0 ++ [z7]).length c9)] (ar (ar trivial)) fun j => ?_
  refine wpn_r1 ?_
  injection hF with hF
  subst hF
  exact hQ _ _ _ _ _ rfl hO hL ⟨_, _, rfl, rfl, w11⟩
theorem zeV {τ : Hp} {v0 : Value} {p0 : (List UInt8)} {o0 : Ob} {q1 : za} {bm1 : Nat} {af0 : Addr} (wp0 : OwnO Ty.u8 5 τ v0 p0 o0) (mf0 : At τ af0 [.func (.func 74) #[] #[]]) {rr : (List UInt8) × za} (hF : zcP p0 q1 = some rr) :
    Ctr Try.prog 89 #[v0, .pointer (some ⟨bm1, 0, none⟩), .pointer (some af0)] τ [o0, some (bm1, ⟨[.int .u8 q1.Kind.toNat, .int .u8 q1.Op.toNat, .int .i64 q1.R, .int .i64 q1.S, .int .i64 q1.T, .int .i64 q1.N, .int .i64 q1.M], 24, 7, true⟩)] (fun v τ' vs' => ∃ (v0 : Value) (o0 : Ob), v = v0 ∧ vs' = [o0, some (bm1, ⟨[.int .u8 rr.2.Kind.toNat, .int .u8 rr.2.Op.toNat, .int .i64 rr.2.R, .int .i64 rr.2.S, .int .i64 rr.2.T, .int .i64 rr.2.N, .int .i64 rr.2.M], 24, 7, true⟩)] ∧ OwnO Ty.u8 5 τ' v0 rr.1 o0) := by
  obtain ⟨A0, c0, rfl, -⟩ := wp0.form
  refine ctr_of (args := [.slice A0 p0.length c0, .pointer (some ⟨bm1, 0, none⟩), .pointer (some af0)]) hm Try.func89 s89 rfl fun w0 σ hO Q hQ => ?_
  unfold zcP at hF
  have hL := Hp.le.refl τ
  show wpn _ _ a89.body _ _ _
  unfold a89
  dsimp only
  refine wpn_qa hO [] [(0, .slice A0 p0.length c0), (1, .pointer (some ⟨bm1, 0, none⟩)), (2, .pointer (some af0))] (ar (ar (ar trivial))) fun j => ?_
  refine wpn_q hO 1 [] [(1, .pointer (some ⟨bm1, 0, none⟩)), (2, .pointer (some af0)), (6, .slice A0 p0.length c0)] (ar (ar (ar trivial))) fun j => ?_
  refine wpn_ld rfl (mf0.le hO.base).fst ?_
  refine wpn_q hO 1 [] [(1, .pointer (some ⟨bm1, 0, none⟩)), (6, .slice A0 p0.length c0), (7, .func (.func 74) #[] #[]), (8, .pointer (some ⟨bm1, 0, none⟩))] (ar (ar (ar (ar trivial)))) fun j => ?_
  obtain ⟨c3, h4, hF⟩ := bind_some hF
  refine wpn_cv (hs := [_]) (vs := [_]) rfl (by kernel_rfl) hO (zeA h4) rfl fun _ σ _ _ hO h5 h6 => ?_
  have hL := hL.trans h5
  have wp0 := wp0.le h5
  obtain ⟨rfl, rfl⟩ := h6
  have hO : Obs _ _ [_, _] := hO
  obtain ⟨z7, hz7, hF⟩ := bind_some hF
  obtain ⟨_, hr, hF⟩ := bind_some hF
  refine wpn_ap1 (T := Ty.u8) (y := z7) hO wp0 (i := 0) rfl rfl (fun _ => rfl) rfl (u8R hz7) rfl hr (by decide) fun u _ σ o10 w11 hO => ?_
  obtain ⟨A8, c9, rfl, -⟩ := w11.form
  have hO : Obs _ _ [_, _] := hO
  refine wpn_qa hO [] [(1, .pointer (some ⟨bm1, 0, none⟩)), (5, .slice A8 (p0 ++ [z7]).length c9)] (ar (ar trivial)) fun j => ?_
  refine wpn_r1 ?_
  injection hF with hF
  subst hF
  exact hQ _ _ _ _ _ rfl hO hL ⟨_, _, rfl, rfl, w11⟩
theorem zek {τ : Hp} {v0 : Value} {p0 : (List UInt8)} {o0 : Ob} {q1 : za} {bm1 : Nat} (wp0 : OwnO Ty.u8 5 τ v0 p0 o0) {rr : (List UInt8) × za} (hF : zcx p0 q1 = some rr) :
    Ctr Try.prog 77 #[v0, .pointer (some ⟨bm1, 0, none⟩)] τ [o0, some (bm1, ⟨[.int .u8 q1.Kind.toNat, .int .u8 q1.Op.toNat, .int .i64 q1.R, .int .i64 q1.S, .int .i64 q1.T, .int .i64 q1.N, .int .i64 q1.M], 24, 7, true⟩)] (fun v τ' vs' => ∃ (v0 : Value) (o0 : Ob), v = v0 ∧ vs' = [o0, some (bm1, ⟨[.int .u8 rr.2.Kind.toNat, .int .u8 rr.2.Op.toNat, .int .i64 rr.2.R, .int .i64 rr.2.S, .int .i64 rr.2.T, .int .i64 rr.2.N, .int .i64 rr.2.M], 24, 7, true⟩)] ∧ OwnO Ty.u8 5 τ' v0 rr.1 o0) := by
  obtain ⟨A0, c0, rfl, -⟩ := wp0.form
  refine ctr_of (args := [.slice A0 p0.length c0, .pointer (some ⟨bm1, 0, none⟩)]) hm Try.func77 s77 rfl fun w0 σ hO Q hQ => ?_
  unfold zcx at hF
  have hL := Hp.le.refl τ
  show wpn _ _ a77.body _ _ _
  unfold a77
  dsimp only
  refine wpn_qa hO [] [(0, .slice A0 p0.length c0), (1, .pointer (some ⟨bm1, 0, none⟩))] (ar (ar trivial)) fun j => ?_
  refine wpn_q hO 6 [1] [(1, .pointer (some ⟨bm1, 0, none⟩)), (5, .slice A0 p0.length c0), (10, .int .u64 (IntKind.u64.wrap q1.M))] (And.intro (And.intro rfl rfl) (ar (ar (ar trivial)))) fun j => ?_
  obtain ⟨_, h4, r3, hO⟩ := wp0.share hO (i := 0) rfl
  have hL := hL.trans h4
  have hO : Obs _ _ [_, _] := hO
  obtain ⟨c5, h6, hF⟩ := bind_some hF
  refine wpn_c0 hO (zdv r3 h6) rfl fun _ σ _ _ hO h7 h8 => ?_
  have hL := hL.trans h7
  have r3 := r3.le h7
  obtain ⟨v9, o12, rfl, rfl, w13⟩ := h8
  obtain ⟨A10, c11, rfl, -⟩ := w13.form
  have hO : Obs _ _ [_, _, _] := hO
  refine wpn_qa hO [] [(1, .pointer (some ⟨bm1, 0, none⟩)), (4, .slice A10 c5.length c11)] (ar (ar trivial)) fun j => ?_
  refine wpn_r1 ?_
  injection hF with hF
  subst hF
  have hO := hO.sel [2, 1] (by decide)
  exact hQ _ _ _ _ _ rfl hO hL ⟨_, _, rfl, rfl, w13⟩
theorem zes {τ : Hp} {v0 : Value} {p0 : (List UInt8)} {o0 : Ob} {q1 : za} {bm1 : Nat} (wp0 : OwnO Ty.u8 5 τ v0 p0 o0) {rr : (List UInt8) × za} (hF : zcl p0 q1 = some rr) :
    Ctr Try.prog 82 #[v0, .pointer (some ⟨bm1, 0, none⟩)] τ [o0, some (bm1, ⟨[.int .u8 q1.Kind.toNat, .int .u8 q1.Op.toNat, .int .i64 q1.R, .int .i64 q1.S, .int .i64 q1.T, .int .i64 q1.N, .int .i64 q1.M], 24, 7, true⟩)] (fun v τ' vs' => ∃ (v0 : Value) (o0 : Ob), v = v0 ∧ vs' = [o0, some (bm1, ⟨[.int .u8 rr.2.Kind.toNat, .int .u8 rr.2.Op.toNat, .int .i64 rr.2.R, .int .i64 rr.2.S, .int .i64 rr.2.T, .int .i64 rr.2.N, .int .i64 rr.2.M], 24, 7, true⟩)] ∧ OwnO Ty.u8 5 τ' v0 rr.1 o0) := by
  obtain ⟨A0, c0, rfl, -⟩ := wp0.form
  refine ctr_of (args := [.slice A0 p0.length c0, .pointer (some ⟨bm1, 0, none⟩)]) hm Try.func82 s82 rfl fun w0 σ hO Q hQ => ?_
  unfold zcl at hF
  have hL := Hp.le.refl τ
  show wpn _ _ a82.body _ _ _
  unfold a82
  dsimp only
  refine wpn_qa hO [] [(0, .slice A0 p0.length c0), (1, .pointer (some ⟨bm1, 0, none⟩))] (ar (ar trivial)) fun j => ?_
  refine wpn_q hO 5 [1] [(1, .pointer (some ⟨bm1, 0, none⟩)), (8, .slice A0 p0.length c0), (12, .int .i64 q1.N)] (And.intro (And.intro rfl rfl) (ar (ar (ar trivial)))) fun j => ?_
  obtain ⟨_, h4, r3, hO⟩ := wp0.share hO (i := 0) rfl
  have hL := hL.trans h4
  have hO : Obs _ _ [_, _] := hO
  obtain ⟨c5, h6, hF⟩ := bind_some hF
  refine wpn_c0 hO (zef r3 h6) rfl fun _ σ _ _ hO h7 h8 => ?_
  have hL := hL.trans h7
  have r3 := r3.le h7
  obtain ⟨v9, o12, rfl, rfl, w13⟩ := h8
  obtain ⟨A10, c11, rfl, -⟩ := w13.form
  have hO : Obs _ _ [_, _, _] := hO
  refine wpn_qa hO [] [(1, .pointer (some ⟨bm1, 0, none⟩)), (5, .slice A10 c5.1.length c11)] (ar (ar trivial)) fun j => ?_
  refine wpn_qa hO [] [(1, .pointer (some ⟨bm1, 0, none⟩)), (4, .slice A10 c5.1.length c11)] (ar (ar trivial)) fun j => ?_
  refine wpn_r1 ?_
  injection hF with hF
  subst hF
  have hO := hO.sel [2, 1] (by decide)
  exact hQ _ _ _ _ _ rfl hO hL ⟨_, _, rfl, rfl, w13⟩
theorem zea {τ : Hp} {v0 : Value} {p0 : (List UInt8)} {o0 : Ob} {q1 : za} {bm1 : Nat} {af0 : Addr} (wp0 : OwnO Ty.u8 5 τ v0 p0 o0) (mf0 : At τ af0 [.func (.func 87) #[] #[]]) {rr : (List UInt8) × za} (hF : zcw p0 q1 = some rr) :
    Ctr Try.prog 89 #[v0, .pointer (some ⟨bm1, 0, none⟩), .pointer (some af0)] τ [o0, some (bm1, ⟨[.int .u8 q1.Kind.toNat, .int .u8 q1.Op.toNat, .int .i64 q1.R, .int .i64 q1.S, .int .i64 q1.T, .int .i64 q1.N, .int .i64 q1.M], 24, 7, true⟩)] (fun v τ' vs' => ∃ (v0 : Value) (o0 : Ob), v = v0 ∧ vs' = [o0, some (bm1, ⟨[.int .u8 rr.2.Kind.toNat, .int .u8 rr.2.Op.toNat, .int .i64 rr.2.R, .int .i64 rr.2.S, .int .i64 rr.2.T, .int .i64 rr.2.N, .int .i64 rr.2.M], 24, 7, true⟩)] ∧ OwnO Ty.u8 5 τ' v0 rr.1 o0) := by
  obtain ⟨A0, c0, rfl, -⟩ := wp0.form
  refine ctr_of (args := [.slice A0 p0.length c0, .pointer (some ⟨bm1, 0, none⟩), .pointer (some af0)]) hm Try.func89 s89 rfl fun w0 σ hO Q hQ => ?_
  unfold zcw at hF
  have hL := Hp.le.refl τ
  show wpn _ _ a89.body _ _ _
  unfold a89
  dsimp only
  refine wpn_qa hO [] [(0, .slice A0 p0.length c0), (1, .pointer (some ⟨bm1, 0, none⟩)), (2, .pointer (some af0))] (ar (ar (ar trivial))) fun j => ?_
  refine wpn_q hO 1 [] [(1, .pointer (some ⟨bm1, 0, none⟩)), (2, .pointer (some af0)), (6, .slice A0 p0.length c0)] (ar (ar (ar trivial))) fun j => ?_
  refine wpn_ld rfl (mf0.le hO.base).fst ?_
  refine wpn_q hO 1 [] [(1, .pointer (some ⟨bm1, 0, none⟩)), (6, .slice A0 p0.length c0), (7, .func (.func 87) #[] #[]), (8, .pointer (some ⟨bm1, 0, none⟩))] (ar (ar (ar (ar trivial)))) fun j => ?_
  obtain ⟨c3, h4, hF⟩ := bind_some hF
  refine wpn_cv (hs := [_]) (vs := [_]) rfl (by kernel_rfl) hO (zeQ h4) rfl fun _ σ _ _ hO h5 h6 => ?_
  have hL := hL.trans h5
  have wp0 := wp0.le h5
  obtain ⟨rfl, rfl⟩ := h6
  have hO : Obs _ _ [_, _] := hO
  obtain ⟨z7, hz7, hF⟩ := bind_some hF
  obtain ⟨_, hr, hF⟩ := bind_some hF
  refine wpn_ap1 (T := Ty.u8) (y := z7) hO wp0 (i := 0) rfl rfl (fun _ => rfl) rfl (u8R hz7) rfl hr (by decide) fun u _ σ o10 w11 hO => ?_
  obtain ⟨A8, c9, rfl, -⟩ := w11.form
  have hO : Obs _ _ [_, _] := hO
  refine wpn_qa hO [] [(1, .pointer (some ⟨bm1, 0, none⟩)), (5, .slice A8 (p0 ++ [z7]).length c9)] (ar (ar trivial)) fun j => ?_
  refine wpn_r1 ?_
  injection hF with hF
  subst hF
  exact hQ _ _ _ _ _ rfl hO hL ⟨_, _, rfl, rfl, w11⟩
theorem zdk {τ : Hp} {v0 : Value} {p0 : (List UInt8)} {o0 : Ob} {q1 : za} {bm1 : Nat} (wp0 : OwnO Ty.u8 5 τ v0 p0 o0) {rr : (List UInt8) × za} (hF : zba p0 q1 = some rr) :
    Ctr Try.prog 61 #[v0, .pointer (some ⟨bm1, 0, none⟩)] τ [o0, some (bm1, ⟨[.int .u8 q1.Kind.toNat, .int .u8 q1.Op.toNat, .int .i64 q1.R, .int .i64 q1.S, .int .i64 q1.T, .int .i64 q1.N, .int .i64 q1.M], 24, 7, true⟩)] (fun v τ' vs' => ∃ (v0 : Value) (o0 : Ob), v = v0 ∧ vs' = [o0, some (bm1, ⟨[.int .u8 rr.2.Kind.toNat, .int .u8 rr.2.Op.toNat, .int .i64 rr.2.R, .int .i64 rr.2.S, .int .i64 rr.2.T, .int .i64 rr.2.N, .int .i64 rr.2.M], 24, 7, true⟩)] ∧ OwnO Ty.u8 5 τ' v0 rr.1 o0) := by
  obtain ⟨A0, c0, rfl, -⟩ := wp0.form
  refine ctr_of (args := [.slice A0 p0.length c0, .pointer (some ⟨bm1, 0, none⟩)]) hm Try.func61 s61 rfl fun w0 σ hO Q hQ => ?_
  unfold zba at hF
  have hL := Hp.le.refl τ
  show wpn _ _ a61.body _ _ _
  unfold a61
  dsimp only
  refine wpn_qa hO [] [(0, .slice A0 p0.length c0), (1, .pointer (some ⟨bm1, 0, none⟩))] (ar (ar trivial)) fun j => ?_
  refine wpn_q hO 5 [1] [(1, .pointer (some ⟨bm1, 0, none⟩)), (5, .slice A0 p0.length c0), (9, .int .i64 q1.N)] (And.intro (And.intro rfl rfl) (ar (ar (ar trivial)))) fun j => ?_
  obtain ⟨_, h4, r3, hO⟩ := wp0.share hO (i := 0) rfl
  have hL := hL.trans h4
  have hO : Obs _ _ [_, _] := hO
  obtain ⟨c5, h6, hF⟩ := bind_some hF
  refine wpn_c0 hO (zdG r3 h6) rfl fun _ σ _ _ hO h7 h8 => ?_
  have hL := hL.trans h7
  have r3 := r3.le h7
  obtain ⟨v9, o12, rfl, rfl, w13⟩ := h8
  obtain ⟨A10, c11, rfl, -⟩ := w13.form
  have hO : Obs _ _ [_, _, _] := hO
  refine wpn_qa hO [] [(1, .pointer (some ⟨bm1, 0, none⟩)), (4, .slice A10 c5.length c11)] (ar (ar trivial)) fun j => ?_
  refine wpn_r1 ?_
  injection hF with hF
  subst hF
  have hO := hO.sel [2, 1] (by decide)
  exact hQ _ _ _ _ _ rfl hO hL ⟨_, _, rfl, rfl, w13⟩
theorem zer {τ : Hp} {x : zd} {u0 u1 u2 : Value} (hx : zi τ x u0 u1 u2) {v0 : Value} {p0 : (List UInt8)} {o0 : Ob} {q1 : za} {bm1 : Nat} (wp0 : OwnO Ty.u8 5 τ v0 p0 o0) {rr : (List UInt8) × za} (hF : zcA x p0 q1 = some rr) :
    FnC Try.prog u1 #[v0, .pointer (some ⟨bm1, 0, none⟩)] τ [o0, some (bm1, ⟨[.int .u8 q1.Kind.toNat, .int .u8 q1.Op.toNat, .int .i64 q1.R, .int .i64 q1.S, .int .i64 q1.T, .int .i64 q1.N, .int .i64 q1.M], 24, 7, true⟩)] (fun v τ' vs' => ∃ (v0 : Value) (o0 : Ob), v = v0 ∧ vs' = [o0, some (bm1, ⟨[.int .u8 rr.2.Kind.toNat, .int .u8 rr.2.Op.toNat, .int .i64 rr.2.R, .int .i64 rr.2.S, .int .i64 rr.2.T, .int .i64 rr.2.N, .int .i64 rr.2.M], 24, 7, true⟩)] ∧ OwnO Ty.u8 5 τ' v0 rr.1 o0) := by
  cases x with
  | c_one_1 => obtain ⟨a1_0, a2_0, rfl, rfl, rfl, m0, m1⟩ := hx; exact ⟨89, #[], #[.pointer (some a1_0)], _, rfl, by kernel_rfl, rfl, zep wp0 m0 hF⟩
  | c_both_1 => obtain ⟨a1_0, a2_0, rfl, rfl, rfl, m0, m1⟩ := hx; exact ⟨89, #[], #[.pointer (some a1_0)], _, rfl, by kernel_rfl, rfl, zeX wp0 m0 hF⟩
  | c_op_1 x0 x1 => obtain ⟨a0_0, a0_1, a1_0, a2_0, rfl, rfl, rfl, m0, m1, m2, m3⟩ := hx; exact ⟨89, #[], #[.pointer (some a1_0)], _, rfl, by kernel_rfl, rfl, zd0 wp0 m2 hF⟩
  | c_third_1 => obtain ⟨a1_0, a2_0, rfl, rfl, rfl, m0, m1⟩ := hx; exact ⟨89, #[], #[.pointer (some a1_0)], _, rfl, by kernel_rfl, rfl, zeV wp0 m0 hF⟩
  | c_bound_1 => obtain ⟨rfl, rfl, rfl⟩ := hx; exact ⟨77, #[], #[], _, rfl, by kernel_rfl, rfl, zek wp0 hF⟩
  | c_to_1 => obtain ⟨rfl, rfl, rfl⟩ := hx; exact ⟨82, #[], #[], _, rfl, by kernel_rfl, rfl, zes wp0 hF⟩
  | c_how_1 => obtain ⟨a1_0, a2_0, rfl, rfl, rfl, m0, m1⟩ := hx; exact ⟨89, #[], #[.pointer (some a1_0)], _, rfl, by kernel_rfl, rfl, zea wp0 m0 hF⟩
  | c_parts_1 => obtain ⟨rfl, rfl, rfl⟩ := hx; exact ⟨61, #[], #[], _, rfl, by kernel_rfl, rfl, zdk wp0 hF⟩
  | c_within => obtain ⟨rfl, rfl, rfl⟩ := hx; exact ⟨61, #[], #[], _, rfl, by kernel_rfl, rfl, zdk wp0 hF⟩
theorem zdf {τ : Hp} {p0 : za}  {rr : (List UInt8) × Bool} (hF : zB p0 = some rr) :
    Ctr Try.prog 23 #[.agg #[.int .u8 p0.Kind.toNat, .int .u8 p0.Op.toNat, .int .i64 p0.R, .int .i64 p0.S, .int .i64 p0.T, .int .i64 p0.N, .int .i64 p0.M]] τ [] (fun v τ' vs' => ∃ (v0 : Value) (o0 : Ob), v = .tuple #[v0, .bool rr.2] ∧ vs' = [o0] ∧ OwnO Ty.u8 5 τ' v0 rr.1 o0) := by
  refine ctr_of (args := [.agg #[.int .u8 p0.Kind.toNat, .int .u8 p0.Op.toNat, .int .i64 p0.R, .int .i64 p0.S, .int .i64 p0.T, .int .i64 p0.N, .int .i64 p0.M]]) hm Try.func23 s23 rfl fun w0 σ hO Q hQ => ?_
  unfold zB at hF
  have hL := Hp.le.refl τ
  show wpn _ _ a23.body _ _ _
  unfold a23
  dsimp only
  refine wpn_bx (n := 7) hO rfl rfl fun b2 σ hO => ?_
  have hO : Obs _ _ [_] := hO
  refine wpn_qa hO [] [(1, .pointer (some ⟨b2, 0, none⟩))] (ar trivial) fun j => ?_
  refine wpn_q hO 2 [0] [(1, .pointer (some ⟨b2, 0, none⟩)), (11, .int .u8 (p0.Kind.toNat : Int))] (And.intro (And.intro rfl rfl) (ar (ar trivial))) fun j => ?_
  obtain ⟨c3, h4, hF⟩ := bind_some hF
  refine wpn_c0 hO (zdN h4) rfl fun _ σ _ _ hO h5 h6 => ?_
  have hL := hL.trans h5
  obtain ⟨v7, o10, rfl, rfl, w11⟩ := h6
  obtain ⟨A8, c9, rfl, -⟩ := w11.form
  have hO : Obs _ _ [_, _] := hO
  refine wpn_qa hO [] [(1, .pointer (some ⟨b2, 0, none⟩)), (4, .slice A8 c3.1.length c9), (5, .bool c3.2)] (ar (ar (ar trivial))) fun j => ?_
  refine wpn_assoc ?_
  refine wpn_qa hO [] [(1, .pointer (some ⟨b2, 0, none⟩)), (4, .slice A8 c3.1.length c9), (16, .bool (!c3.2))] (ar (ar (ar trivial))) fun j => ?_
  rcases ite_some hF with ⟨hb12, hF⟩ | ⟨hb12, hF⟩
  · refine wpn_cT (congrArg Value.bool hb12) ?_
    refine wpn_assoc ?_
    refine wpn_qa hO [] [(2, .slice none 0 0), (3, .bool false)] (ar (ar trivial)) fun j => ?_
    refine wpn_rt ?_
    have hO := hO.no
    have hO : Obs _ _ [_, _, _] := hO
    injection hF with hF
    subst hF
    have hO := hO.sel [2] (by decide)
    exact hQ _ _ _ _ _ rfl hO hL ⟨_, _, rfl, rfl, (OwnO.nil _ _ _)⟩
  · refine wpn_cF (congrArg Value.bool hb12) ?_
    refine wpn_sk ?_
    refine wpn_q hO 2 [0] [(1, .pointer (some ⟨b2, 0, none⟩)), (4, .slice A8 c3.1.length c9), (18, .int .u8 (p0.Kind.toNat : Int))] (And.intro (And.intro rfl rfl) (ar (ar (ar trivial)))) fun j => ?_
    refine wpn_lit (T := Ty.u8) (l := ([p0.Kind] : List UInt8)) (cs := [.int .u8 (p0.Kind.toNat : Int)]) hO rfl ⟨[.int .u8 (p0.Kind.toNat : Int)], _, rfl, rfl, rfl⟩ rfl (by decide) fun _ σ o15 w16 hO => ?_
    obtain ⟨A13, c14, rfl, -⟩ := w16.form
    have hO : Obs _ _ [_, _, _] := hO
    refine wpn_qa hO [] [(1, .pointer (some ⟨b2, 0, none⟩)), (4, .slice A8 c3.1.length c9), (6, .slice A13 ([p0.Kind] : List UInt8).length c14)] (ar (ar (ar trivial))) fun j => ?_
    refine wpn_assoc ?_
    refine wpn_qa hO [] [(1, .pointer (some ⟨b2, 0, none⟩)), (6, .slice A13 ([p0.Kind] : List UInt8).length c14), (20, .slice A8 c3.1.length c9), (21, .int .i64 (c3.1.length : Int)), (22, .int .i64 0)] (ar (ar (ar (ar (ar trivial))))) fun j => ?_
    refine wpn_bl ?_
    have hO := hO.sel [0, 2, 1] (by decide)
    refine wpn_lp (fun (n : Nat) e' σ' => ∃ (x60 : UInt8) (x61 : UInt8) (x62 : Int) (x63 : Int) (x64 : Int) (x65 : Int) (x66 : Int) (A67 : Option Addr) (c68 : Nat) (o69 : Ob) (x70 : List UInt8) (A72 : Option Addr) (c73 : Nat) (o74 : Ob) (x75 : List zd) (x77 : Int) (τ' : Hp), agr [(1, .pointer (some ⟨b2, 0, none⟩)), (6, .slice A67 x70.length c68), (20, .slice A72 x75.length c73), (21, .int .i64 (c3.1.length : Int)), (22, .int .i64 x77)] e' ∧ Obs τ' σ' [some (b2, ⟨[.int .u8 (x60.toNat : Int), .int .u8 (x61.toNat : Int), .int .i64 x62, .int .i64 x63, .int .i64 x64, .int .i64 x65, .int .i64 x66], 24, 7, true⟩), o69, o74] ∧ Hp.le τ τ' ∧ OwnO Ty.u8 5 τ' (.slice A67 x70.length c68) x70 o69 ∧ OwnO zk 73 τ' (.slice A72 x75.length c73) x75 o74 ∧ zbJ c3 n x60 x61 x62 x63 x64 x65 x66 x70 x75 x77 = some rr) big ⟨p0.Kind, p0.Op, p0.R, p0.S, p0.T, p0.N, p0.M, A13, c14, o15, ([p0.Kind] : List UInt8), A8, c9, o10, c3.1, 0, _, ar (ar (ar (ar (ar trivial)))), hO, hL, w16, w11, hF⟩ ?_
    clear hF hO hL
    rintro n111 e σ ⟨x60, x61, x62, x63, x64, x65, x66, A67, c68, o69, x70, A72, c73, o74, x75, x77, _, hA, hO, hL, w71, w76, hF⟩
    rw [← sets_agr _ _ hA]
    cases n111 with
    | zero => exact nomatch (show none = some rr from hF)
    | succ n111 =>
      replace hF : zbU (zbJ c3 n111) c3 x60 x61 x62 x63 x64 x65 x66 x70 x75 x77 = some rr := hF
      unfold zbU at hF
      refine wpn_qa hO [] [(1, .pointer (some ⟨b2, 0, none⟩)), (6, .slice A67 x70.length c68), (20, .slice A72 x75.length c73), (21, .int .i64 (c3.1.length : Int)), (22, .int .i64 x77), (23, .bool (decide (x77 < (c3.1.length : Int))))] (ar (ar (ar (ar (ar (ar trivial)))))) fun j => ?_
      rcases ite_some hF with ⟨hb112, hF⟩ | ⟨hb112, hF⟩
      · refine wpn_cT (congrArg Value.bool hb112) ?_
        refine wpn_sk ?_
        refine wpn_bl ?_
        obtain ⟨y113, g114, hF⟩ := bind_some hF
        refine wpn_ido (T := zk) hO w76 (i := 2) rfl rfl rfl g114 (by decide) fun a115 _ k116 m117 i118 => ?_
        have k119 := k116
        obtain ⟨f121, a122, c123, f124, a125, c126, f127, a128, c129, rfl, r120⟩ := k119
        refine wpn_ld rfl (m117.all rfl) ?_
        refine wpn_al hO fun b130 σ hO => ?_
        have hO : Obs _ _ [_, _, _, _] := hO
        refine wpn_st hO (i := 3) rfl (off := 0) rfl rfl rfl rfl (Nat.le_of_ble_eq_true rfl) rfl fun σ hO => ?_
        have hO : Obs _ _ [_, _, _, _] := hO
        refine wpn_nil ?_
        refine wpn_assoc ?_
        refine wpn_q hO 2 [3] [(1, .pointer (some ⟨b2, 0, none⟩)), (6, .slice A67 x70.length c68), (8, .pointer (some ⟨b130, 0, none⟩)), (20, .slice A72 x75.length c73), (21, .int .i64 (c3.1.length : Int)), (22, .int .i64 x77), (27, .func f121 a122 c123)] (And.intro (And.intro rfl rfl) (ar (ar (ar (ar (ar (ar (ar trivial)))))))) fun j => ?_
        obtain ⟨c131, h132, hF⟩ := bind_some hF
        have hO := hO.sel [1, 2, 3, 0] (by decide)
        refine wpn_fv (hs := [_, _, _]) (vs := [_]) rfl hO (zd2 r120 h132) rfl fun _ σ _ _ hO h133 h134 => ?_
        have hL := hL.trans h133
        have w71 := w71.le h133
        have w76 := w76.le h133
        have r120 := r120.le h133
        obtain ⟨rfl, rfl⟩ := h134
        have hO : Obs _ _ [_, _, _, _] := hO
        refine wpn_qa hO [] [(1, .pointer (some ⟨b2, 0, none⟩)), (6, .slice A67 x70.length c68), (8, .pointer (some ⟨b130, 0, none⟩)), (20, .slice A72 x75.length c73), (21, .int .i64 (c3.1.length : Int)), (22, .int .i64 x77), (29, .bool (!c131.1))] (ar (ar (ar (ar (ar (ar (ar trivial))))))) fun j => ?_
        rcases ite_some hF with ⟨hb135, hF⟩ | ⟨hb135, hF⟩
        · refine wpn_cT (congrArg Value.bool hb135) ?_
          refine wpn_assoc ?_
          refine wpn_qa hO [] [(2, .slice none 0 0), (3, .bool false)] (ar (ar trivial)) fun j => ?_
          refine wpn_rt ?_
          refine inb_r1 ?_
          refine thn_r1 ?_
          refine thn_r1 ?_
          refine inb_r1 ?_
          refine thn_r1 ?_
          have hO := hO.no
          have hO : Obs _ _ [_, _, _, _, _] := hO
          injection hF with hF
          subst hF
          have hO := hO.sel [4] (by decide)
          exact hQ _ _ _ _ _ rfl hO hL ⟨_, _, rfl, rfl, (OwnO.nil _ _ _)⟩
        · refine wpn_cF (congrArg Value.bool hb135) ?_
          refine wpn_sk ?_
          refine wpn_rlast ?_
          refine wpn_q hO 3 [2] [(1, .pointer (some ⟨b2, 0, none⟩)), (20, .slice A72 x75.length c73), (21, .int .i64 (c3.1.length : Int)), (22, .int .i64 x77), (31, .func f124 a125 c126), (32, .slice A67 x70.length c68)] (And.intro (And.intro rfl rfl) (ar (ar (ar (ar (ar (ar trivial))))))) fun j => ?_
          obtain ⟨c136, h137, hF⟩ := bind_some hF
          have hO := hO.sel [1, 2, 0, 3] (by decide)
          refine wpn_fv (hs := [_, _]) (vs := [_, _]) rfl hO (zer r120 w71 h137) rfl fun _ σ _ _ hO h138 h139 => ?_
          have hL := hL.trans h138
          have w76 := w76.le h138
          have r120 := r120.le h138
          obtain ⟨v140, o143, rfl, rfl, w144⟩ := h139
          obtain ⟨A141, c142, rfl, -⟩ := w144.form
          have hO : Obs _ _ [_, _, _, _] := hO
          refine wpn_qa hO [] [(1, .pointer (some ⟨b2, 0, none⟩)), (6, .slice A141 c136.1.length c142), (20, .slice A72 x75.length c73), (21, .int .i64 (c3.1.length : Int)), (22, .int .i64 x77)] (ar (ar (ar (ar (ar trivial))))) fun j => ?_
          refine wpn_end ?_
          refine inb_i ?_
          refine thn_i ?_
          refine wpn_rlast ?_
          refine wpn_qa hO [] [(1, .pointer (some ⟨b2, 0, none⟩)), (6, .slice A141 c136.1.length c142), (20, .slice A72 x75.length c73), (21, .int .i64 (c3.1.length : Int)), (22, .int .i64 (IntKind.i64.wrap (x77 + 1)))] (ar (ar (ar (ar (ar trivial))))) fun j => ?_
          refine wpn_end ?_
          refine thn_i ?_
          have hO := hO.sel [3, 2, 0] (by decide)
          exact ⟨n111, Nat.lt_succ_self _, c136.2.Kind, c136.2.Op, c136.2.R, c136.2.S, c136.2.T, c136.2.N, c136.2.M, A141, c142, o143, c136.1, A72, c73, o74, x75, (IntKind.i64.wrap (x77 + 1)), _, ar (ar (ar (ar (ar trivial)))), hO, hL, w144, w76, hF⟩
      · refine wpn_cF (congrArg Value.bool hb112) ?_
        refine wpn_ex ?_
        refine thn_x ?_
        refine inb_x ?_
        refine thn_i ?_
        refine wpn_qa hO [] [(2, .slice A67 x70.length c68), (3, .bool true)] (ar (ar trivial)) fun j => ?_
        refine wpn_r1 ?_
        injection hF with hF
        subst hF
        have hO := hO.sel [1] (by decide)
        exact hQ _ _ _ _ _ rfl hO hL ⟨_, _, rfl, rfl, w71⟩
theorem zex {τ : Hp} {v0 : Value} {p0 : (List UInt8)} {p1 : Int} {q2 : za} {bm2 : Nat} {af0 : Addr} (r0 : RdT Ty.u8 τ v0 p0) (mf0 : At τ af0 [.func (.func 60) #[] #[]]) {rr : Int × Bool × za} (hF : zb1 p0 p1 q2 = some rr) :
    Ctr Try.prog 90 #[v0, .int .i64 p1, .pointer (some ⟨bm2, 0, none⟩), .pointer (some af0)] τ [some (bm2, ⟨[.int .u8 q2.Kind.toNat, .int .u8 q2.Op.toNat, .int .i64 q2.R, .int .i64 q2.S, .int .i64 q2.T, .int .i64 q2.N, .int .i64 q2.M], 24, 7, true⟩)] (fun v τ' vs' => v = .tuple #[.int .i64 rr.1, .bool rr.2.1] ∧ vs' = [some (bm2, ⟨[.int .u8 rr.2.2.Kind.toNat, .int .u8 rr.2.2.Op.toNat, .int .i64 rr.2.2.R, .int .i64 rr.2.2.S, .int .i64 rr.2.2.T, .int .i64 rr.2.2.N, .int .i64 rr.2.2.M], 24, 7, true⟩)]) := by
  obtain ⟨A0, c0, rfl, -⟩ := r0.form
  refine ctr_of (args := [.slice A0 p0.length c0, .int .i64 p1, .pointer (some ⟨bm2, 0, none⟩), .pointer (some af0)]) hm Try.func90 s90 rfl fun w0 σ hO Q hQ => ?_
  unfold zb1 at hF
  have hL := Hp.le.refl τ
  show wpn _ _ a90.body _ _ _
  unfold a90
  dsimp only
  refine wpn_qa hO [] [(0, .slice A0 p0.length c0), (1, .int .i64 p1), (2, .pointer (some ⟨bm2, 0, none⟩)), (3, .pointer (some af0))] (ar (ar (ar (ar trivial)))) fun j => ?_
  refine wpn_q hO 2 [] [(2, .pointer (some ⟨bm2, 0, none⟩)), (3, .pointer (some af0)), (13, .slice A0 p0.length c0), (14, .int .i64 p1)] (ar (ar (ar (ar trivial)))) fun j => ?_
  obtain ⟨c4, h5, hF⟩ := bind_some hF
  refine wpn_c0 hO (zbe r0 h5) rfl fun _ σ _ _ hO h6 h7 => ?_
  have hL := hL.trans h6
  have mf0 := mf0.le h6
  have r0 := r0.le h6
  obtain ⟨rfl, rfl⟩ := h7
  have hO : Obs _ _ [_] := hO
  refine wpn_qa hO [] [(2, .pointer (some ⟨bm2, 0, none⟩)), (3, .pointer (some af0)), (9, .int .u8 c4.1), (10, .int .i64 c4.2.1), (11, .int .i64 c4.2.2)] (ar (ar (ar (ar (ar trivial))))) fun j => ?_
  refine wpn_ld rfl (mf0.le hO.base).fst ?_
  refine wpn_q hO 2 [] [(2, .pointer (some ⟨bm2, 0, none⟩)), (10, .int .i64 c4.2.1), (11, .int .i64 c4.2.2), (19, .func (.func 60) #[] #[]), (20, .pointer (some ⟨bm2, 0, none⟩)), (21, .int .u8 c4.1)] (ar (ar (ar (ar (ar (ar trivial)))))) fun j => ?_
  obtain ⟨c8, h9, hF⟩ := bind_some hF
  refine wpn_cv (hs := []) (vs := [_]) rfl (by kernel_rfl) hO (zew h9) rfl fun _ σ _ _ hO h10 h11 => ?_
  have hL := hL.trans h10
  obtain ⟨rfl, rfl⟩ := h11
  have hO : Obs _ _ [_] := hO
  refine wpn_nil ?_
  refine wpn_qa hO [] [(2, .pointer (some ⟨bm2, 0, none⟩)), (7, .int .i64 c4.2.1), (8, .bool (c4.2.2 == 0))] (ar (ar (ar trivial))) fun j => ?_
  refine wpn_r1 ?_
  injection hF with hF
  subst hF
  exact hQ _ _ _ _ _ rfl hO hL ⟨rfl, rfl⟩
theorem zeb {τ : Hp} {v0 : Value} {p0 : (List UInt8)} {p1 : Int} {q2 : za} {bm2 : Nat} {af0 : Addr} (r0 : RdT Ty.u8 τ v0 p0) (mf0 : At τ af0 [.func (.func 68) #[] #[]]) {rr : Int × Bool × za} (hF : zbN p0 p1 q2 = some rr) :
    Ctr Try.prog 90 #[v0, .int .i64 p1, .pointer (some ⟨bm2, 0, none⟩), .pointer (some af0)] τ [some (bm2, ⟨[.int .u8 q2.Kind.toNat, .int .u8 q2.Op.toNat, .int .i64 q2.R, .int .i64 q2.S, .int .i64 q2.T, .int .i64 q2.N, .int .i64 q2.M], 24, 7, true⟩)] (fun v τ' vs' => v = .tuple #[.int .i64 rr.1, .bool rr.2.1] ∧ vs' = [some (bm2, ⟨[.int .u8 rr.2.2.Kind.toNat, .int .u8 rr.2.2.Op.toNat, .int .i64 rr.2.2.R, .int .i64 rr.2.2.S, .int .i64 rr.2.2.T, .int .i64 rr.2.2.N, .int .i64 rr.2.2.M], 24, 7, true⟩)]) := by
  obtain ⟨A0, c0, rfl, -⟩ := r0.form
  refine ctr_of (args := [.slice A0 p0.length c0, .int .i64 p1, .pointer (some ⟨bm2, 0, none⟩), .pointer (some af0)]) hm Try.func90 s90 rfl fun w0 σ hO Q hQ => ?_
  unfold zbN at hF
  have hL := Hp.le.refl τ
  show wpn _ _ a90.body _ _ _
  unfold a90
  dsimp only
  refine wpn_qa hO [] [(0, .slice A0 p0.length c0), (1, .int .i64 p1), (2, .pointer (some ⟨bm2, 0, none⟩)), (3, .pointer (some af0))] (ar (ar (ar (ar trivial)))) fun j => ?_
  refine wpn_q hO 2 [] [(2, .pointer (some ⟨bm2, 0, none⟩)), (3, .pointer (some af0)), (13, .slice A0 p0.length c0), (14, .int .i64 p1)] (ar (ar (ar (ar trivial)))) fun j => ?_
  obtain ⟨c4, h5, hF⟩ := bind_some hF
  refine wpn_c0 hO (zbe r0 h5) rfl fun _ σ _ _ hO h6 h7 => ?_
  have hL := hL.trans h6
  have mf0 := mf0.le h6
  have r0 := r0.le h6
  obtain ⟨rfl, rfl⟩ := h7
  have hO : Obs _ _ [_] := hO
  refine wpn_qa hO [] [(2, .pointer (some ⟨bm2, 0, none⟩)), (3, .pointer (some af0)), (9, .int .u8 c4.1), (10, .int .i64 c4.2.1), (11, .int .i64 c4.2.2)] (ar (ar (ar (ar (ar trivial))))) fun j => ?_
  refine wpn_ld rfl (mf0.le hO.base).fst ?_
  refine wpn_q hO 2 [] [(2, .pointer (some ⟨bm2, 0, none⟩)), (10, .int .i64 c4.2.1), (11, .int .i64 c4.2.2), (19, .func (.func 68) #[] #[]), (20, .pointer (some ⟨bm2, 0, none⟩)), (21, .int .u8 c4.1)] (ar (ar (ar (ar (ar (ar trivial)))))) fun j => ?_
  obtain ⟨c8, h9, hF⟩ := bind_some hF
  refine wpn_cv (hs := []) (vs := [_]) rfl (by kernel_rfl) hO (zd1 h9) rfl fun _ σ _ _ hO h10 h11 => ?_
  have hL := hL.trans h10
  obtain ⟨rfl, rfl⟩ := h11
  have hO : Obs _ _ [_] := hO
  refine wpn_nil ?_
  refine wpn_qa hO [] [(2, .pointer (some ⟨bm2, 0, none⟩)), (7, .int .i64 c4.2.1), (8, .bool (c4.2.2 == 0))] (ar (ar (ar trivial))) fun j => ?_
  refine wpn_r1 ?_
  injection hF with hF
  subst hF
  exact hQ _ _ _ _ _ rfl hO hL ⟨rfl, rfl⟩
theorem zeC {τ : Hp} {v0 : Value} {p0 : (List UInt8)} {p1 : Int} {q2 : za} {bm2 : Nat} {af0 : Addr} (r0 : RdT Ty.u8 τ v0 p0) (mf0 : At τ af0 [.func (.func 72) #[] #[]]) {rr : Int × Bool × za} (hF : zbV p0 p1 q2 = some rr) :
    Ctr Try.prog 90 #[v0, .int .i64 p1, .pointer (some ⟨bm2, 0, none⟩), .pointer (some af0)] τ [some (bm2, ⟨[.int .u8 q2.Kind.toNat, .int .u8 q2.Op.toNat, .int .i64 q2.R, .int .i64 q2.S, .int .i64 q2.T, .int .i64 q2.N, .int .i64 q2.M], 24, 7, true⟩)] (fun v τ' vs' => v = .tuple #[.int .i64 rr.1, .bool rr.2.1] ∧ vs' = [some (bm2, ⟨[.int .u8 rr.2.2.Kind.toNat, .int .u8 rr.2.2.Op.toNat, .int .i64 rr.2.2.R, .int .i64 rr.2.2.S, .int .i64 rr.2.2.T, .int .i64 rr.2.2.N, .int .i64 rr.2.2.M], 24, 7, true⟩)]) := by
  obtain ⟨A0, c0, rfl, -⟩ := r0.form
  refine ctr_of (args := [.slice A0 p0.length c0, .int .i64 p1, .pointer (some ⟨bm2, 0, none⟩), .pointer (some af0)]) hm Try.func90 s90 rfl fun w0 σ hO Q hQ => ?_
  unfold zbV at hF
  have hL := Hp.le.refl τ
  show wpn _ _ a90.body _ _ _
  unfold a90
  dsimp only
  refine wpn_qa hO [] [(0, .slice A0 p0.length c0), (1, .int .i64 p1), (2, .pointer (some ⟨bm2, 0, none⟩)), (3, .pointer (some af0))] (ar (ar (ar (ar trivial)))) fun j => ?_
  refine wpn_q hO 2 [] [(2, .pointer (some ⟨bm2, 0, none⟩)), (3, .pointer (some af0)), (13, .slice A0 p0.length c0), (14, .int .i64 p1)] (ar (ar (ar (ar trivial)))) fun j => ?_
  obtain ⟨c4, h5, hF⟩ := bind_some hF
  refine wpn_c0 hO (zbe r0 h5) rfl fun _ σ _ _ hO h6 h7 => ?_
  have hL := hL.trans h6
  have mf0 := mf0.le h6
  have r0 := r0.le h6
  obtain ⟨rfl, rfl⟩ := h7
  have hO : Obs _ _ [_] := hO
  refine wpn_qa hO [] [(2, .pointer (some ⟨bm2, 0, none⟩)), (3, .pointer (some af0)), (9, .int .u8 c4.1), (10, .int .i64 c4.2.1), (11, .int .i64 c4.2.2)] (ar (ar (ar (ar (ar trivial))))) fun j => ?_
  refine wpn_ld rfl (mf0.le hO.base).fst ?_
  refine wpn_q hO 2 [] [(2, .pointer (some ⟨bm2, 0, none⟩)), (10, .int .i64 c4.2.1), (11, .int .i64 c4.2.2), (19, .func (.func 72) #[] #[]), (20, .pointer (some ⟨bm2, 0, none⟩)), (21, .int .u8 c4.1)] (ar (ar (ar (ar (ar (ar trivial)))))) fun j => ?_
  obtain ⟨c8, h9, hF⟩ := bind_some hF
  refine wpn_cv (hs := []) (vs := [_]) rfl (by kernel_rfl) hO (ze5 h9) rfl fun _ σ _ _ hO h10 h11 => ?_
  have hL := hL.trans h10
  obtain ⟨rfl, rfl⟩ := h11
  have hO : Obs _ _ [_] := hO
  refine wpn_nil ?_
  refine wpn_qa hO [] [(2, .pointer (some ⟨bm2, 0, none⟩)), (7, .int .i64 c4.2.1), (8, .bool (c4.2.2 == 0))] (ar (ar (ar trivial))) fun j => ?_
  refine wpn_r1 ?_
  injection hF with hF
  subst hF
  exact hQ _ _ _ _ _ rfl hO hL ⟨rfl, rfl⟩
theorem ze3 {τ : Hp} {v0 : Value} {p0 : (List UInt8)} {p1 : Int} {q2 : za} {bm2 : Nat} {af0 : Addr} (r0 : RdT Ty.u8 τ v0 p0) (mf0 : At τ af0 [.func (.func 75) #[] #[]]) {rr : Int × Bool × za} (hF : zbz p0 p1 q2 = some rr) :
    Ctr Try.prog 90 #[v0, .int .i64 p1, .pointer (some ⟨bm2, 0, none⟩), .pointer (some af0)] τ [some (bm2, ⟨[.int .u8 q2.Kind.toNat, .int .u8 q2.Op.toNat, .int .i64 q2.R, .int .i64 q2.S, .int .i64 q2.T, .int .i64 q2.N, .int .i64 q2.M], 24, 7, true⟩)] (fun v τ' vs' => v = .tuple #[.int .i64 rr.1, .bool rr.2.1] ∧ vs' = [some (bm2, ⟨[.int .u8 rr.2.2.Kind.toNat, .int .u8 rr.2.2.Op.toNat, .int .i64 rr.2.2.R, .int .i64 rr.2.2.S, .int .i64 rr.2.2.T, .int .i64 rr.2.2.N, .int .i64 rr.2.2.M], 24, 7, true⟩)]) := by
  obtain ⟨A0, c0, rfl, -⟩ := r0.form
  refine ctr_of (args := [.slice A0 p0.length c0, .int .i64 p1, .pointer (some ⟨bm2, 0, none⟩), .pointer (some af0)]) hm Try.func90 s90 rfl fun w0 σ hO Q hQ => ?_
  unfold zbz at hF
  have hL := Hp.le.refl τ
  show wpn _ _ a90.body _ _ _
  unfold a90
  dsimp only
  refine wpn_qa hO [] [(0, .slice A0 p0.length c0), (1, .int .i64 p1), (2, .pointer (some ⟨bm2, 0, none⟩)), (3, .pointer (some af0))] (ar (ar (ar (ar trivial)))) fun j => ?_
  refine wpn_q hO 2 [] [(2, .pointer (some ⟨bm2, 0, none⟩)), (3, .pointer (some af0)), (13, .slice A0 p0.length c0), (14, .int .i64 p1)] (ar (ar (ar (ar trivial)))) fun j => ?_
  obtain ⟨c4, h5, hF⟩ := bind_some hF
  refine wpn_c0 hO (zbe r0 h5) rfl fun _ σ _ _ hO h6 h7 => ?_
  have hL := hL.trans h6
  have mf0 := mf0.le h6
  have r0 := r0.le h6
  obtain ⟨rfl, rfl⟩ := h7
  have hO : Obs _ _ [_] := hO
  refine wpn_qa hO [] [(2, .pointer (some ⟨bm2, 0, none⟩)), (3, .pointer (some af0)), (9, .int .u8 c4.1), (10, .int .i64 c4.2.1), (11, .int .i64 c4.2.2)] (ar (ar (ar (ar (ar trivial))))) fun j => ?_
  refine wpn_ld rfl (mf0.le hO.base).fst ?_
  refine wpn_q hO 2 [] [(2, .pointer (some ⟨bm2, 0, none⟩)), (10, .int .i64 c4.2.1), (11, .int .i64 c4.2.2), (19, .func (.func 75) #[] #[]), (20, .pointer (some ⟨bm2, 0, none⟩)), (21, .int .u8 c4.1)] (ar (ar (ar (ar (ar (ar trivial)))))) fun j => ?_
  obtain ⟨c8, h9, hF⟩ := bind_some hF
  refine wpn_cv (hs := []) (vs := [_]) rfl (by kernel_rfl) hO (zd8 h9) rfl fun _ σ _ _ hO h10 h11 => ?_
  have hL := hL.trans h10
  obtain ⟨rfl, rfl⟩ := h11
  have hO : Obs _ _ [_] := hO
  refine wpn_nil ?_
  refine wpn_qa hO [] [(2, .pointer (some ⟨bm2, 0, none⟩)), (7, .int .i64 c4.2.1), (8, .bool (c4.2.2 == 0))] (ar (ar (ar trivial))) fun j => ?_
  refine wpn_r1 ?_
  injection hF with hF
  subst hF
  exact hQ _ _ _ _ _ rfl hO hL ⟨rfl, rfl⟩
theorem zed {τ : Hp} {v0 : Value} {p0 : (List UInt8)} {p1 : Int} {q2 : za} {bm2 : Nat} {af0 : Addr} (r0 : RdT Ty.u8 τ v0 p0) (mf0 : At τ af0 [.func (.func 88) #[] #[]]) {rr : Int × Bool × za} (hF : zbR p0 p1 q2 = some rr) :
    Ctr Try.prog 90 #[v0, .int .i64 p1, .pointer (some ⟨bm2, 0, none⟩), .pointer (some af0)] τ [some (bm2, ⟨[.int .u8 q2.Kind.toNat, .int .u8 q2.Op.toNat, .int .i64 q2.R, .int .i64 q2.S, .int .i64 q2.T, .int .i64 q2.N, .int .i64 q2.M], 24, 7, true⟩)] (fun v τ' vs' => v = .tuple #[.int .i64 rr.1, .bool rr.2.1] ∧ vs' = [some (bm2, ⟨[.int .u8 rr.2.2.Kind.toNat, .int .u8 rr.2.2.Op.toNat, .int .i64 rr.2.2.R, .int .i64 rr.2.2.S, .int .i64 rr.2.2.T, .int .i64 rr.2.2.N, .int .i64 rr.2.2.M], 24, 7, true⟩)]) := by
  obtain ⟨A0, c0, rfl, -⟩ := r0.form
  refine ctr_of (args := [.slice A0 p0.length c0, .int .i64 p1, .pointer (some ⟨bm2, 0, none⟩), .pointer (some af0)]) hm Try.func90 s90 rfl fun w0 σ hO Q hQ => ?_
  unfold zbR at hF
  have hL := Hp.le.refl τ
  show wpn _ _ a90.body _ _ _
  unfold a90
  dsimp only
  refine wpn_qa hO [] [(0, .slice A0 p0.length c0), (1, .int .i64 p1), (2, .pointer (some ⟨bm2, 0, none⟩)), (3, .pointer (some af0))] (ar (ar (ar (ar trivial)))) fun j => ?_
  refine wpn_q hO 2 [] [(2, .pointer (some ⟨bm2, 0, none⟩)), (3, .pointer (some af0)), (13, .slice A0 p0.length c0), (14, .int .i64 p1)] (ar (ar (ar (ar trivial)))) fun j => ?_
  obtain ⟨c4, h5, hF⟩ := bind_some hF
  refine wpn_c0 hO (zbe r0 h5) rfl fun _ σ _ _ hO h6 h7 => ?_
  have hL := hL.trans h6
  have mf0 := mf0.le h6
  have r0 := r0.le h6
  obtain ⟨rfl, rfl⟩ := h7
  have hO : Obs _ _ [_] := hO
  refine wpn_qa hO [] [(2, .pointer (some ⟨bm2, 0, none⟩)), (3, .pointer (some af0)), (9, .int .u8 c4.1), (10, .int .i64 c4.2.1), (11, .int .i64 c4.2.2)] (ar (ar (ar (ar (ar trivial))))) fun j => ?_
  refine wpn_ld rfl (mf0.le hO.base).fst ?_
  refine wpn_q hO 2 [] [(2, .pointer (some ⟨bm2, 0, none⟩)), (10, .int .i64 c4.2.1), (11, .int .i64 c4.2.2), (19, .func (.func 88) #[] #[]), (20, .pointer (some ⟨bm2, 0, none⟩)), (21, .int .u8 c4.1)] (ar (ar (ar (ar (ar (ar trivial)))))) fun j => ?_
  obtain ⟨c8, h9, hF⟩ := bind_some hF
  refine wpn_cv (hs := []) (vs := [_]) rfl (by kernel_rfl) hO (zdX h9) rfl fun _ σ _ _ hO h10 h11 => ?_
  have hL := hL.trans h10
  obtain ⟨rfl, rfl⟩ := h11
  have hO : Obs _ _ [_] := hO
  refine wpn_nil ?_
  refine wpn_qa hO [] [(2, .pointer (some ⟨bm2, 0, none⟩)), (7, .int .i64 c4.2.1), (8, .bool (c4.2.2 == 0))] (ar (ar (ar trivial))) fun j => ?_
  refine wpn_r1 ?_
  injection hF with hF
  subst hF
  exact hQ _ _ _ _ _ rfl hO hL ⟨rfl, rfl⟩
theorem zfb {τ : Hp} {x : zd} {u0 u1 u2 : Value} (hx : zi τ x u0 u1 u2) {v0 : Value} {p0 : (List UInt8)} {p1 : Int} {q2 : za} {bm2 : Nat} (r0 : RdT Ty.u8 τ v0 p0) {rr : Int × Bool × za} (hF : zE x p0 p1 q2 = some rr) :
    FnC Try.prog u2 #[v0, .int .i64 p1, .pointer (some ⟨bm2, 0, none⟩)] τ [some (bm2, ⟨[.int .u8 q2.Kind.toNat, .int .u8 q2.Op.toNat, .int .i64 q2.R, .int .i64 q2.S, .int .i64 q2.T, .int .i64 q2.N, .int .i64 q2.M], 24, 7, true⟩)] (fun v τ' vs' => v = .tuple #[.int .i64 rr.1, .bool rr.2.1] ∧ vs' = [some (bm2, ⟨[.int .u8 rr.2.2.Kind.toNat, .int .u8 rr.2.2.Op.toNat, .int .i64 rr.2.2.R, .int .i64 rr.2.2.S, .int .i64 rr.2.2.T, .int .i64 rr.2.2.N, .int .i64 rr.2.2.M], 24, 7, true⟩)]) := by
  cases x with
  | c_one_1 => obtain ⟨a1_0, a2_0, rfl, rfl, rfl, m0, m1⟩ := hx; exact ⟨90, #[], #[.pointer (some a2_0)], _, rfl, by kernel_rfl, rfl, zex r0 m1 hF⟩
  | c_both_1 => obtain ⟨a1_0, a2_0, rfl, rfl, rfl, m0, m1⟩ := hx; exact ⟨90, #[], #[.pointer (some a2_0)], _, rfl, by kernel_rfl, rfl, zeb r0 m1 hF⟩
  | c_op_1 x0 x1 => obtain ⟨a0_0, a0_1, a1_0, a2_0, rfl, rfl, rfl, m0, m1, m2, m3⟩ := hx; exact ⟨90, #[], #[.pointer (some a2_0)], _, rfl, by kernel_rfl, rfl, zeC r0 m3 hF⟩
  | c_third_1 => obtain ⟨a1_0, a2_0, rfl, rfl, rfl, m0, m1⟩ := hx; exact ⟨90, #[], #[.pointer (some a2_0)], _, rfl, by kernel_rfl, rfl, ze3 r0 m1 hF⟩
  | c_bound_1 => obtain ⟨rfl, rfl, rfl⟩ := hx; exact ⟨79, #[], #[], _, rfl, by kernel_rfl, rfl, zd3 r0 hF⟩
  | c_to_1 => obtain ⟨rfl, rfl, rfl⟩ := hx; exact ⟨84, #[], #[], _, rfl, by kernel_rfl, rfl, zel r0 hF⟩
  | c_how_1 => obtain ⟨a1_0, a2_0, rfl, rfl, rfl, m0, m1⟩ := hx; exact ⟨90, #[], #[.pointer (some a2_0)], _, rfl, by kernel_rfl, rfl, zed r0 m1 hF⟩
  | c_parts_1 => obtain ⟨rfl, rfl, rfl⟩ := hx; exact ⟨63, #[], #[], _, rfl, by kernel_rfl, rfl, zdx r0 hF⟩
  | c_within => obtain ⟨rfl, rfl, rfl⟩ := hx; exact ⟨63, #[], #[], _, rfl, by kernel_rfl, rfl, zdx r0 hF⟩
theorem zdt {τ : Hp} {v0 : Value} {p0 : (List UInt8)} {p1 : Int} (r0 : RdT Ty.u8 τ v0 p0) {rr : za × Int × Bool} (hF : zt p0 p1 = some rr) :
    Ctr Try.prog 24 #[v0, .int .i64 p1] τ [] (fun v τ' vs' => v = .tuple #[.agg #[.int .u8 rr.1.Kind.toNat, .int .u8 rr.1.Op.toNat, .int .i64 rr.1.R, .int .i64 rr.1.S, .int .i64 rr.1.T, .int .i64 rr.1.N, .int .i64 rr.1.M], .int .i64 rr.2.1, .bool rr.2.2] ∧ vs' = []) := by
  obtain ⟨A0, c0, rfl, -⟩ := r0.form
  refine ctr_of (args := [.slice A0 p0.length c0, .int .i64 p1]) hm Try.func24 s24 rfl fun w0 σ hO Q hQ => ?_
  unfold zt at hF
  have hL := Hp.le.refl τ
  show wpn _ _ a24.body _ _ _
  unfold a24
  dsimp only
  refine wpn_al hO fun b3 σ hO => ?_
  have hO : Obs _ _ [_] := hO
  refine wpn_qa hO [] [(0, .slice A0 p0.length c0), (1, .int .i64 p1), (4, .pointer (some ⟨b3, 0, none⟩))] (ar (ar (ar trivial))) fun j => ?_
  refine wpn_assoc ?_
  refine wpn_qa hO [] [(0, .slice A0 p0.length c0), (1, .int .i64 p1), (4, .pointer (some ⟨b3, 0, none⟩)), (13, .bool (decide (p1 ≥ (p0.length : Int))))] (ar (ar (ar (ar trivial)))) fun j => ?_
  rcases ite_some hF with ⟨hb4, hF⟩ | ⟨hb4, hF⟩
  · refine wpn_cT (congrArg Value.bool hb4) ?_
    refine wpn_assoc ?_
    refine wpn_q hO 1 [0] [(4, .pointer (some ⟨b3, 0, none⟩)), (14, .agg #[(.int .u8 0), (.int .u8 0), (.int .i64 0), (.int .i64 0), (.int .i64 0), (.int .i64 0), (.int .i64 0)])] (And.intro (And.intro rfl rfl) (ar (ar trivial))) fun j => ?_
    refine wpn_st hO (i := 0) rfl (off := 0) rfl rfl rfl rfl (Nat.le_of_ble_eq_true rfl) rfl fun σ hO => ?_
    have hO : Obs _ _ [_] := hO
    refine wpn_qa hO [] [(4, .pointer (some ⟨b3, 0, none⟩)), (5, .int .i64 0), (6, .bool false)] (ar (ar (ar trivial))) fun j => ?_
    refine wpn_rt ?_
    injection hF with hF
    subst hF
    have hV0 := hO.val (i := 0) rfl (off := 0) (agg := true) (n := 7) rfl
    have hO := hO.sel [] (by decide)
    exact hQ _ _ _ _ _ (resvs_c rfl (hV0) (resvs_t (resvs_t rfl))) hO hL ⟨rfl, rfl⟩
  · refine wpn_cF (congrArg Value.bool hb4) ?_
    refine wpn_sk ?_
    refine wpn_q hO 2 [] [(0, .slice A0 p0.length c0), (1, .int .i64 p1), (4, .pointer (some ⟨b3, 0, none⟩)), (15, .slice A0 p0.length c0), (16, .int .i64 p1)] (ar (ar (ar (ar (ar trivial))))) fun j => ?_
    obtain ⟨y5, g6, hF⟩ := bind_some hF
    refine wpn_idx (T := Ty.u8) r0 hO.base rfl rfl g6 (by decide) fun a7 _ k8 m9 => ?_
    obtain rfl : _ = ([.int .u8 y5.toNat] : List Value) := k8
    refine wpn_ld rfl (m9.le hO.base).fst ?_
    refine wpn_q hO 1 [] [(0, .slice A0 p0.length c0), (1, .int .i64 p1), (4, .pointer (some ⟨b3, 0, none⟩)), (18, .int .u8 (y5.toNat : Int)), (19, .pointer (some ⟨b3, 0, none⟩))] (ar (ar (ar (ar (ar trivial))))) fun j => ?_
    refine wpn_st hO (i := 0) rfl (off := 0) rfl rfl rfl rfl (Nat.le_of_ble_eq_true rfl) rfl fun σ hO => ?_
    have hO : Obs _ _ [_] := hO
    refine wpn_nil ?_
    refine wpn_q hO 2 [0] [(0, .slice A0 p0.length c0), (1, .int .i64 p1), (4, .pointer (some ⟨b3, 0, none⟩)), (22, .int .u8 (y5.toNat : Int))] (And.intro (And.intro rfl rfl) (ar (ar (ar (ar trivial))))) fun j => ?_
    obtain ⟨c10, h11, hF⟩ := bind_some hF
    refine wpn_c0 hO (zdN h11) rfl fun _ σ _ _ hO h12 h13 => ?_
    have hL := hL.trans h12
    have r0 := r0.le h12
    obtain ⟨v14, o17, rfl, rfl, w18⟩ := h13
    obtain ⟨A15, c16, rfl, -⟩ := w18.form
    have hO : Obs _ _ [_, _] := hO
    refine wpn_qa hO [] [(0, .slice A0 p0.length c0), (1, .int .i64 p1), (4, .pointer (some ⟨b3, 0, none⟩)), (6, .bool c10.2), (7, .slice A15 c10.1.length c16)] (ar (ar (ar (ar (ar trivial))))) fun j => ?_
    refine wpn_qa hO [] [(0, .slice A0 p0.length c0), (4, .pointer (some ⟨b3, 0, none⟩)), (5, .int .i64 (IntKind.i64.wrap (p1 + 1))), (6, .bool c10.2), (7, .slice A15 c10.1.length c16)] (ar (ar (ar (ar (ar trivial))))) fun j => ?_
    refine wpn_assoc ?_
    refine wpn_qa hO [] [(0, .slice A0 p0.length c0), (4, .pointer (some ⟨b3, 0, none⟩)), (5, .int .i64 (IntKind.i64.wrap (p1 + 1))), (6, .bool c10.2), (28, .slice A15 c10.1.length c16), (29, .int .i64 (c10.1.length : Int)), (30, .int .i64 0)] (ar (ar (ar (ar (ar (ar (ar trivial))))))) fun j => ?_
    refine wpn_bl ?_
    refine wpn_lp (fun (n : Nat) e' σ' => ∃ (x50 : UInt8) (x51 : UInt8) (x52 : Int) (x53 : Int) (x54 : Int) (x55 : Int) (x56 : Int) (x57 : Int) (x58 : Bool) (A59 : Option Addr) (c60 : Nat) (o61 : Ob) (x62 : List zd) (x64 : Int) (τ' : Hp), agr [(0, .slice A0 p0.length c0), (4, .pointer (some ⟨b3, 0, none⟩)), (5, .int .i64 x57), (6, .bool x58), (28, .slice A59 x62.length c60), (29, .int .i64 (c10.1.length : Int)), (30, .int .i64 x64)] e' ∧ Obs τ' σ' [some (b3, ⟨[.int .u8 (x50.toNat : Int), .int .u8 (x51.toNat : Int), .int .i64 x52, .int .i64 x53, .int .i64 x54, .int .i64 x55, .int .i64 x56], 24, 7, true⟩), o61] ∧ Hp.le τ τ' ∧ RdT Ty.u8 τ' (.slice A0 p0.length c0) p0 ∧ OwnO zk 73 τ' (.slice A59 x62.length c60) x62 o61 ∧ zS p0 c10 n x50 x51 x52 x53 x54 x55 x56 x57 x58 x62 x64 = some rr) big ⟨y5, (0 : UInt8), 0, 0, 0, 0, 0, (IntKind.i64.wrap (p1 + 1)), c10.2, A15, c16, o17, c10.1, 0, _, ar (ar (ar (ar (ar (ar (ar trivial)))))), hO, hL, r0, w18, hF⟩ ?_
    clear hF hO hL
    rintro n89 e σ ⟨x50, x51, x52, x53, x54, x55, x56, x57, x58, A59, c60, o61, x62, x64, _, hA, hO, hL, r49, w63, hF⟩
    rw [← sets_agr _ _ hA]
    cases n89 with
    | zero => exact nomatch (show none = some rr from hF)
    | succ n89 =>
      replace hF : zM (zS p0 c10 n89) p0 c10 x50 x51 x52 x53 x54 x55 x56 x57 x58 x62 x64 = some rr := hF
      unfold zM at hF
      refine wpn_qa hO [] [(0, .slice A0 p0.length c0), (4, .pointer (some ⟨b3, 0, none⟩)), (5, .int .i64 x57), (6, .bool x58), (28, .slice A59 x62.length c60), (29, .int .i64 (c10.1.length : Int)), (30, .int .i64 x64), (31, .bool (decide (x64 < (c10.1.length : Int))))] (ar (ar (ar (ar (ar (ar (ar (ar trivial)))))))) fun j => ?_
      rcases ite_some hF with ⟨hb90, hF⟩ | ⟨hb90, hF⟩
      · refine wpn_cT (congrArg Value.bool hb90) ?_
        refine wpn_sk ?_
        refine wpn_bl ?_
        obtain ⟨y91, g92, hF⟩ := bind_some hF
        refine wpn_ido (T := zk) hO w63 (i := 1) rfl rfl rfl g92 (by decide) fun a93 _ k94 m95 i96 => ?_
        have k97 := k94
        obtain ⟨f99, a100, c101, f102, a103, c104, f105, a106, c107, rfl, r98⟩ := k97
        refine wpn_ld rfl (m95.all rfl) ?_
        refine wpn_al hO fun b108 σ hO => ?_
        have hO : Obs _ _ [_, _, _] := hO
        refine wpn_st hO (i := 2) rfl (off := 0) rfl rfl rfl rfl (Nat.le_of_ble_eq_true rfl) rfl fun σ hO => ?_
        have hO : Obs _ _ [_, _, _] := hO
        refine wpn_nil ?_
        refine wpn_qa hO [] [(0, .slice A0 p0.length c0), (4, .pointer (some ⟨b3, 0, none⟩)), (5, .int .i64 x57), (6, .bool x58), (9, .pointer (some ⟨b108, 0, none⟩)), (28, .slice A59 x62.length c60), (29, .int .i64 (c10.1.length : Int)), (30, .int .i64 x64), (34, .bool x58)] (ar (ar (ar (ar (ar (ar (ar (ar (ar trivial))))))))) fun j => ?_
        refine wpn_clast ?_
        rcases ite_some hF with ⟨hb109, hF⟩ | ⟨hb109, hF⟩
        · refine wpn_cT (congrArg Value.bool hb109) ?_
          refine wpn_q hO 4 [2] [(0, .slice A0 p0.length c0), (4, .pointer (some ⟨b3, 0, none⟩)), (28, .slice A59 x62.length c60), (29, .int .i64 (c10.1.length : Int)), (30, .int .i64 x64), (37, .func f105 a106 c107), (38, .slice A0 p0.length c0), (39, .int .i64 x57)] (And.intro (And.intro rfl rfl) (ar (ar (ar (ar (ar (ar (ar (ar trivial))))))))) fun j => ?_
          obtain ⟨c110, h111, hF⟩ := bind_some hF
          have hO := hO.sel [1, 2, 0] (by decide)
          refine wpn_fv (hs := [_, _]) (vs := [_]) rfl hO (zfb r98 r49 h111) rfl fun _ σ _ _ hO h112 h113 => ?_
          have hL := hL.trans h112
          have r49 := r49.le h112
          have w63 := w63.le h112
          have r98 := r98.le h112
          obtain ⟨rfl, rfl⟩ := h113
          have hO : Obs _ _ [_, _, _] := hO
          refine wpn_qa hO [] [(0, .slice A0 p0.length c0), (4, .pointer (some ⟨b3, 0, none⟩)), (5, .int .i64 c110.1), (6, .bool c110.2.1), (28, .slice A59 x62.length c60), (29, .int .i64 (c10.1.length : Int)), (30, .int .i64 x64)] (ar (ar (ar (ar (ar (ar (ar trivial))))))) fun j => ?_
          refine wpn_end ?_
          refine inb_i ?_
          refine thn_i ?_
          refine wpn_rlast ?_
          refine wpn_qa hO [] [(0, .slice A0 p0.length c0), (4, .pointer (some ⟨b3, 0, none⟩)), (5, .int .i64 c110.1), (6, .bool c110.2.1), (28, .slice A59 x62.length c60), (29, .int .i64 (c10.1.length : Int)), (30, .int .i64 (IntKind.i64.wrap (x64 + 1)))] (ar (ar (ar (ar (ar (ar (ar trivial))))))) fun j => ?_
          refine wpn_end ?_
          refine thn_i ?_
          have hO := hO.sel [2, 0] (by decide)
          exact ⟨n89, Nat.lt_succ_self _, c110.2.2.Kind, c110.2.2.Op, c110.2.2.R, c110.2.2.S, c110.2.2.T, c110.2.2.N, c110.2.2.M, c110.1, c110.2.1, A59, c60, o61, x62, (IntKind.i64.wrap (x64 + 1)), _, ar (ar (ar (ar (ar (ar (ar trivial)))))), hO, hL, r49, w63, hF⟩
        · refine wpn_cF (congrArg Value.bool hb109) ?_
          refine wpn_sk ?_
          refine wpn_end ?_
          refine inb_i ?_
          refine thn_i ?_
          refine wpn_rlast ?_
          refine wpn_qa hO [] [(0, .slice A0 p0.length c0), (4, .pointer (some ⟨b3, 0, none⟩)), (5, .int .i64 x57), (6, .bool x58), (28, .slice A59 x62.length c60), (29, .int .i64 (c10.1.length : Int)), (30, .int .i64 (IntKind.i64.wrap (x64 + 1)))] (ar (ar (ar (ar (ar (ar (ar trivial))))))) fun j => ?_
          refine wpn_end ?_
          refine thn_i ?_
          have hO := hO.sel [0, 1] (by decide)
          exact ⟨n89, Nat.lt_succ_self _, x50, x51, x52, x53, x54, x55, x56, x57, x58, A59, c60, o61, x62, (IntKind.i64.wrap (x64 + 1)), _, ar (ar (ar (ar (ar (ar (ar trivial)))))), hO, hL, r49, w63, hF⟩
      · refine wpn_cF (congrArg Value.bool hb90) ?_
        refine wpn_ex ?_
        refine thn_x ?_
        refine inb_x ?_
        refine thn_i ?_
        refine wpn_q hO 3 [0] [(4, .pointer (some ⟨b3, 0, none⟩)), (44, .agg #[(.int .u8 (x50.toNat : Int)), (.int .u8 (x51.toNat : Int)), (.int .i64 x52), (.int .i64 x53), (.int .i64 x54), (.int .i64 x55), (.int .i64 x56)]), (45, .int .i64 x57), (46, .bool x58)] (And.intro (And.intro rfl rfl) (ar (ar (ar (ar trivial))))) fun j => ?_
        refine wpn_st hO (i := 0) rfl (off := 0) rfl rfl rfl rfl (Nat.le_of_ble_eq_true rfl) rfl fun σ hO => ?_
        have hO : Obs _ _ [_, _] := hO
        refine wpn_qa hO [] [(4, .pointer (some ⟨b3, 0, none⟩)), (5, .int .i64 x57), (6, .bool x58)] (ar (ar (ar trivial))) fun j => ?_
        refine wpn_r1 ?_
        injection hF with hF
        subst hF
        have hV0 := hO.val (i := 0) rfl (off := 0) (agg := true) (n := 7) rfl
        have hO := hO.sel [] (by decide)
        exact hQ _ _ _ _ _ (resvs_c rfl (hV0) (resvs_t (resvs_t rfl))) hO hL ⟨rfl, rfl⟩
theorem zcG {τ : Hp} {p0 : za}  {rr : Bool} (hF : zn p0 = some rr) :
    Ctr Try.prog 11 #[.agg #[.int .u8 p0.Kind.toNat, .int .u8 p0.Op.toNat, .int .i64 p0.R, .int .i64 p0.S, .int .i64 p0.T, .int .i64 p0.N, .int .i64 p0.M]] τ [] (fun v τ' vs' => v = .bool rr ∧ vs' = []) := by
  refine ctr_of (args := [.agg #[.int .u8 p0.Kind.toNat, .int .u8 p0.Op.toNat, .int .i64 p0.R, .int .i64 p0.S, .int .i64 p0.T, .int .i64 p0.N, .int .i64 p0.M]]) hm Try.func11 s11 rfl fun w0 σ hO Q hQ => ?_
  unfold zn at hF
  have hL := Hp.le.refl τ
  show wpn _ _ a11.body _ _ _
  unfold a11
  dsimp only
  refine wpn_bx (n := 7) hO rfl rfl fun b2 σ hO => ?_
  have hO : Obs _ _ [_] := hO
  refine wpn_qa hO [] [(1, .pointer (some ⟨b2, 0, none⟩))] (ar trivial) fun j => ?_
  refine wpn_q hO 1 [0] [(1, .pointer (some ⟨b2, 0, none⟩)), (8, .agg #[(.int .u8 (p0.Kind.toNat : Int)), (.int .u8 (p0.Op.toNat : Int)), (.int .i64 p0.R), (.int .i64 p0.S), (.int .i64 p0.T), (.int .i64 p0.N), (.int .i64 p0.M)])] (And.intro (And.intro rfl rfl) (ar (ar trivial))) fun j => ?_
  obtain ⟨c3, h4, hF⟩ := bind_some hF
  refine wpn_c0 hO (zdf h4) rfl fun _ σ _ _ hO h5 h6 => ?_
  have hL := hL.trans h5
  obtain ⟨v7, o10, rfl, rfl, w11⟩ := h6
  obtain ⟨A8, c9, rfl, -⟩ := w11.form
  have hO : Obs _ _ [_, _] := hO
  refine wpn_qa hO [] [(1, .pointer (some ⟨b2, 0, none⟩)), (3, .slice A8 c3.1.length c9), (4, .bool c3.2)] (ar (ar (ar trivial))) fun j => ?_
  refine wpn_assoc ?_
  refine wpn_qa hO [] [(1, .pointer (some ⟨b2, 0, none⟩)), (3, .slice A8 c3.1.length c9), (13, .bool (!c3.2))] (ar (ar (ar trivial))) fun j => ?_
  rcases ite_some hF with ⟨hb12, hF⟩ | ⟨hb12, hF⟩
  · refine wpn_cT (congrArg Value.bool hb12) ?_
    refine wpn_assoc ?_
    refine wpn_qa hO [] [(2, .bool false)] (ar trivial) fun j => ?_
    refine wpn_rt ?_
    injection hF with hF
    subst hF
    have hO := hO.sel [] (by decide)
    exact hQ _ _ _ _ _ rfl hO hL ⟨rfl, rfl⟩
  · refine wpn_cF (congrArg Value.bool hb12) ?_
    refine wpn_sk ?_
    refine wpn_q hO 1 [] [(1, .pointer (some ⟨b2, 0, none⟩)), (15, .slice A8 c3.1.length c9)] (ar (ar trivial)) fun j => ?_
    obtain ⟨_, h14, r13, hO⟩ := w11.share hO (i := 1) rfl
    have hL := hL.trans h14
    have hO : Obs _ _ [_, _] := hO
    obtain ⟨c15, h16, hF⟩ := bind_some hF
    refine wpn_c0 hO (zdt r13 h16) rfl fun _ σ _ _ hO h17 h18 => ?_
    have hL := hL.trans h17
    have r13 := r13.le h17
    obtain ⟨rfl, rfl⟩ := h18
    have hO : Obs _ _ [_, _] := hO
    refine wpn_q hO 4 [] [(1, .pointer (some ⟨b2, 0, none⟩)), (17, .agg #[(.int .u8 (c15.1.Kind.toNat : Int)), (.int .u8 (c15.1.Op.toNat : Int)), (.int .i64 c15.1.R), (.int .i64 c15.1.S), (.int .i64 c15.1.T), (.int .i64 c15.1.N), (.int .i64 c15.1.M)]), (18, .int .i64 c15.2.1), (19, .bool c15.2.2)] (ar (ar (ar (ar trivial)))) fun j => ?_
    refine wpn_al hO fun b19 σ hO => ?_
    have hO : Obs _ _ [_, _, _] := hO
    refine wpn_st hO (i := 2) rfl (off := 0) rfl rfl rfl rfl (Nat.le_of_ble_eq_true rfl) rfl fun σ hO => ?_
    have hO : Obs _ _ [_, _, _] := hO
    refine wpn_qa hO [] [(1, .pointer (some ⟨b2, 0, none⟩)), (4, .bool c15.2.2), (5, .pointer (some ⟨b19, 0, none⟩))] (ar (ar (ar trivial))) fun j => ?_
    refine wpn_qa hO [2, 0] [(2, .bool (c15.2.2 && (( (c15.1.Kind.toNat : Int) == (p0.Kind.toNat : Int)) && (( (c15.1.Op.toNat : Int) == (p0.Op.toNat : Int)) && (( c15.1.R == p0.R) && (( c15.1.S == p0.S) && (( c15.1.T == p0.T) && (( c15.1.N == p0.N) && (( c15.1.M == p0.M) && true)))))))))] (And.intro (And.intro rfl rfl) (And.intro (And.intro rfl rfl) (And.intro (And.intro rfl rfl) (fun _ => ar trivial)))) fun j => ?_
    refine wpn_r1 ?_
    injection hF with hF
    subst hF
    have hO := hO.sel [] (by decide)
    exact hQ _ _ _ _ _ rfl hO hL ⟨rfl, rfl⟩
theorem zc6 {τ : Hp} {v0 : Value} {p0 : (List UInt8)} {p1 : za} (r0 : RdT Ty.u8 τ v0 p0) {rr : (List UInt8)} (hF : zq p0 p1 = some rr) :
    Ctr Try.prog 10 #[v0, .agg #[.int .u8 p1.Kind.toNat, .int .u8 p1.Op.toNat, .int .i64 p1.R, .int .i64 p1.S, .int .i64 p1.T, .int .i64 p1.N, .int .i64 p1.M]] τ [] (fun v τ' vs' => ∃ (v0 : Value) (o0 : Ob), v = v0 ∧ vs' = [o0] ∧ OwnO Ty.u8 5 τ' v0 rr o0) := by
  obtain ⟨A0, c0, rfl, -⟩ := r0.form
  refine ctr_of (args := [.slice A0 p0.length c0, .agg #[.int .u8 p1.Kind.toNat, .int .u8 p1.Op.toNat, .int .i64 p1.R, .int .i64 p1.S, .int .i64 p1.T, .int .i64 p1.N, .int .i64 p1.M]]) hm Try.func10 s10 rfl fun w0 σ hO Q hQ => ?_
  unfold zq at hF
  have hL := Hp.le.refl τ
  show wpn _ _ a10.body _ _ _
  unfold a10
  dsimp only
  refine wpn_bx (n := 7) hO rfl rfl fun b3 σ hO => ?_
  have hO : Obs _ _ [_] := hO
  refine wpn_qa hO [] [(0, .slice A0 p0.length c0), (3, .pointer (some ⟨b3, 0, none⟩))] (ar (ar trivial)) fun j => ?_
  refine wpn_q hO 1 [] [(3, .pointer (some ⟨b3, 0, none⟩)), (8, .slice A0 p0.length c0)] (ar (ar trivial)) fun j => ?_
  obtain ⟨c4, h5, hF⟩ := bind_some hF
  refine wpn_c0 hO (zc5 r0 h5) rfl fun _ σ _ _ hO h6 h7 => ?_
  have hL := hL.trans h6
  have r0 := r0.le h6
  obtain ⟨v8, o11, rfl, rfl, w12⟩ := h7
  obtain ⟨A9, c10, rfl, -⟩ := w12.form
  have hO : Obs _ _ [_, _] := hO
  refine wpn_qa hO [] [(3, .pointer (some ⟨b3, 0, none⟩)), (5, .slice A9 c4.length c10)] (ar (ar trivial)) fun j => ?_
  refine wpn_assoc ?_
  refine wpn_q hO 1 [0] [(3, .pointer (some ⟨b3, 0, none⟩)), (5, .slice A9 c4.length c10), (10, .agg #[(.int .u8 (p1.Kind.toNat : Int)), (.int .u8 (p1.Op.toNat : Int)), (.int .i64 p1.R), (.int .i64 p1.S), (.int .i64 p1.T), (.int .i64 p1.N), (.int .i64 p1.M)])] (And.intro (And.intro rfl rfl) (ar (ar (ar trivial)))) fun j => ?_
  obtain ⟨c13, h14, hF⟩ := bind_some hF
  refine wpn_c0 hO (zcG h14) rfl fun _ σ _ _ hO h15 h16 => ?_
  have hL := hL.trans h15
  have w12 := w12.le h15
  obtain ⟨rfl, rfl⟩ := h16
  have hO : Obs _ _ [_, _] := hO
  refine wpn_qa hO [] [(3, .pointer (some ⟨b3, 0, none⟩)), (5, .slice A9 c4.length c10), (12, .bool (!c13))] (ar (ar (ar trivial))) fun j => ?_
  rcases ite_some hF with ⟨hb17, hF⟩ | ⟨hb17, hF⟩
  · refine wpn_cT (congrArg Value.bool hb17) ?_
    refine wpn_assoc ?_
    refine wpn_qa hO [] [(4, .slice A9 c4.length c10)] (ar trivial) fun j => ?_
    refine wpn_rt ?_
    injection hF with hF
    subst hF
    have hO := hO.sel [1] (by decide)
    exact hQ _ _ _ _ _ rfl hO hL ⟨_, _, rfl, rfl, w12⟩
  · refine wpn_cF (congrArg Value.bool hb17) ?_
    refine wpn_sk ?_
    refine wpn_q hO 1 [0] [(5, .slice A9 c4.length c10), (15, .agg #[(.int .u8 (p1.Kind.toNat : Int)), (.int .u8 (p1.Op.toNat : Int)), (.int .i64 p1.R), (.int .i64 p1.S), (.int .i64 p1.T), (.int .i64 p1.N), (.int .i64 p1.M)])] (And.intro (And.intro rfl rfl) (ar (ar trivial))) fun j => ?_
    obtain ⟨c18, h19, hF⟩ := bind_some hF
    refine wpn_c0 hO (zdf h19) rfl fun _ σ _ _ hO h20 h21 => ?_
    have hL := hL.trans h20
    have w12 := w12.le h20
    obtain ⟨v22, o25, rfl, rfl, w26⟩ := h21
    obtain ⟨A23, c24, rfl, -⟩ := w26.form
    have hO : Obs _ _ [_, _, _] := hO
    refine wpn_qa hO [] [(5, .slice A9 c4.length c10), (6, .slice A23 c18.1.length c24)] (ar (ar trivial)) fun j => ?_
    refine wpn_q hO 2 [] [(19, .slice A9 c4.length c10), (20, .slice A23 c18.1.length c24)] (ar (ar trivial)) fun j => ?_
    obtain ⟨_, hr, hF⟩ := bind_some hF
    refine wpn_apf (T := Ty.u8) u8_flat hO w12 (i := 1) rfl rfl rfl (w26.rd hO (i := 2) rfl) hr (by decide) fun _ σ o29 w30 hO => ?_
    obtain ⟨A27, c28, rfl, -⟩ := w30.form
    have hO : Obs _ _ [_, _, _] := hO
    refine wpn_qa hO [] [(4, .slice A27 (c4 ++ c18.1).length c28)] (ar trivial) fun j => ?_
    refine wpn_r1 ?_
    injection hF with hF
    subst hF
    have hO := hO.sel [1] (by decide)
    exact hQ _ _ _ _ _ rfl hO hL ⟨_, _, rfl, rfl, w30⟩
theorem zeW {τ : Hp} {p0 : za}  {rr : Int} (hF : z0 p0 = some rr) :
    Ctr Try.prog 13 #[.agg #[.int .u8 p0.Kind.toNat, .int .u8 p0.Op.toNat, .int .i64 p0.R, .int .i64 p0.S, .int .i64 p0.T, .int .i64 p0.N, .int .i64 p0.M]] τ [] (fun v τ' vs' => v = .int .i64 rr ∧ vs' = []) := by
  refine ctr_of (args := [.agg #[.int .u8 p0.Kind.toNat, .int .u8 p0.Op.toNat, .int .i64 p0.R, .int .i64 p0.S, .int .i64 p0.T, .int .i64 p0.N, .int .i64 p0.M]]) hm Try.func13 s13 rfl fun w0 σ hO Q hQ => ?_
  unfold z0 at hF
  have hL := Hp.le.refl τ
  show wpn _ _ a13.body _ _ _
  unfold a13
  dsimp only
  refine wpn_bx (n := 7) hO rfl rfl fun b2 σ hO => ?_
  have hO : Obs _ _ [_] := hO
  refine wpn_qa hO [] [(1, .pointer (some ⟨b2, 0, none⟩))] (ar trivial) fun j => ?_
  refine wpn_q hO 1 [0] [(3, .agg #[(.int .u8 (p0.Kind.toNat : Int)), (.int .u8 (p0.Op.toNat : Int)), (.int .i64 p0.R), (.int .i64 p0.S), (.int .i64 p0.T), (.int .i64 p0.N), (.int .i64 p0.M)])] (And.intro (And.intro rfl rfl) (ar trivial)) fun j => ?_
  obtain ⟨c3, h4, hF⟩ := bind_some hF
  refine wpn_c0 hO (zc6 (RdT.nil Ty.u8 _) h4) rfl fun _ σ _ _ hO h5 h6 => ?_
  have hL := hL.trans h5
  obtain ⟨v7, o10, rfl, rfl, w11⟩ := h6
  obtain ⟨A8, c9, rfl, -⟩ := w11.form
  have hO : Obs _ _ [_, _] := hO
  refine wpn_qa hO [] [(2, .int .i64 (c3.length : Int))] (ar trivial) fun j => ?_
  refine wpn_r1 ?_
  injection hF with hF
  subst hF
  have hO := hO.sel [] (by decide)
  exact hQ _ _ _ _ _ rfl hO hL ⟨rfl, rfl⟩
theorem zd4 {τ : Hp} {v0 : Value} {p0 : (List UInt8)} {v1 : Value} {p1 : (List UInt8)} (r0 : RdT Ty.u8 τ v0 p0) (r1 : RdT Ty.u8 τ v1 p1) {rr : Bool} (hF : zb3 p0 p1 = some rr) :
    Ctr Try.prog 33 #[v0, v1] τ [] (fun v τ' vs' => v = .bool rr ∧ vs' = []) := by
  obtain ⟨A0, c0, rfl, -⟩ := r0.form
  obtain ⟨A1, c1, rfl, -⟩ := r1.form
  refine ctr_of (args := [.slice A0 p0.length c0, .slice A1 p1.length c1]) hm Try.func33 s33 rfl fun w0 σ hO Q hQ => ?_
  unfold zb3 at hF
  have hL := Hp.le.refl τ
  show wpn _ _ a33.body _ _ _
  unfold a33
  dsimp only
  refine wpn_qa hO [] [(0, .slice A0 p0.length c0), (1, .slice A1 p1.length c1)] (ar (ar trivial)) fun j => ?_
  refine wpn_q hO 1 [] [(1, .slice A1 p1.length c1), (5, .slice A0 p0.length c0)] (ar (ar trivial)) fun j => ?_
  refine wpn_ts (l := p0) (r0.le hO.base) rfl ?_
  refine wpn_q hO 1 [] [(6, .string (⟨p0.toArray⟩ : ByteArray)), (7, .slice A1 p1.length c1)] (ar (ar trivial)) fun j => ?_
  refine wpn_ts (l := p1) (r1.le hO.base) rfl ?_
  refine wpn_qa hO [] [(4, .bool (strEq (⟨p0.toArray⟩ : ByteArray) (⟨p1.toArray⟩ : ByteArray)))] (ar trivial) fun j => ?_
  refine wpn_r1 ?_
  injection hF with hF
  subst hF
  exact hQ _ _ _ _ _ rfl hO hL ⟨rfl, rfl⟩
theorem zdp {τ : Hp} {v0 : Value} {p0 : (List UInt8)} {p1 : Int} (r0 : RdT Ty.u8 τ v0 p0) {rr : za × Int × Int} (hF : zr p0 p1 = some rr) :
    Ctr Try.prog 19 #[v0, .int .i64 p1] τ [] (fun v τ' vs' => v = .tuple #[.agg #[.int .u8 rr.1.Kind.toNat, .int .u8 rr.1.Op.toNat, .int .i64 rr.1.R, .int .i64 rr.1.S, .int .i64 rr.1.T, .int .i64 rr.1.N, .int .i64 rr.1.M], .int .i64 rr.2.1, .int .i64 rr.2.2] ∧ vs' = []) := by
  obtain ⟨A0, c0, rfl, -⟩ := r0.form
  refine ctr_of (args := [.slice A0 p0.length c0, .int .i64 p1]) hm Try.func19 s19 rfl fun w0 σ hO Q hQ => ?_
  unfold zr at hF
  have hL := Hp.le.refl τ
  show wpn _ _ a19.body _ _ _
  unfold a19
  dsimp only
  refine wpn_al hO fun b3 σ hO => ?_
  have hO : Obs _ _ [_] := hO
  refine wpn_qa hO [] [(0, .slice A0 p0.length c0), (1, .int .i64 p1), (4, .pointer (some ⟨b3, 0, none⟩))] (ar (ar (ar trivial))) fun j => ?_
  refine wpn_assoc ?_
  refine wpn_qa hO [] [(0, .slice A0 p0.length c0), (1, .int .i64 p1), (4, .pointer (some ⟨b3, 0, none⟩)), (17, .bool ((decide (p1 < 0)) || (decide (p1 > (p0.length : Int)))))] (And.intro (And.intro rfl rfl) (fun _ => ar (ar (ar (ar trivial))))) fun j => ?_
  rcases ite_some hF with ⟨hb4, hF⟩ | ⟨hb4, hF⟩
  · refine wpn_cT (congrArg Value.bool hb4) ?_
    refine wpn_assoc ?_
    refine wpn_q hO 1 [0] [(4, .pointer (some ⟨b3, 0, none⟩)), (18, .agg #[(.int .u8 0), (.int .u8 0), (.int .i64 0), (.int .i64 0), (.int .i64 0), (.int .i64 0), (.int .i64 0)])] (And.intro (And.intro rfl rfl) (ar (ar trivial))) fun j => ?_
    refine wpn_st hO (i := 0) rfl (off := 0) rfl rfl rfl rfl (Nat.le_of_ble_eq_true rfl) rfl fun σ hO => ?_
    have hO : Obs _ _ [_] := hO
    refine wpn_qa hO [] [(4, .pointer (some ⟨b3, 0, none⟩)), (5, .int .i64 0), (6, .int .i64 1)] (ar (ar (ar trivial))) fun j => ?_
    refine wpn_rt ?_
    injection hF with hF
    subst hF
    have hV0 := hO.val (i := 0) rfl (off := 0) (agg := true) (n := 7) rfl
    have hO := hO.sel [] (by decide)
    exact hQ _ _ _ _ _ (resvs_c rfl (hV0) (resvs_t (resvs_t rfl))) hO hL ⟨rfl, rfl⟩
  · refine wpn_cF (congrArg Value.bool hb4) ?_
    refine wpn_sk ?_
    refine wpn_q hO 2 [] [(0, .slice A0 p0.length c0), (1, .int .i64 p1), (4, .pointer (some ⟨b3, 0, none⟩)), (20, .slice A0 p0.length c0), (21, .int .i64 p1)] (ar (ar (ar (ar (ar trivial))))) fun j => ?_
    obtain ⟨c5, h6, hF⟩ := bind_some hF
    refine wpn_c0 hO (zdt r0 h6) rfl fun _ σ _ _ hO h7 h8 => ?_
    have hL := hL.trans h7
    have r0 := r0.le h7
    obtain ⟨rfl, rfl⟩ := h8
    have hO : Obs _ _ [_] := hO
    refine wpn_q hO 4 [] [(0, .slice A0 p0.length c0), (1, .int .i64 p1), (4, .pointer (some ⟨b3, 0, none⟩)), (23, .agg #[(.int .u8 (c5.1.Kind.toNat : Int)), (.int .u8 (c5.1.Op.toNat : Int)), (.int .i64 c5.1.R), (.int .i64 c5.1.S), (.int .i64 c5.1.T), (.int .i64 c5.1.N), (.int .i64 c5.1.M)]), (24, .int .i64 c5.2.1), (25, .bool c5.2.2)] (ar (ar (ar (ar (ar (ar trivial)))))) fun j => ?_
    refine wpn_al hO fun b9 σ hO => ?_
    have hO : Obs _ _ [_, _] := hO
    refine wpn_st hO (i := 1) rfl (off := 0) rfl rfl rfl rfl (Nat.le_of_ble_eq_true rfl) rfl fun σ hO => ?_
    have hO : Obs _ _ [_, _] := hO
    refine wpn_qa hO [] [(0, .slice A0 p0.length c0), (1, .int .i64 p1), (4, .pointer (some ⟨b3, 0, none⟩)), (7, .pointer (some ⟨b9, 0, none⟩)), (8, .int .i64 c5.2.1), (9, .bool c5.2.2)] (ar (ar (ar (ar (ar (ar trivial)))))) fun j => ?_
    refine wpn_assoc ?_
    refine wpn_p2r ?_
    refine wpn_q hO 3 [] [(0, .slice A0 p0.length c0), (1, .int .i64 p1), (4, .pointer (some ⟨b3, 0, none⟩)), (7, .pointer (some ⟨b9, 0, none⟩)), (8, .int .i64 c5.2.1), (28, .bool (!c5.2.2))] (ar (ar (ar (ar (ar (ar trivial)))))) fun j => ?_
    obtain ⟨c10, h11, hF⟩ := bind_some hF
    refine wpn_mid 2 (fun e' σ' => ∃ (τ' : Hp), agr [(32, .bool c10), (0, .slice A0 p0.length c0), (1, .int .i64 p1), (4, .pointer (some ⟨b3, 0, none⟩)), (7, .pointer (some ⟨b9, 0, none⟩)), (8, .int .i64 c5.2.1)] e' ∧ Obs τ' σ' [some (b3, ⟨[.int .u8 0, .int .u8 0, .int .i64 0, .int .i64 0, .int .i64 0, .int .i64 0, .int .i64 0], 24, 7, true⟩), some (b9, ⟨[.int .u8 (c5.1.Kind.toNat : Int), .int .u8 (c5.1.Op.toNat : Int), .int .i64 c5.1.R, .int .i64 c5.1.S, .int .i64 c5.1.T, .int .i64 c5.1.N, .int .i64 c5.1.M], 24, 7, true⟩)] ∧ Hp.le τ τ' ∧ RdT Ty.u8 τ' (.slice A0 p0.length c0) p0) ?_ ?_
    · have hF := h11
      rcases ite_some hF with ⟨hb12, hF⟩ | ⟨hb12, hF⟩
      · refine wpn_gF (congrArg (fun x => isB (.bool x) false) hb12) ?_
        refine wpn_pk (congrArg Value.bool hb12) ?_
        refine wpn_nil ?_
        injection hF with hF
        subst hF
        refine wpn_end ?_
        exact ⟨rfl, _, ar (ar (ar (ar (ar (ar trivial))))), hO, hL, r0⟩
      · refine wpn_gT (congrArg (fun x => isB (.bool x) false) hb12) ?_
        refine wpn_q hO 1 [1] [(0, .slice A0 p0.length c0), (1, .int .i64 p1), (4, .pointer (some ⟨b3, 0, none⟩)), (7, .pointer (some ⟨b9, 0, none⟩)), (8, .int .i64 c5.2.1), (28, .bool (!c5.2.2)), (29, .agg #[(.int .u8 (c5.1.Kind.toNat : Int)), (.int .u8 (c5.1.Op.toNat : Int)), (.int .i64 c5.1.R), (.int .i64 c5.1.S), (.int .i64 c5.1.T), (.int .i64 c5.1.N), (.int .i64 c5.1.M)])] (And.intro (And.intro rfl rfl) (ar (ar (ar (ar (ar (ar (ar trivial)))))))) fun j => ?_
        obtain ⟨c13, h14, hF⟩ := bind_some hF
        refine wpn_c0 hO (zcG h14) rfl fun _ σ _ _ hO h15 h16 => ?_
        have hL := hL.trans h15
        have r0 := r0.le h15
        obtain ⟨rfl, rfl⟩ := h16
        have hO : Obs _ _ [_, _] := hO
        refine wpn_q hO 1 [] [(0, .slice A0 p0.length c0), (1, .int .i64 p1), (4, .pointer (some ⟨b3, 0, none⟩)), (7, .pointer (some ⟨b9, 0, none⟩)), (8, .int .i64 c5.2.1), (28, .bool (!c5.2.2)), (31, .bool (!c13))] (ar (ar (ar (ar (ar (ar (ar trivial))))))) fun j => ?_
        refine wpn_pk (congrArg Value.bool hb12) ?_
        refine wpn_nil ?_
        injection hF with hF
        subst hF
        refine wpn_end ?_
        exact ⟨rfl, _, ar (ar (ar (ar (ar (ar trivial))))), hO, hL, r0⟩
    · rintro e σ ⟨_, hA, hO, hL, r0⟩
      rw [← sets_agr _ _ hA]
      refine wpn_q hO 1 [] [(0, .slice A0 p0.length c0), (1, .int .i64 p1), (4, .pointer (some ⟨b3, 0, none⟩)), (7, .pointer (some ⟨b9, 0, none⟩)), (8, .int .i64 c5.2.1), (33, .bool c10)] (ar (ar (ar (ar (ar (ar trivial)))))) fun j => ?_
      obtain ⟨c17, h18, hF⟩ := bind_some hF
      refine wpn_mid 2 (fun e' σ' => ∃ (τ' : Hp), agr [(42, .bool c17), (4, .pointer (some ⟨b3, 0, none⟩)), (7, .pointer (some ⟨b9, 0, none⟩)), (8, .int .i64 c5.2.1)] e' ∧ Obs τ' σ' [some (b3, ⟨[.int .u8 0, .int .u8 0, .int .i64 0, .int .i64 0, .int .i64 0, .int .i64 0, .int .i64 0], 24, 7, true⟩), some (b9, ⟨[.int .u8 (c5.1.Kind.toNat : Int), .int .u8 (c5.1.Op.toNat : Int), .int .i64 c5.1.R, .int .i64 c5.1.S, .int .i64 c5.1.T, .int .i64 c5.1.N, .int .i64 c5.1.M], 24, 7, true⟩)] ∧ Hp.le τ τ') ?_ ?_
      · have hF := h18
        rcases ite_some hF with ⟨hb19, hF⟩ | ⟨hb19, hF⟩
        · refine wpn_gF (congrArg (fun x => isB (.bool x) false) hb19) ?_
          refine wpn_pk (congrArg Value.bool hb19) ?_
          refine wpn_nil ?_
          injection hF with hF
          subst hF
          refine wpn_end ?_
          exact ⟨rfl, _, ar (ar (ar (ar trivial))), hO, hL⟩
        · refine wpn_gT (congrArg (fun x => isB (.bool x) false) hb19) ?_
          refine wpn_q hO 4 [1] [(4, .pointer (some ⟨b3, 0, none⟩)), (7, .pointer (some ⟨b9, 0, none⟩)), (8, .int .i64 c5.2.1), (33, .bool c10), (34, .agg #[(.int .u8 (c5.1.Kind.toNat : Int)), (.int .u8 (c5.1.Op.toNat : Int)), (.int .i64 c5.1.R), (.int .i64 c5.1.S), (.int .i64 c5.1.T), (.int .i64 c5.1.N), (.int .i64 c5.1.M)]), (36, .slice A0 p0.length c0), (37, .int .i64 p1), (38, .int .i64 c5.2.1)] (And.intro (And.intro rfl rfl) (ar (ar (ar (ar (ar (ar (ar (ar trivial))))))))) fun j => ?_
          obtain ⟨y20, g21, hF⟩ := bind_some hF
          refine wpn_sl (T := Ty.u8) r0 rfl rfl rfl g21 fun _ r22 => ?_
          obtain ⟨A23, c24, rfl, -⟩ := r22.form
          obtain ⟨c25, h26, hF⟩ := bind_some hF
          refine wpn_c0 hO (zc6 (RdT.nil Ty.u8 _) h26) rfl fun _ σ _ _ hO h27 h28 => ?_
          have hL := hL.trans h27
          have r0 := r0.le h27
          have r22 := r22.le h27
          obtain ⟨v29, o32, rfl, rfl, w33⟩ := h28
          obtain ⟨A30, c31, rfl, -⟩ := w33.form
          have hO : Obs _ _ [_, _, _] := hO
          obtain ⟨_, h35, r34, hO⟩ := w33.share hO (i := 2) rfl
          have hL := hL.trans h35
          have r0 := r0.le h35
          have r22 := r22.le h35
          have hO : Obs _ _ [_, _, _] := hO
          obtain ⟨c36, h37, hF⟩ := bind_some hF
          refine wpn_c0 hO (zd4 r34 r22 h37) rfl fun _ σ _ _ hO h38 h39 => ?_
          have hL := hL.trans h38
          have r34 := r34.le h38
          have r0 := r0.le h38
          have r22 := r22.le h38
          obtain ⟨rfl, rfl⟩ := h39
          have hO : Obs _ _ [_, _, _] := hO
          refine wpn_q hO 1 [] [(4, .pointer (some ⟨b3, 0, none⟩)), (7, .pointer (some ⟨b9, 0, none⟩)), (8, .int .i64 c5.2.1), (33, .bool c10), (41, .bool (!c36))] (ar (ar (ar (ar (ar trivial))))) fun j => ?_
          refine wpn_pk (congrArg Value.bool hb19) ?_
          refine wpn_nil ?_
          injection hF with hF
          subst hF
          refine wpn_end ?_
          have hO := hO.sel [0, 1] (by decide)
          exact ⟨rfl, _, ar (ar (ar (ar trivial))), hO, hL⟩
      · rintro e σ ⟨_, hA, hO, hL⟩
        rw [← sets_agr _ _ hA]
        refine wpn_nil ?_
        rcases ite_some hF with ⟨hb40, hF⟩ | ⟨hb40, hF⟩
        · refine wpn_cT (congrArg Value.bool hb40) ?_
          refine wpn_assoc ?_
          refine wpn_q hO 1 [0] [(4, .pointer (some ⟨b3, 0, none⟩)), (43, .agg #[(.int .u8 0), (.int .u8 0), (.int .i64 0), (.int .i64 0), (.int .i64 0), (.int .i64 0), (.int .i64 0)])] (And.intro (And.intro rfl rfl) (ar (ar trivial))) fun j => ?_
          refine wpn_st hO (i := 0) rfl (off := 0) rfl rfl rfl rfl (Nat.le_of_ble_eq_true rfl) rfl fun σ hO => ?_
          have hO : Obs _ _ [_, _] := hO
          refine wpn_qa hO [] [(4, .pointer (some ⟨b3, 0, none⟩)), (5, .int .i64 0), (6, .int .i64 5)] (ar (ar (ar trivial))) fun j => ?_
          refine wpn_rt ?_
          injection hF with hF
          subst hF
          have hV0 := hO.val (i := 0) rfl (off := 0) (agg := true) (n := 7) rfl
          have hO := hO.sel [] (by decide)
          exact hQ _ _ _ _ _ (resvs_c rfl (hV0) (resvs_t (resvs_t rfl))) hO hL ⟨rfl, rfl⟩
        · refine wpn_cF (congrArg Value.bool hb40) ?_
          refine wpn_sk ?_
          refine wpn_q hO 2 [1] [(4, .pointer (some ⟨b3, 0, none⟩)), (44, .agg #[(.int .u8 (c5.1.Kind.toNat : Int)), (.int .u8 (c5.1.Op.toNat : Int)), (.int .i64 c5.1.R), (.int .i64 c5.1.S), (.int .i64 c5.1.T), (.int .i64 c5.1.N), (.int .i64 c5.1.M)]), (45, .int .i64 c5.2.1)] (And.intro (And.intro rfl rfl) (ar (ar (ar trivial)))) fun j => ?_
          refine wpn_st hO (i := 0) rfl (off := 0) rfl rfl rfl rfl (Nat.le_of_ble_eq_true rfl) rfl fun σ hO => ?_
          have hO : Obs _ _ [_, _] := hO
          refine wpn_qa hO [] [(4, .pointer (some ⟨b3, 0, none⟩)), (5, .int .i64 c5.2.1), (6, .int .i64 0)] (ar (ar (ar trivial))) fun j => ?_
          refine wpn_r1 ?_
          injection hF with hF
          subst hF
          have hV0 := hO.val (i := 0) rfl (off := 0) (agg := true) (n := 7) rfl
          have hO := hO.sel [] (by decide)
          exact hQ _ _ _ _ _ (resvs_c rfl (hV0) (resvs_t (resvs_t rfl))) hO hL ⟨rfl, rfl⟩
theorem zdD {τ : Hp}   {rr : Bool} (hF : zQ  = some rr) :
    Ctr Try.prog 8 #[] τ [] (fun v τ' vs' => v = .bool rr ∧ vs' = []) := by
  refine ctr_of (args := []) hm Try.func8 s8 rfl fun w0 σ hO Q hQ => ?_
  unfold zQ at hF
  have hL := Hp.le.refl τ
  show wpn _ _ a8.body _ _ _
  unfold a8
  dsimp only
  refine wpn_qa hO [] [] (trivial) fun j => ?_
  refine wpn_q hO 1 [] [(6, .agg #[(.int .u8 8), (.int .u8 0), (.int .i64 1), (.int .i64 2), (.int .i64 3), (.int .i64 (-2)), (.int .i64 4)])] (ar trivial) fun j => ?_
  refine wpn_al hO fun b1 σ hO => ?_
  have hO : Obs _ _ [_] := hO
  refine wpn_st hO (i := 0) rfl (off := 0) rfl rfl rfl rfl (Nat.le_of_ble_eq_true rfl) rfl fun σ hO => ?_
  have hO : Obs _ _ [_] := hO
  refine wpn_nil ?_
  refine wpn_lit (T := Ty.u8) (l := ([(255 : UInt8)] : List UInt8)) (cs := [.int .u8 255]) hO rfl ⟨[.int .u8 255], _, rfl, rfl, rfl⟩ rfl (by decide) fun _ σ o4 w5 hO => ?_
  obtain ⟨A2, c3, rfl, -⟩ := w5.form
  have hO : Obs _ _ [_, _] := hO
  refine wpn_q hO 1 [0] [(1, .pointer (some ⟨b1, 0, none⟩)), (7, .slice A2 ([(255 : UInt8)] : List UInt8).length c3), (8, .agg #[(.int .u8 8), (.int .u8 0), (.int .i64 1), (.int .i64 2), (.int .i64 3), (.int .i64 (-2)), (.int .i64 4)])] (And.intro (And.intro rfl rfl) (ar (ar (ar trivial)))) fun j => ?_
  obtain ⟨_, h7, r6, hO⟩ := w5.share hO (i := 1) rfl
  have hL := hL.trans h7
  have hO : Obs _ _ [_, _] := hO
  obtain ⟨c8, h9, hF⟩ := bind_some hF
  refine wpn_c0 hO (zc6 r6 h9) rfl fun _ σ _ _ hO h10 h11 => ?_
  have hL := hL.trans h10
  have r6 := r6.le h10
  obtain ⟨v12, o15, rfl, rfl, w16⟩ := h11
  obtain ⟨A13, c14, rfl, -⟩ := w16.form
  have hO : Obs _ _ [_, _, _] := hO
  refine wpn_qa hO [] [(1, .pointer (some ⟨b1, 0, none⟩)), (2, .slice A13 c8.length c14)] (ar (ar trivial)) fun j => ?_
  refine wpn_q hO 1 [] [(1, .pointer (some ⟨b1, 0, none⟩)), (2, .slice A13 c8.length c14), (11, .slice A13 c8.length c14)] (ar (ar (ar trivial))) fun j => ?_
  obtain ⟨_, h18, r17, hO⟩ := w16.share hO (i := 2) rfl
  have hL := hL.trans h18
  have hO : Obs _ _ [_, _, _] := hO
  obtain ⟨c19, h20, hF⟩ := bind_some hF
  refine wpn_c0 hO (zdp r17 h20) rfl fun _ σ _ _ hO h21 h22 => ?_
  have hL := hL.trans h21
  have r17 := r17.le h21
  obtain ⟨rfl, rfl⟩ := h22
  have hO : Obs _ _ [_, _, _] := hO
  refine wpn_q hO 4 [] [(1, .pointer (some ⟨b1, 0, none⟩)), (2, .slice A13 c8.length c14), (13, .agg #[(.int .u8 (c19.1.Kind.toNat : Int)), (.int .u8 (c19.1.Op.toNat : Int)), (.int .i64 c19.1.R), (.int .i64 c19.1.S), (.int .i64 c19.1.T), (.int .i64 c19.1.N), (.int .i64 c19.1.M)]), (14, .int .i64 c19.2.1), (15, .int .i64 c19.2.2)] (ar (ar (ar (ar (ar trivial))))) fun j => ?_
  refine wpn_al hO fun b23 σ hO => ?_
  have hO : Obs _ _ [_, _, _, _] := hO
  refine wpn_st hO (i := 3) rfl (off := 0) rfl rfl rfl rfl (Nat.le_of_ble_eq_true rfl) rfl fun σ hO => ?_
  have hO : Obs _ _ [_, _, _, _] := hO
  refine wpn_qa hO [] [(1, .pointer (some ⟨b1, 0, none⟩)), (2, .slice A13 c8.length c14), (3, .pointer (some ⟨b23, 0, none⟩)), (4, .int .i64 c19.2.1), (5, .int .i64 c19.2.2)] (ar (ar (ar (ar (ar trivial))))) fun j => ?_
  refine wpn_q hO 1 [0] [(1, .pointer (some ⟨b1, 0, none⟩)), (2, .slice A13 c8.length c14), (3, .pointer (some ⟨b23, 0, none⟩)), (4, .int .i64 c19.2.1), (5, .int .i64 c19.2.2), (16, .agg #[(.int .u8 8), (.int .u8 0), (.int .i64 1), (.int .i64 2), (.int .i64 3), (.int .i64 (-2)), (.int .i64 4)])] (And.intro (And.intro rfl rfl) (ar (ar (ar (ar (ar (ar trivial))))))) fun j => ?_
  obtain ⟨c24, h25, hF⟩ := bind_some hF
  refine wpn_c0 hO (zcG h25) rfl fun _ σ _ _ hO h26 h27 => ?_
  have hL := hL.trans h26
  have r17 := r17.le h26
  obtain ⟨rfl, rfl⟩ := h27
  have hO : Obs _ _ [_, _, _, _] := hO
  refine wpn_q hO 4 [] [(1, .pointer (some ⟨b1, 0, none⟩)), (2, .slice A13 c8.length c14), (3, .pointer (some ⟨b23, 0, none⟩)), (4, .int .i64 c19.2.1), (5, .int .i64 c19.2.2), (23, .bool (c24 && ((c8.length : Int) == 6)))] (And.intro (And.intro rfl rfl) (fun _ => ar (ar (ar (ar (ar (ar trivial))))))) fun j => ?_
  obtain ⟨c28, h29, hF⟩ := bind_some hF
  refine wpn_midq 2 [(28, .bool c28), (1, .pointer (some ⟨b1, 0, none⟩)), (3, .pointer (some ⟨b23, 0, none⟩)), (4, .int .i64 c19.2.1), (5, .int .i64 c19.2.2)] (fun Q hQ => ?_) fun j => ?_
  · have hF := h29
    rcases ite_some hF with ⟨hb30, hF⟩ | ⟨hb30, hF⟩
    · refine wpn_gT (congrArg (fun x => isB (.bool x) true) hb30) ?_
      refine wpn_q hO 1 [] [(1, .pointer (some ⟨b1, 0, none⟩)), (3, .pointer (some ⟨b23, 0, none⟩)), (4, .int .i64 c19.2.1), (5, .int .i64 c19.2.2), (23, .bool (c24 && ((c8.length : Int) == 6))), (24, .slice A13 c8.length c14)] (ar (ar (ar (ar (ar (ar trivial)))))) fun j => ?_
      obtain ⟨y31, g32, hF⟩ := bind_some hF
      refine wpn_idx (T := Ty.u8) r17 hO.base rfl rfl g32 (by decide) fun a33 _ k34 m35 => ?_
      obtain rfl : _ = ([.int .u8 y31.toNat] : List Value) := k34
      refine wpn_ld rfl (m35.le hO.base).fst ?_
      refine wpn_q hO 1 [] [(1, .pointer (some ⟨b1, 0, none⟩)), (3, .pointer (some ⟨b23, 0, none⟩)), (4, .int .i64 c19.2.1), (5, .int .i64 c19.2.2), (23, .bool (c24 && ((c8.length : Int) == 6))), (27, .bool ((y31.toNat : Int) == 18))] (ar (ar (ar (ar (ar (ar trivial)))))) fun j => ?_
      refine wpn_pk (congrArg Value.bool hb30) ?_
      refine wpn_nil ?_
      injection hF with hF
      subst hF
      refine wpn_end ?_
      exact hQ _ (ar (ar (ar (ar (ar trivial)))))
    · refine wpn_gF (congrArg (fun x => isB (.bool x) true) hb30) ?_
      refine wpn_pk (congrArg Value.bool hb30) ?_
      refine wpn_nil ?_
      injection hF with hF
      subst hF
      refine wpn_end ?_
      exact hQ _ (ar (ar (ar (ar (ar trivial)))))
  · refine wpn_q hO 10 [3, 0] [(1, .pointer (some ⟨b1, 0, none⟩)), (42, .bool (((c28 && (( (c19.1.Kind.toNat : Int) == 8) && (( (c19.1.Op.toNat : Int) == 0) && (( c19.1.R == 1) && (( c19.1.S == 2) && (( c19.1.T == 3) && (( c19.1.N == (-2)) && (( c19.1.M == 4) && true)))))))) && (c19.2.1 == 6)) && (c19.2.2 == 0)))] (And.intro (And.intro rfl rfl) (And.intro (And.intro rfl rfl) (And.intro (And.intro rfl rfl) (fun _ => And.intro (And.intro rfl rfl) (fun _ => And.intro (And.intro rfl rfl) (fun _ => ar (ar trivial))))))) fun j => ?_
    have hO := hO.sel [0] (by decide)
    have hO : Obs _ _ [_] := hO
    obtain ⟨c36, h37, hF⟩ := bind_some hF
    refine wpn_mid 2 (fun e' σ' => ∃ (τ' : Hp), agr [(46, .bool c36)] e' ∧ Obs τ' σ' [some (b1, ⟨[.int .u8 8, .int .u8 0, .int .i64 1, .int .i64 2, .int .i64 3, .int .i64 (-2), .int .i64 4], 24, 7, true⟩)] ∧ Hp.le τ τ') ?_ ?_
    · have hF := h37
      rcases ite_some hF with ⟨hb38, hF⟩ | ⟨hb38, hF⟩
      · refine wpn_gT (congrArg (fun x => isB (.bool x) true) hb38) ?_
        refine wpn_q hO 1 [0] [(42, .bool (((c28 && (( (c19.1.Kind.toNat : Int) == 8) && (( (c19.1.Op.toNat : Int) == 0) && (( c19.1.R == 1) && (( c19.1.S == 2) && (( c19.1.T == 3) && (( c19.1.N == (-2)) && (( c19.1.M == 4) && true)))))))) && (c19.2.1 == 6)) && (c19.2.2 == 0))), (43, .agg #[(.int .u8 8), (.int .u8 0), (.int .i64 1), (.int .i64 2), (.int .i64 3), (.int .i64 (-2)), (.int .i64 4)])] (And.intro (And.intro rfl rfl) (ar (ar trivial))) fun j => ?_
        obtain ⟨c39, h40, hF⟩ := bind_some hF
        refine wpn_c0 hO (zeW h40) rfl fun _ σ _ _ hO h41 h42 => ?_
        have hL := hL.trans h41
        obtain ⟨rfl, rfl⟩ := h42
        have hO : Obs _ _ [_] := hO
        refine wpn_q hO 1 [] [(42, .bool (((c28 && (( (c19.1.Kind.toNat : Int) == 8) && (( (c19.1.Op.toNat : Int) == 0) && (( c19.1.R == 1) && (( c19.1.S == 2) && (( c19.1.T == 3) && (( c19.1.N == (-2)) && (( c19.1.M == 4) && true)))))))) && (c19.2.1 == 6)) && (c19.2.2 == 0))), (45, .bool (c39 == 5))] (ar (ar trivial)) fun j => ?_
        refine wpn_pk (congrArg Value.bool hb38) ?_
        refine wpn_nil ?_
        injection hF with hF
        subst hF
        refine wpn_end ?_
        exact ⟨rfl, _, ar (trivial), hO, hL⟩
      · refine wpn_gF (congrArg (fun x => isB (.bool x) true) hb38) ?_
        refine wpn_pk (congrArg Value.bool hb38) ?_
        refine wpn_nil ?_
        injection hF with hF
        subst hF
        refine wpn_end ?_
        exact ⟨rfl, _, ar (trivial), hO, hL⟩
    · rintro e σ ⟨_, hA, hO, hL⟩
      rw [← sets_agr _ _ hA]
      refine wpn_q hO 1 [] [(47, .bool c36)] (ar trivial) fun j => ?_
      have hO := hO.sel [] (by decide)
      have hO : Obs _ _ [] := hO
      obtain ⟨c43, h44, hF⟩ := bind_some hF
      refine wpn_mid 2 (fun e' σ' => ∃ (τ' : Hp), agr [(51, .bool c43)] e' ∧ Obs τ' σ' [] ∧ Hp.le τ τ') ?_ ?_
      · have hF := h44
        rcases ite_some hF with ⟨hb45, hF⟩ | ⟨hb45, hF⟩
        · refine wpn_gT (congrArg (fun x => isB (.bool x) true) hb45) ?_
          refine wpn_q hO 1 [] [(47, .bool c36), (48, .agg #[(.int .u8 0), (.int .u8 0), (.int .i64 0), (.int .i64 0), (.int .i64 0), (.int .i64 0), (.int .i64 0)])] (ar (ar trivial)) fun j => ?_
          obtain ⟨c46, h47, hF⟩ := bind_some hF
          refine wpn_c0 hO (zcG h47) rfl fun _ σ _ _ hO h48 h49 => ?_
          have hL := hL.trans h48
          obtain ⟨rfl, rfl⟩ := h49
          have hO : Obs _ _ [] := hO
          refine wpn_q hO 1 [] [(47, .bool c36), (50, .bool (!c46))] (ar (ar trivial)) fun j => ?_
          refine wpn_pk (congrArg Value.bool hb45) ?_
          refine wpn_nil ?_
          injection hF with hF
          subst hF
          refine wpn_end ?_
          exact ⟨rfl, _, ar (trivial), hO, hL⟩
        · refine wpn_gF (congrArg (fun x => isB (.bool x) true) hb45) ?_
          refine wpn_pk (congrArg Value.bool hb45) ?_
          refine wpn_nil ?_
          injection hF with hF
          subst hF
          refine wpn_end ?_
          exact ⟨rfl, _, ar (trivial), hO, hL⟩
      · rintro e σ ⟨_, hA, hO, hL⟩
        rw [← sets_agr _ _ hA]
        refine wpn_qa hO [] [(0, .bool c43)] (ar trivial) fun j => ?_
        refine wpn_r1 ?_
        injection hF with hF
        subst hF
        exact hQ _ _ _ _ _ rfl hO hL ⟨rfl, rfl⟩
theorem zcZ {τ : Hp} {p0 : Int}  {rr : ByteArray × Bool} (hF : zf p0 = some rr) :
    Ctr Try.prog 25 #[.int .u8 p0] τ [] (fun v τ' vs' => v = .tuple #[.string rr.1, .bool rr.2] ∧ vs' = []) := by
  refine ctr_of (args := [.int .u8 p0]) hm Try.func25 s25 rfl fun w0 σ hO Q hQ => ?_
  unfold zf at hF
  have hL := Hp.le.refl τ
  show wpn _ _ a25.body _ _ _
  unfold a25
  dsimp only
  refine wpn_qa hO [] [(0, .int .u8 p0)] (ar trivial) fun j => ?_
  refine wpn_lit (T := Ty.str) (l := ([(⟨#[]⟩ : ByteArray), (⟨#[114, 110]⟩ : ByteArray), (⟨#[97]⟩ : ByteArray), (⟨#[111, 97, 116]⟩ : ByteArray), (⟨#[111, 97]⟩ : ByteArray), (⟨#[97, 110]⟩ : ByteArray), (⟨#[97, 110]⟩ : ByteArray), (⟨#[97, 116, 110, 109]⟩ : ByteArray), (⟨#[97, 116, 110, 109]⟩ : ByteArray), (⟨#[106]⟩ : ByteArray), (⟨#[114, 106]⟩ : ByteArray), (⟨#[106]⟩ : ByteArray), (⟨#[]⟩ : ByteArray), (⟨#[110]⟩ : ByteArray), (⟨#[114]⟩ : ByteArray), (⟨#[114]⟩ : ByteArray), (⟨#[114]⟩ : ByteArray), (⟨#[107]⟩ : ByteArray)] : List ByteArray)) (cs := [.string (⟨#[]⟩ : ByteArray), .string (⟨#[114, 110]⟩ : ByteArray), .string (⟨#[97]⟩ : ByteArray), .string (⟨#[111, 97, 116]⟩ : ByteArray), .string (⟨#[111, 97]⟩ : ByteArray), .string (⟨#[97, 110]⟩ : ByteArray), .string (⟨#[97, 110]⟩ : ByteArray), .string (⟨#[97, 116, 110, 109]⟩ : ByteArray), .string (⟨#[97, 116, 110, 109]⟩ : ByteArray), .string (⟨#[106]⟩ : ByteArray), .string (⟨#[114, 106]⟩ : ByteArray), .string (⟨#[106]⟩ : ByteArray), .string (⟨#[]⟩ : ByteArray), .string (⟨#[110]⟩ : ByteArray), .string (⟨#[114]⟩ : ByteArray), .string (⟨#[114]⟩ : ByteArray), .string (⟨#[114]⟩ : ByteArray), .string (⟨#[107]⟩ : ByteArray)]) hO (by kernel_rfl) ⟨[.string (⟨#[]⟩ : ByteArray)], _, rfl, rfl, ⟨[.string (⟨#[114, 110]⟩ : ByteArray)], _, rfl, rfl, ⟨[.string (⟨#[97]⟩ : ByteArray)], _, rfl, rfl, ⟨[.string (⟨#[111, 97, 116]⟩ : ByteArray)], _, rfl, rfl, ⟨[.string (⟨#[111, 97]⟩ : ByteArray)], _, rfl, rfl, ⟨[.string (⟨#[97, 110]⟩ : ByteArray)], _, rfl, rfl, ⟨[.string (⟨#[97, 110]⟩ : ByteArray)], _, rfl, rfl, ⟨[.string (⟨#[97, 116, 110, 109]⟩ : ByteArray)], _, rfl, rfl, ⟨[.string (⟨#[97, 116, 110, 109]⟩ : ByteArray)], _, rfl, rfl, ⟨[.string (⟨#[106]⟩ : ByteArray)], _, rfl, rfl, ⟨[.string (⟨#[114, 106]⟩ : ByteArray)], _, rfl, rfl, ⟨[.string (⟨#[106]⟩ : ByteArray)], _, rfl, rfl, ⟨[.string (⟨#[]⟩ : ByteArray)], _, rfl, rfl, ⟨[.string (⟨#[110]⟩ : ByteArray)], _, rfl, rfl, ⟨[.string (⟨#[114]⟩ : ByteArray)], _, rfl, rfl, ⟨[.string (⟨#[114]⟩ : ByteArray)], _, rfl, rfl, ⟨[.string (⟨#[114]⟩ : ByteArray)], _, rfl, rfl, ⟨[.string (⟨#[107]⟩ : ByteArray)], _, rfl, rfl, rfl⟩⟩⟩⟩⟩⟩⟩⟩⟩⟩⟩⟩⟩⟩⟩⟩⟩⟩ rfl (by decide) fun _ σ o4 w5 hO => ?_
  obtain ⟨A2, c3, rfl, -⟩ := w5.form
  have hO : Obs _ _ [_] := hO
  refine wpn_qa hO [] [(0, .int .u8 p0), (4, .slice A2 ([(⟨#[]⟩ : ByteArray), (⟨#[114, 110]⟩ : ByteArray), (⟨#[97]⟩ : ByteArray), (⟨#[111, 97, 116]⟩ : ByteArray), (⟨#[111, 97]⟩ : ByteArray), (⟨#[97, 110]⟩ : ByteArray), (⟨#[97, 110]⟩ : ByteArray), (⟨#[97, 116, 110, 109]⟩ : ByteArray), (⟨#[97, 116, 110, 109]⟩ : ByteArray), (⟨#[106]⟩ : ByteArray), (⟨#[114, 106]⟩ : ByteArray), (⟨#[106]⟩ : ByteArray), (⟨#[]⟩ : ByteArray), (⟨#[110]⟩ : ByteArray), (⟨#[114]⟩ : ByteArray), (⟨#[114]⟩ : ByteArray), (⟨#[114]⟩ : ByteArray), (⟨#[107]⟩ : ByteArray)] : List ByteArray).length c3)] (ar (ar trivial)) fun j => ?_
  refine wpn_assoc ?_
  refine wpn_qa hO [] [(0, .int .u8 p0), (4, .slice A2 ([(⟨#[]⟩ : ByteArray), (⟨#[114, 110]⟩ : ByteArray), (⟨#[97]⟩ : ByteArray), (⟨#[111, 97, 116]⟩ : ByteArray), (⟨#[111, 97]⟩ : ByteArray), (⟨#[97, 110]⟩ : ByteArray), (⟨#[97, 110]⟩ : ByteArray), (⟨#[97, 116, 110, 109]⟩ : ByteArray), (⟨#[97, 116, 110, 109]⟩ : ByteArray), (⟨#[106]⟩ : ByteArray), (⟨#[114, 106]⟩ : ByteArray), (⟨#[106]⟩ : ByteArray), (⟨#[]⟩ : ByteArray), (⟨#[110]⟩ : ByteArray), (⟨#[114]⟩ : ByteArray), (⟨#[114]⟩ : ByteArray), (⟨#[114]⟩ : ByteArray), (⟨#[107]⟩ : ByteArray)] : List ByteArray).length c3), (14, .bool ((decide (p0 < 1)) || (decide ((IntKind.i64.wrap p0) > (([(⟨#[]⟩ : ByteArray), (⟨#[114, 110]⟩ : ByteArray), (⟨#[97]⟩ : ByteArray), (⟨#[111, 97, 116]⟩ : ByteArray), (⟨#[111, 97]⟩ : ByteArray), (⟨#[97, 110]⟩ : ByteArray), (⟨#[97, 110]⟩ : ByteArray), (⟨#[97, 116, 110, 109]⟩ : ByteArray), (⟨#[97, 116, 110, 109]⟩ : ByteArray), (⟨#[106]⟩ : ByteArray), (⟨#[114, 106]⟩ : ByteArray), (⟨#[106]⟩ : ByteArray), (⟨#[]⟩ : ByteArray), (⟨#[110]⟩ : ByteArray), (⟨#[114]⟩ : ByteArray), (⟨#[114]⟩ : ByteArray), (⟨#[114]⟩ : ByteArray), (⟨#[107]⟩ : ByteArray)] : List ByteArray).length : Int)))))] (And.intro (And.intro rfl rfl) (fun _ => ar (ar (ar trivial)))) fun j => ?_
  rcases ite_some hF with ⟨hb6, hF⟩ | ⟨hb6, hF⟩
  · refine wpn_cT (congrArg Value.bool hb6) ?_
    refine wpn_assoc ?_
    refine wpn_qa hO [] [(2, .string (⟨#[]⟩ : ByteArray)), (3, .bool false)] (ar (ar trivial)) fun j => ?_
    refine wpn_rt ?_
    injection hF with hF
    subst hF
    have hO := hO.sel [] (by decide)
    exact hQ _ _ _ _ _ rfl hO hL ⟨rfl, rfl⟩
  · refine wpn_cF (congrArg Value.bool hb6) ?_
    refine wpn_sk ?_
    refine wpn_q hO 3 [] [(15, .slice A2 ([(⟨#[]⟩ : ByteArray), (⟨#[114, 110]⟩ : ByteArray), (⟨#[97]⟩ : ByteArray), (⟨#[111, 97, 116]⟩ : ByteArray), (⟨#[111, 97]⟩ : ByteArray), (⟨#[97, 110]⟩ : ByteArray), (⟨#[97, 110]⟩ : ByteArray), (⟨#[97, 116, 110, 109]⟩ : ByteArray), (⟨#[97, 116, 110, 109]⟩ : ByteArray), (⟨#[106]⟩ : ByteArray), (⟨#[114, 106]⟩ : ByteArray), (⟨#[106]⟩ : ByteArray), (⟨#[]⟩ : ByteArray), (⟨#[110]⟩ : ByteArray), (⟨#[114]⟩ : ByteArray), (⟨#[114]⟩ : ByteArray), (⟨#[114]⟩ : ByteArray), (⟨#[107]⟩ : ByteArray)] : List ByteArray).length c3), (17, .int .u8 (IntKind.u8.wrap (p0 - 1)))] (ar (ar trivial)) fun j => ?_
    obtain ⟨y7, g8, hF⟩ := bind_some hF
    refine wpn_ido (T := Ty.str) hO w5 (i := 0) rfl rfl rfl g8 (by decide) fun a9 _ k10 m11 i12 => ?_
    have k13 := k10
    obtain rfl : _ = ([.string y7] : List Value) := k13
    refine wpn_ld rfl m11.fst ?_
    refine wpn_qa hO [] [(2, .string y7), (3, .bool true)] (ar (ar trivial)) fun j => ?_
    refine wpn_r1 ?_
    injection hF with hF
    subst hF
    have hO := hO.sel [] (by decide)
    exact hQ _ _ _ _ _ rfl hO hL ⟨rfl, rfl⟩
theorem zcj {τ : Hp} {p0 : Int} {p1 : Bool}  {rr : Bool} (hF : zx p0 p1 = some rr) :
    Ctr Try.prog 26 #[.int .i64 p0, .bool p1] τ [] (fun v τ' vs' => v = .bool rr ∧ vs' = []) := by
  refine ctr_of (args := [.int .i64 p0, .bool p1]) hm Try.func26 s26 rfl fun w0 σ hO Q hQ => ?_
  unfold zx at hF
  have hL := Hp.le.refl τ
  show wpn _ _ a26.body _ _ _
  unfold a26
  dsimp only
  refine wpn_qa hO [] [(0, .int .i64 p0), (1, .bool p1)] (ar (ar trivial)) fun j => ?_
  refine wpn_q hO 3 [] [(0, .int .i64 p0), (1, .bool p1), (7, .bool (p0 == 0))] (ar (ar (ar trivial))) fun j => ?_
  obtain ⟨c3, h4, hF⟩ := bind_some hF
  refine wpn_midq 6 [(17, .bool c3)] (fun Q hQ => ?_) fun j => ?_
  · have hF := h4
    rcases ite_some hF with ⟨hb5, hF⟩ | ⟨hb5, hF⟩
    · refine wpn_gF (congrArg (fun x => isB (.bool x) false) hb5) ?_
      refine wpn_gF rfl ?_
      refine wpn_gF (congrArg (fun x => isB (.bool x) false) hb5) ?_
      refine wpn_gF rfl ?_
      refine wpn_gF (congrArg (fun x => isB (.bool x) false) hb5) ?_
      refine wpn_pk (congrArg Value.bool hb5) ?_
      refine wpn_nil ?_
      injection hF with hF
      subst hF
      refine wpn_end ?_
      exact hQ _ (ar (trivial))
    · refine wpn_gT (congrArg (fun x => isB (.bool x) false) hb5) ?_
      refine wpn_q hO 2 [] [(0, .int .i64 p0), (7, .bool (p0 == 0)), (9, .bool p1)] (ar (ar (ar trivial))) fun j => ?_
      rcases ite_some hF with ⟨hb6, hF⟩ | ⟨hb6, hF⟩
      · refine wpn_gT (congrArg (fun x => isB (.bool x) true) hb6) ?_
        refine wpn_q hO 2 [] [(0, .int .i64 p0), (7, .bool (p0 == 0)), (9, .bool p1), (11, .bool (decide (p0 > 0)))] (ar (ar (ar (ar trivial)))) fun j => ?_
        refine wpn_gT (congrArg (fun x => isB (.bool x) false) hb5) ?_
        refine wpn_pk (congrArg Value.bool hb6) ?_
        refine wpn_q hO 1 [] [(0, .int .i64 p0), (7, .bool (p0 == 0)), (13, .bool (decide (p0 > 0)))] (ar (ar (ar trivial))) fun j => ?_
        rcases ite_some hF with ⟨hb7, hF⟩ | ⟨hb7, hF⟩
        · refine wpn_gT (congrArg (fun x => isB (.bool x) true) hb7) ?_
          refine wpn_q hO 2 [] [(7, .bool (p0 == 0)), (13, .bool (decide (p0 > 0))), (15, .bool (decide (p0 < 16)))] (ar (ar (ar trivial))) fun j => ?_
          refine wpn_gT (congrArg (fun x => isB (.bool x) false) hb5) ?_
          refine wpn_pk (congrArg Value.bool hb7) ?_
          refine wpn_pk (congrArg Value.bool hb5) ?_
          refine wpn_nil ?_
          injection hF with hF
          subst hF
          refine wpn_end ?_
          exact hQ _ (ar (trivial))
        · refine wpn_gF (congrArg (fun x => isB (.bool x) true) hb7) ?_
          refine wpn_gT (congrArg (fun x => isB (.bool x) false) hb5) ?_
          refine wpn_pk (congrArg Value.bool hb7) ?_
          refine wpn_pk (congrArg Value.bool hb5) ?_
          refine wpn_nil ?_
          injection hF with hF
          subst hF
          refine wpn_end ?_
          exact hQ _ (ar (trivial))
      · refine wpn_gF (congrArg (fun x => isB (.bool x) true) hb6) ?_
        refine wpn_gT (congrArg (fun x => isB (.bool x) false) hb5) ?_
        refine wpn_pk (congrArg Value.bool hb6) ?_
        refine wpn_q hO 1 [] [(0, .int .i64 p0), (7, .bool (p0 == 0)), (13, .bool false)] (ar (ar (ar trivial))) fun j => ?_
        rcases ite_some hF with ⟨hb8, hF⟩ | ⟨hb8, hF⟩
        · refine wpn_gT (congrArg (fun x => isB (.bool x) true) hb8) ?_
          refine wpn_q hO 2 [] [(7, .bool (p0 == 0)), (13, .bool false), (15, .bool (decide (p0 < 16)))] (ar (ar (ar trivial))) fun j => ?_
          refine wpn_gT (congrArg (fun x => isB (.bool x) false) hb5) ?_
          refine wpn_pk (congrArg Value.bool hb8) ?_
          refine wpn_pk (congrArg Value.bool hb5) ?_
          refine wpn_nil ?_
          injection hF with hF
          subst hF
          refine wpn_end ?_
          exact hQ _ (ar (trivial))
        · refine wpn_gF (congrArg (fun x => isB (.bool x) true) hb8) ?_
          refine wpn_gT (congrArg (fun x => isB (.bool x) false) hb5) ?_
          refine wpn_pk (congrArg Value.bool hb8) ?_
          refine wpn_pk (congrArg Value.bool hb5) ?_
          refine wpn_nil ?_
          injection hF with hF
          subst hF
          refine wpn_end ?_
          exact hQ _ (ar (trivial))
  · refine wpn_qa hO [] [(4, .bool c3)] (ar trivial) fun j => ?_
    refine wpn_r1 ?_
    injection hF with hF
    subst hF
    exact hQ _ _ _ _ _ rfl hO hL ⟨rfl, rfl⟩
theorem zu {τ : Hp} {p0 : ByteArray} {p1 : Int}  {rr : Bool} (hF : zb p0 p1 = some rr) :
    Ctr Try.prog 27 #[.string p0, .int .u8 p1] τ [] (fun v τ' vs' => v = .bool rr ∧ vs' = []) := by
  refine ctr_of (args := [.string p0, .int .u8 p1]) hm Try.func27 s27 rfl fun w0 σ hO Q hQ => ?_
  unfold zb at hF
  have hL := Hp.le.refl τ
  show wpn _ _ a27.body _ _ _
  unfold a27
  dsimp only
  refine wpn_qa hO [] [(0, .string p0), (1, .int .u8 p1)] (ar (ar trivial)) fun j => ?_
  refine wpn_assoc ?_
  refine wpn_qa hO [] [(0, .string p0), (1, .int .u8 p1), (5, .int .i64 0)] (ar (ar (ar trivial))) fun j => ?_
  refine wpn_bl ?_
  refine wpn_lp (fun (n : Nat) e' σ' => ∃ (x7 : Int) (τ' : Hp), agr [(0, .string p0), (1, .int .u8 p1), (5, .int .i64 x7)] e' ∧ Obs τ' σ' [] ∧ Hp.le τ τ' ∧ zb0 p0 p1 n x7 = some rr) big ⟨0, _, ar (ar (ar trivial)), hO, hL, hF⟩ ?_
  clear hF hO hL
  rintro n12 e σ ⟨x7, _, hA, hO, hL, hF⟩
  rw [← sets_agr _ _ hA]
  cases n12 with
  | zero => exact nomatch (show none = some rr from hF)
  | succ n12 =>
    replace hF : zby (zb0 p0 p1 n12) p0 p1 x7 = some rr := hF
    unfold zby at hF
    refine wpn_assoc ?_
    refine wpn_qa hO [] [(0, .string p0), (1, .int .u8 p1), (5, .int .i64 x7), (9, .bool (decide (x7 < (p0.size : Int))))] (ar (ar (ar (ar trivial)))) fun j => ?_
    rcases ite_some hF with ⟨hb13, hF⟩ | ⟨hb13, hF⟩
    · refine wpn_cT (congrArg Value.bool hb13) ?_
      refine wpn_sk ?_
      refine wpn_bl ?_
      refine wpn_q hO 2 [] [(0, .string p0), (1, .int .u8 p1), (5, .int .i64 x7), (12, .string p0), (13, .int .i64 x7)] (ar (ar (ar (ar (ar trivial))))) fun j => ?_
      obtain ⟨y14, g15, hF⟩ := bind_some hF
      refine wpn_si rfl rfl g15 ?_
      refine wpn_qa hO [] [(0, .string p0), (1, .int .u8 p1), (5, .int .i64 x7), (16, .bool ((y14.toNat : Int) == p1))] (ar (ar (ar (ar trivial)))) fun j => ?_
      refine wpn_clast ?_
      rcases ite_some hF with ⟨hb16, hF⟩ | ⟨hb16, hF⟩
      · refine wpn_cT (congrArg Value.bool hb16) ?_
        refine wpn_assoc ?_
        refine wpn_qa hO [] [(4, .bool true)] (ar trivial) fun j => ?_
        refine wpn_rt ?_
        refine inb_r1 ?_
        refine thn_r1 ?_
        refine thn_r1 ?_
        refine inb_r1 ?_
        refine thn_r1 ?_
        injection hF with hF
        subst hF
        exact hQ _ _ _ _ _ rfl hO hL ⟨rfl, rfl⟩
      · refine wpn_cF (congrArg Value.bool hb16) ?_
        refine wpn_sk ?_
        refine wpn_end ?_
        refine inb_i ?_
        refine thn_i ?_
        refine wpn_rlast ?_
        refine wpn_qa hO [] [(0, .string p0), (1, .int .u8 p1), (5, .int .i64 (IntKind.i64.wrap (x7 + 1)))] (ar (ar (ar trivial))) fun j => ?_
        refine wpn_end ?_
        refine thn_i ?_
        exact ⟨n12, Nat.lt_succ_self _, (IntKind.i64.wrap (x7 + 1)), _, ar (ar (ar trivial)), hO, hL, hF⟩
    · refine wpn_cF (congrArg Value.bool hb13) ?_
      refine wpn_ex ?_
      refine thn_x ?_
      refine inb_x ?_
      refine thn_i ?_
      refine wpn_qa hO [] [(4, .bool false)] (ar trivial) fun j => ?_
      refine wpn_r1 ?_
      injection hF with hF
      subst hF
      exact hQ _ _ _ _ _ rfl hO hL ⟨rfl, rfl⟩
theorem zdB {τ : Hp} {p0 : za}  {rr : Bool} (hF : ze p0 = some rr) :
    Ctr Try.prog 12 #[.agg #[.int .u8 p0.Kind.toNat, .int .u8 p0.Op.toNat, .int .i64 p0.R, .int .i64 p0.S, .int .i64 p0.T, .int .i64 p0.N, .int .i64 p0.M]] τ [] (fun v τ' vs' => v = .bool rr ∧ vs' = []) := by
  refine ctr_of (args := [.agg #[.int .u8 p0.Kind.toNat, .int .u8 p0.Op.toNat, .int .i64 p0.R, .int .i64 p0.S, .int .i64 p0.T, .int .i64 p0.N, .int .i64 p0.M]]) hm Try.func12 s12 rfl fun w0 σ hO Q hQ => ?_
  unfold ze at hF
  have hL := Hp.le.refl τ
  show wpn _ _ a12.body _ _ _
  unfold a12
  dsimp only
  refine wpn_bx (n := 7) hO rfl rfl fun b2 σ hO => ?_
  have hO : Obs _ _ [_] := hO
  refine wpn_qa hO [] [(1, .pointer (some ⟨b2, 0, none⟩))] (ar trivial) fun j => ?_
  refine wpn_q hO 2 [0] [(1, .pointer (some ⟨b2, 0, none⟩)), (7, .int .u8 (p0.Kind.toNat : Int))] (And.intro (And.intro rfl rfl) (ar (ar trivial))) fun j => ?_
  obtain ⟨c3, h4, hF⟩ := bind_some hF
  refine wpn_c0 hO (zcZ h4) rfl fun _ σ _ _ hO h5 h6 => ?_
  have hL := hL.trans h5
  obtain ⟨rfl, rfl⟩ := h6
  have hO : Obs _ _ [_] := hO
  refine wpn_qa hO [] [(1, .pointer (some ⟨b2, 0, none⟩)), (3, .string c3.1), (4, .bool c3.2)] (ar (ar (ar trivial))) fun j => ?_
  refine wpn_assoc ?_
  refine wpn_p2r ?_
  refine wpn_q hO 3 [] [(1, .pointer (some ⟨b2, 0, none⟩)), (3, .string c3.1), (13, .bool (!c3.2))] (ar (ar (ar trivial))) fun j => ?_
  obtain ⟨c7, h8, hF⟩ := bind_some hF
  refine wpn_mid 4 (fun e' σ' => ∃ (τ' : Hp), agr [(24, .bool c7), (1, .pointer (some ⟨b2, 0, none⟩)), (3, .string c3.1)] e' ∧ Obs τ' σ' [some (b2, ⟨[.int .u8 (p0.Kind.toNat : Int), .int .u8 (p0.Op.toNat : Int), .int .i64 p0.R, .int .i64 p0.S, .int .i64 p0.T, .int .i64 p0.N, .int .i64 p0.M], 24, 7, true⟩)] ∧ Hp.le τ τ') ?_ ?_
  · have hF := h8
    rcases ite_some hF with ⟨hb9, hF⟩ | ⟨hb9, hF⟩
    · refine wpn_gFa (congrArg (fun x => isB (.bool x) false) hb9) ⟨trivial, ⟨trivial, ⟨trivial, ⟨⟨(again_no (congrArg (fun x => isB (.bool x) false) hb9)), trivial⟩, ⟨trivial, trivial⟩⟩⟩⟩⟩ ?_
      refine wpn_gFa rfl ⟨trivial, ⟨⟨(again_no (congrArg (fun x => isB (.bool x) false) hb9)), trivial⟩, trivial⟩⟩ ?_
      refine wpn_gF (congrArg (fun x => isB (.bool x) false) hb9) ?_
      refine wpn_pk (congrArg Value.bool hb9) ?_
      refine wpn_nil ?_
      injection hF with hF
      subst hF
      refine wpn_end ?_
      exact ⟨rfl, _, ar (ar (ar trivial)), hO, hL⟩
    · refine wpn_gT (congrArg (fun x => isB (.bool x) false) hb9) ?_
      refine wpn_q hO 3 [0] [(1, .pointer (some ⟨b2, 0, none⟩)), (3, .string c3.1), (13, .bool (!c3.2)), (14, .pointer (some ⟨b2, 2, none⟩)), (15, .int .i64 p0.R), (16, .string c3.1)] (And.intro (And.intro rfl rfl) (ar (ar (ar (ar (ar (ar trivial))))))) fun j => ?_
      refine wpn_late ?_
      obtain ⟨c10, h11, hF⟩ := bind_some hF
      refine wpn_c0 hO (zu h11) rfl fun _ σ _ _ hO h12 h13 => ?_
      have hL := hL.trans h12
      obtain ⟨rfl, rfl⟩ := h13
      have hO : Obs _ _ [_] := hO
      refine wpn_nil ?_
      refine wpn_ag ⟨(again_ldg rfl (hO.val (i := 0) (off := 2) (agg := false) (n := 1) rfl rfl) rfl), trivial⟩ ?_
      refine wpn_q hO 1 [] [(1, .pointer (some ⟨b2, 0, none⟩)), (3, .string c3.1), (13, .bool (!c3.2)), (14, .pointer (some ⟨b2, 2, none⟩)), (15, .int .i64 p0.R), (18, .bool c10)] (ar (ar (ar (ar (ar (ar trivial)))))) fun j => ?_
      rcases ite_some hF with ⟨hb14, hF⟩ | ⟨hb14, hF⟩
      · refine wpn_gFa (congrArg (fun x => isB (.bool x) false) hb14) ⟨trivial, ⟨⟨(again_ldg rfl (hO.val (i := 0) (off := 2) (agg := false) (n := 1) rfl rfl) rfl), trivial⟩, trivial⟩⟩ ?_
        refine wpn_gT (congrArg (fun x => isB (.bool x) false) hb9) ?_
        refine wpn_pk (congrArg Value.bool hb14) ?_
        obtain ⟨c15, h16, hF⟩ := bind_some hF
        refine wpn_c0 hO (zcj h16) rfl fun _ σ _ _ hO h17 h18 => ?_
        have hL := hL.trans h17
        obtain ⟨rfl, rfl⟩ := h18
        have hO : Obs _ _ [_] := hO
        refine wpn_q hO 1 [] [(1, .pointer (some ⟨b2, 0, none⟩)), (3, .string c3.1), (13, .bool (!c3.2)), (23, .bool (!c15))] (ar (ar (ar (ar trivial)))) fun j => ?_
        refine wpn_pk (congrArg Value.bool hb9) ?_
        refine wpn_nil ?_
        injection hF with hF
        subst hF
        refine wpn_end ?_
        exact ⟨rfl, _, ar (ar (ar trivial)), hO, hL⟩
      · refine wpn_gT (congrArg (fun x => isB (.bool x) false) hb14) ?_
        refine wpn_q hO 1 [] [(1, .pointer (some ⟨b2, 0, none⟩)), (3, .string c3.1), (13, .bool (!c3.2)), (14, .pointer (some ⟨b2, 2, none⟩)), (15, .int .i64 p0.R), (18, .bool c10), (19, .string c3.1)] (ar (ar (ar (ar (ar (ar (ar trivial))))))) fun j => ?_
        refine wpn_late ?_
        obtain ⟨c19, h20, hF⟩ := bind_some hF
        refine wpn_c0 hO (zu h20) rfl fun _ σ _ _ hO h21 h22 => ?_
        have hL := hL.trans h21
        obtain ⟨rfl, rfl⟩ := h22
        have hO : Obs _ _ [_] := hO
        refine wpn_nil ?_
        refine wpn_ag ⟨(again_ldg rfl (hO.val (i := 0) (off := 2) (agg := false) (n := 1) rfl rfl) rfl), trivial⟩ ?_
        refine wpn_gT (congrArg (fun x => isB (.bool x) false) hb9) ?_
        refine wpn_pk (congrArg Value.bool hb14) ?_
        obtain ⟨c23, h24, hF⟩ := bind_some hF
        refine wpn_c0 hO (zcj h24) rfl fun _ σ _ _ hO h25 h26 => ?_
        have hL := hL.trans h25
        obtain ⟨rfl, rfl⟩ := h26
        have hO : Obs _ _ [_] := hO
        refine wpn_q hO 1 [] [(1, .pointer (some ⟨b2, 0, none⟩)), (3, .string c3.1), (13, .bool (!c3.2)), (23, .bool (!c23))] (ar (ar (ar (ar trivial)))) fun j => ?_
        refine wpn_pk (congrArg Value.bool hb9) ?_
        refine wpn_nil ?_
        injection hF with hF
        subst hF
        refine wpn_end ?_
        exact ⟨rfl, _, ar (ar (ar trivial)), hO, hL⟩
  · rintro e σ ⟨_, hA, hO, hL⟩
    rw [← sets_agr _ _ hA]
    refine wpn_q hO 1 [] [(1, .pointer (some ⟨b2, 0, none⟩)), (3, .string c3.1), (25, .bool c7)] (ar (ar (ar trivial))) fun j => ?_
    obtain ⟨c27, h28, hF⟩ := bind_some hF
    refine wpn_mid 2 (fun e' σ' => ∃ (τ' : Hp), agr [(32, .bool c27), (1, .pointer (some ⟨b2, 0, none⟩)), (3, .string c3.1)] e' ∧ Obs τ' σ' [some (b2, ⟨[.int .u8 (p0.Kind.toNat : Int), .int .u8 (p0.Op.toNat : Int), .int .i64 p0.R, .int .i64 p0.S, .int .i64 p0.T, .int .i64 p0.N, .int .i64 p0.M], 24, 7, true⟩)] ∧ Hp.le τ τ') ?_ ?_
    · have hF := h28
      rcases ite_some hF with ⟨hb29, hF⟩ | ⟨hb29, hF⟩
      · refine wpn_gFa (congrArg (fun x => isB (.bool x) false) hb29) ⟨trivial, ⟨trivial, ⟨trivial, ⟨⟨(again_no (congrArg (fun x => isB (.bool x) false) hb29)), trivial⟩, ⟨trivial, ⟨trivial, trivial⟩⟩⟩⟩⟩⟩ ?_
        refine wpn_pk (congrArg Value.bool hb29) ?_
        refine wpn_nil ?_
        injection hF with hF
        subst hF
        refine wpn_end ?_
        exact ⟨rfl, _, ar (ar (ar trivial)), hO, hL⟩
      · refine wpn_gT (congrArg (fun x => isB (.bool x) false) hb29) ?_
        refine wpn_q hO 3 [0] [(1, .pointer (some ⟨b2, 0, none⟩)), (3, .string c3.1), (25, .bool c7), (26, .pointer (some ⟨b2, 3, none⟩)), (27, .int .i64 p0.S), (28, .string c3.1)] (And.intro (And.intro rfl rfl) (ar (ar (ar (ar (ar (ar trivial))))))) fun j => ?_
        refine wpn_late ?_
        obtain ⟨c30, h31, hF⟩ := bind_some hF
        refine wpn_c0 hO (zu h31) rfl fun _ σ _ _ hO h32 h33 => ?_
        have hL := hL.trans h32
        obtain ⟨rfl, rfl⟩ := h33
        have hO : Obs _ _ [_] := hO
        refine wpn_nil ?_
        refine wpn_ag ⟨(again_ldg rfl (hO.val (i := 0) (off := 3) (agg := false) (n := 1) rfl rfl) rfl), trivial⟩ ?_
        obtain ⟨c34, h35, hF⟩ := bind_some hF
        refine wpn_c0 hO (zcj h35) rfl fun _ σ _ _ hO h36 h37 => ?_
        have hL := hL.trans h36
        obtain ⟨rfl, rfl⟩ := h37
        have hO : Obs _ _ [_] := hO
        refine wpn_q hO 1 [] [(1, .pointer (some ⟨b2, 0, none⟩)), (3, .string c3.1), (25, .bool c7), (31, .bool (!c34))] (ar (ar (ar (ar trivial)))) fun j => ?_
        refine wpn_pk (congrArg Value.bool hb29) ?_
        refine wpn_nil ?_
        injection hF with hF
        subst hF
        refine wpn_end ?_
        exact ⟨rfl, _, ar (ar (ar trivial)), hO, hL⟩
    · rintro e σ ⟨_, hA, hO, hL⟩
      rw [← sets_agr _ _ hA]
      refine wpn_q hO 1 [] [(1, .pointer (some ⟨b2, 0, none⟩)), (3, .string c3.1), (33, .bool c27)] (ar (ar (ar trivial))) fun j => ?_
      obtain ⟨c38, h39, hF⟩ := bind_some hF
      refine wpn_mid 2 (fun e' σ' => ∃ (τ' : Hp), agr [(40, .bool c38), (1, .pointer (some ⟨b2, 0, none⟩)), (3, .string c3.1)] e' ∧ Obs τ' σ' [some (b2, ⟨[.int .u8 (p0.Kind.toNat : Int), .int .u8 (p0.Op.toNat : Int), .int .i64 p0.R, .int .i64 p0.S, .int .i64 p0.T, .int .i64 p0.N, .int .i64 p0.M], 24, 7, true⟩)] ∧ Hp.le τ τ') ?_ ?_
      · have hF := h39
        rcases ite_some hF with ⟨hb40, hF⟩ | ⟨hb40, hF⟩
        · refine wpn_gFa (congrArg (fun x => isB (.bool x) false) hb40) ⟨trivial, ⟨trivial, ⟨trivial, ⟨⟨(again_no (congrArg (fun x => isB (.bool x) false) hb40)), trivial⟩, ⟨trivial, ⟨trivial, trivial⟩⟩⟩⟩⟩⟩ ?_
          refine wpn_pk (congrArg Value.bool hb40) ?_
          refine wpn_nil ?_
          injection hF with hF
          subst hF
          refine wpn_end ?_
          exact ⟨rfl, _, ar (ar (ar trivial)), hO, hL⟩
        · refine wpn_gT (congrArg (fun x => isB (.bool x) false) hb40) ?_
          refine wpn_q hO 3 [0] [(1, .pointer (some ⟨b2, 0, none⟩)), (3, .string c3.1), (33, .bool c27), (34, .pointer (some ⟨b2, 4, none⟩)), (35, .int .i64 p0.T), (36, .string c3.1)] (And.intro (And.intro rfl rfl) (ar (ar (ar (ar (ar (ar trivial))))))) fun j => ?_
          refine wpn_late ?_
          obtain ⟨c41, h42, hF⟩ := bind_some hF
          refine wpn_c0 hO (zu h42) rfl fun _ σ _ _ hO h43 h44 => ?_
          have hL := hL.trans h43
          obtain ⟨rfl, rfl⟩ := h44
          have hO : Obs _ _ [_] := hO
          refine wpn_nil ?_
          refine wpn_ag ⟨(again_ldg rfl (hO.val (i := 0) (off := 4) (agg := false) (n := 1) rfl rfl) rfl), trivial⟩ ?_
          obtain ⟨c45, h46, hF⟩ := bind_some hF
          refine wpn_c0 hO (zcj h46) rfl fun _ σ _ _ hO h47 h48 => ?_
          have hL := hL.trans h47
          obtain ⟨rfl, rfl⟩ := h48
          have hO : Obs _ _ [_] := hO
          refine wpn_q hO 1 [] [(1, .pointer (some ⟨b2, 0, none⟩)), (3, .string c3.1), (33, .bool c27), (39, .bool (!c45))] (ar (ar (ar (ar trivial)))) fun j => ?_
          refine wpn_pk (congrArg Value.bool hb40) ?_
          refine wpn_nil ?_
          injection hF with hF
          subst hF
          refine wpn_end ?_
          exact ⟨rfl, _, ar (ar (ar trivial)), hO, hL⟩
      · rintro e σ ⟨_, hA, hO, hL⟩
        rw [← sets_agr _ _ hA]
        refine wpn_nil ?_
        rcases ite_some hF with ⟨hb49, hF⟩ | ⟨hb49, hF⟩
        · refine wpn_cT (congrArg Value.bool hb49) ?_
          refine wpn_assoc ?_
          refine wpn_qa hO [] [(2, .bool false)] (ar trivial) fun j => ?_
          refine wpn_rt ?_
          injection hF with hF
          subst hF
          have hO := hO.sel [] (by decide)
          exact hQ _ _ _ _ _ rfl hO hL ⟨rfl, rfl⟩
        · refine wpn_cF (congrArg Value.bool hb49) ?_
          refine wpn_sk ?_
          refine wpn_assoc ?_
          refine wpn_q hO 1 [] [(1, .pointer (some ⟨b2, 0, none⟩)), (3, .string c3.1), (41, .string c3.1)] (ar (ar (ar trivial))) fun j => ?_
          obtain ⟨c50, h51, hF⟩ := bind_some hF
          refine wpn_c0 hO (zu h51) rfl fun _ σ _ _ hO h52 h53 => ?_
          have hL := hL.trans h52
          obtain ⟨rfl, rfl⟩ := h53
          have hO : Obs _ _ [_] := hO
          refine wpn_q hO 1 [] [(1, .pointer (some ⟨b2, 0, none⟩)), (3, .string c3.1), (43, .bool c50)] (ar (ar (ar trivial))) fun j => ?_
          obtain ⟨c54, h55, hF⟩ := bind_some hF
          refine wpn_midq 4 [(52, .bool c54), (1, .pointer (some ⟨b2, 0, none⟩)), (3, .string c3.1)] (fun Q hQ => ?_) fun j => ?_
          · have hF := h55
            rcases ite_some hF with ⟨hb56, hF⟩ | ⟨hb56, hF⟩
            · refine wpn_gT (congrArg (fun x => isB (.bool x) true) hb56) ?_
              refine wpn_q hO 4 [0] [(1, .pointer (some ⟨b2, 0, none⟩)), (3, .string c3.1), (43, .bool c50), (47, .bool (decide (p0.M < 1)))] (And.intro (And.intro rfl rfl) (ar (ar (ar (ar trivial))))) fun j => ?_
              rcases ite_some hF with ⟨hb57, hF⟩ | ⟨hb57, hF⟩
              · refine wpn_gF (congrArg (fun x => isB (.bool x) false) hb57) ?_
                refine wpn_gT (congrArg (fun x => isB (.bool x) true) hb56) ?_
                refine wpn_pk (congrArg Value.bool hb57) ?_
                refine wpn_pk (congrArg Value.bool hb56) ?_
                refine wpn_nil ?_
                injection hF with hF
                subst hF
                refine wpn_end ?_
                exact hQ _ (ar (ar (ar trivial)))
              · refine wpn_gT (congrArg (fun x => isB (.bool x) false) hb57) ?_
                refine wpn_q hO 3 [0] [(1, .pointer (some ⟨b2, 0, none⟩)), (3, .string c3.1), (43, .bool c50), (47, .bool (decide (p0.M < 1))), (50, .bool (decide (p0.M > 65536)))] (And.intro (And.intro rfl rfl) (ar (ar (ar (ar (ar trivial)))))) fun j => ?_
                refine wpn_gT (congrArg (fun x => isB (.bool x) true) hb56) ?_
                refine wpn_pk (congrArg Value.bool hb57) ?_
                refine wpn_pk (congrArg Value.bool hb56) ?_
                refine wpn_nil ?_
                injection hF with hF
                subst hF
                refine wpn_end ?_
                exact hQ _ (ar (ar (ar trivial)))
            · refine wpn_gF (congrArg (fun x => isB (.bool x) true) hb56) ?_
              refine wpn_gF rfl ?_
              refine wpn_gF (congrArg (fun x => isB (.bool x) true) hb56) ?_
              refine wpn_pk (congrArg Value.bool hb56) ?_
              refine wpn_nil ?_
              injection hF with hF
              subst hF
              refine wpn_end ?_
              exact hQ _ (ar (ar (ar trivial)))
          · refine wpn_q hO 1 [] [(1, .pointer (some ⟨b2, 0, none⟩)), (3, .string c3.1), (53, .bool c54)] (ar (ar (ar trivial))) fun j => ?_
            obtain ⟨c58, h59, hF⟩ := bind_some hF
            refine wpn_mid 4 (fun e' σ' => ∃ (τ' : Hp), agr [(62, .bool c58), (1, .pointer (some ⟨b2, 0, none⟩)), (3, .string c3.1)] e' ∧ Obs τ' σ' [some (b2, ⟨[.int .u8 (p0.Kind.toNat : Int), .int .u8 (p0.Op.toNat : Int), .int .i64 p0.R, .int .i64 p0.S, .int .i64 p0.T, .int .i64 p0.N, .int .i64 p0.M], 24, 7, true⟩)] ∧ Hp.le τ τ') ?_ ?_
            · have hF := h59
              rcases ite_some hF with ⟨hb60, hF⟩ | ⟨hb60, hF⟩
              · refine wpn_gF (congrArg (fun x => isB (.bool x) false) hb60) ?_
                refine wpn_gF rfl ?_
                refine wpn_gF (congrArg (fun x => isB (.bool x) false) hb60) ?_
                refine wpn_pk (congrArg Value.bool hb60) ?_
                refine wpn_nil ?_
                injection hF with hF
                subst hF
                refine wpn_end ?_
                exact ⟨rfl, _, ar (ar (ar trivial)), hO, hL⟩
              · refine wpn_gT (congrArg (fun x => isB (.bool x) false) hb60) ?_
                refine wpn_q hO 1 [] [(1, .pointer (some ⟨b2, 0, none⟩)), (3, .string c3.1), (53, .bool c54), (54, .string c3.1)] (ar (ar (ar (ar trivial)))) fun j => ?_
                obtain ⟨c61, h62, hF⟩ := bind_some hF
                refine wpn_c0 hO (zu h62) rfl fun _ σ _ _ hO h63 h64 => ?_
                have hL := hL.trans h63
                obtain ⟨rfl, rfl⟩ := h64
                have hO : Obs _ _ [_] := hO
                refine wpn_q hO 2 [] [(1, .pointer (some ⟨b2, 0, none⟩)), (3, .string c3.1), (53, .bool c54), (57, .bool (!c61))] (ar (ar (ar (ar trivial)))) fun j => ?_
                rcases ite_some hF with ⟨hb65, hF⟩ | ⟨hb65, hF⟩
                · refine wpn_gT (congrArg (fun x => isB (.bool x) true) hb65) ?_
                  refine wpn_q hO 3 [0] [(1, .pointer (some ⟨b2, 0, none⟩)), (3, .string c3.1), (53, .bool c54), (57, .bool (!c61)), (60, .bool (p0.M != 0))] (And.intro (And.intro rfl rfl) (ar (ar (ar (ar (ar trivial)))))) fun j => ?_
                  refine wpn_gT (congrArg (fun x => isB (.bool x) false) hb60) ?_
                  refine wpn_pk (congrArg Value.bool hb65) ?_
                  refine wpn_pk (congrArg Value.bool hb60) ?_
                  refine wpn_nil ?_
                  injection hF with hF
                  subst hF
                  refine wpn_end ?_
                  exact ⟨rfl, _, ar (ar (ar trivial)), hO, hL⟩
                · refine wpn_gF (congrArg (fun x => isB (.bool x) true) hb65) ?_
                  refine wpn_gT (congrArg (fun x => isB (.bool x) false) hb60) ?_
                  refine wpn_pk (congrArg Value.bool hb65) ?_
                  refine wpn_pk (congrArg Value.bool hb60) ?_
                  refine wpn_nil ?_
                  injection hF with hF
                  subst hF
                  refine wpn_end ?_
                  exact ⟨rfl, _, ar (ar (ar trivial)), hO, hL⟩
            · rintro e σ ⟨_, hA, hO, hL⟩
              rw [← sets_agr _ _ hA]
              refine wpn_nil ?_
              rcases ite_some hF with ⟨hb66, hF⟩ | ⟨hb66, hF⟩
              · refine wpn_cT (congrArg Value.bool hb66) ?_
                refine wpn_assoc ?_
                refine wpn_qa hO [] [(2, .bool false)] (ar trivial) fun j => ?_
                refine wpn_rt ?_
                injection hF with hF
                subst hF
                have hO := hO.sel [] (by decide)
                exact hQ _ _ _ _ _ rfl hO hL ⟨rfl, rfl⟩
              · refine wpn_cF (congrArg Value.bool hb66) ?_
                refine wpn_sk ?_
                refine wpn_cutb (fun e' σ' => ∃ (τ' : Hp), agr [(1, .pointer (some ⟨b2, 0, none⟩)), (3, .string c3.1)] e' ∧ Obs τ' σ' [some (b2, ⟨[.int .u8 (p0.Kind.toNat : Int), .int .u8 (p0.Op.toNat : Int), .int .i64 p0.R, .int .i64 p0.S, .int .i64 p0.T, .int .i64 p0.N, .int .i64 p0.M], 24, 7, true⟩)] ∧ Hp.le τ τ' ∧ zg p0 c3 = some rr) ?_ ?_
                · refine wpn_qa hO [0] [(1, .pointer (some ⟨b2, 0, none⟩)), (3, .string c3.1), (63, .bool ((p0.Kind.toNat : Int) == 4))] (And.intro (And.intro rfl rfl) (ar (ar (ar trivial)))) fun j => ?_
                  refine wpn_clast ?_
                  rcases ite_some hF with ⟨hb88, hF⟩ | ⟨hb88, hF⟩
                  · refine wpn_cT (congrArg Value.bool hb88) ?_
                    refine wpn_assoc ?_
                    refine wpn_qa hO [0, 0] [(1, .pointer (some ⟨b2, 0, none⟩)), (3, .string c3.1), (74, .bool ((decide ((p0.Op.toNat : Int) < 1)) || (decide ((p0.Op.toNat : Int) > 13))))] (And.intro (And.intro rfl rfl) (And.intro (And.intro rfl rfl) (And.intro (And.intro rfl rfl) (fun _ => ar (ar (ar trivial)))))) fun j => ?_
                    rcases ite_some hF with ⟨hb89, hF⟩ | ⟨hb89, hF⟩
                    · refine wpn_cT (congrArg Value.bool hb89) ?_
                      refine wpn_assoc ?_
                      refine wpn_qa hO [] [(2, .bool false)] (ar trivial) fun j => ?_
                      refine wpn_rt ?_
                      refine inb_r1 ?_
                      refine thn_r1 ?_
                      injection hF with hF
                      subst hF
                      have hO := hO.sel [] (by decide)
                      exact hQ _ _ _ _ _ rfl hO hL ⟨rfl, rfl⟩
                    · refine wpn_cF (congrArg Value.bool hb89) ?_
                      refine wpn_sk ?_
                      refine wpn_end ?_
                      refine inb_i ?_
                      refine thn_i ?_
                      exact ⟨_, ar (ar trivial), hO, hL, hF⟩
                  · refine wpn_cF (congrArg Value.bool hb88) ?_
                    refine wpn_assoc ?_
                    refine wpn_qa hO [0] [(1, .pointer (some ⟨b2, 0, none⟩)), (3, .string c3.1), (75, .bool ((p0.Kind.toNat : Int) == 5))] (And.intro (And.intro rfl rfl) (ar (ar (ar trivial)))) fun j => ?_
                    rcases ite_some hF with ⟨hb90, hF⟩ | ⟨hb90, hF⟩
                    · refine wpn_cT (congrArg Value.bool hb90) ?_
                      refine wpn_assoc ?_
                      refine wpn_qa hO [0, 0] [(1, .pointer (some ⟨b2, 0, none⟩)), (3, .string c3.1), (86, .bool (((p0.Op.toNat : Int) != 14) && ((p0.Op.toNat : Int) != 15)))] (And.intro (And.intro rfl rfl) (And.intro (And.intro rfl rfl) (And.intro (And.intro rfl rfl) (fun _ => ar (ar (ar trivial)))))) fun j => ?_
                      rcases ite_some hF with ⟨hb91, hF⟩ | ⟨hb91, hF⟩
                      · refine wpn_cT (congrArg Value.bool hb91) ?_
                        refine wpn_assoc ?_
                        refine wpn_qa hO [] [(2, .bool false)] (ar trivial) fun j => ?_
                        refine wpn_rt ?_
                        refine inb_r1 ?_
                        refine thn_r1 ?_
                        injection hF with hF
                        subst hF
                        have hO := hO.sel [] (by decide)
                        exact hQ _ _ _ _ _ rfl hO hL ⟨rfl, rfl⟩
                      · refine wpn_cF (congrArg Value.bool hb91) ?_
                        refine wpn_sk ?_
                        refine wpn_end ?_
                        refine inb_i ?_
                        refine thn_i ?_
                        exact ⟨_, ar (ar trivial), hO, hL, hF⟩
                    · refine wpn_cF (congrArg Value.bool hb90) ?_
                      refine wpn_assoc ?_
                      refine wpn_qa hO [0] [(1, .pointer (some ⟨b2, 0, none⟩)), (3, .string c3.1), (87, .bool ((p0.Op.toNat : Int) != 0))] (And.intro (And.intro rfl rfl) (ar (ar (ar trivial)))) fun j => ?_
                      rcases ite_some hF with ⟨hb92, hF⟩ | ⟨hb92, hF⟩
                      · refine wpn_cT (congrArg Value.bool hb92) ?_
                        refine wpn_assoc ?_
                        refine wpn_qa hO [] [(2, .bool false)] (ar trivial) fun j => ?_
                        refine wpn_rt ?_
                        refine inb_r1 ?_
                        refine thn_r1 ?_
                        injection hF with hF
                        subst hF
                        have hO := hO.sel [] (by decide)
                        exact hQ _ _ _ _ _ rfl hO hL ⟨rfl, rfl⟩
                      · refine wpn_cF (congrArg Value.bool hb92) ?_
                        refine wpn_sk ?_
                        refine wpn_end ?_
                        refine inb_i ?_
                        refine thn_i ?_
                        exact ⟨_, ar (ar trivial), hO, hL, hF⟩
                · rintro e σ ⟨_, hA, hO, hL, hF⟩
                  rw [← sets_agr _ _ hA]
                  unfold zg at hF
                  refine wpn_bl ?_
                  refine wpn_qa hO [0] [(1, .pointer (some ⟨b2, 0, none⟩)), (3, .string c3.1), (91, .bool ((p0.Kind.toNat : Int) == 2))] (And.intro (And.intro rfl rfl) (ar (ar (ar trivial)))) fun j => ?_
                  refine wpn_clast ?_
                  rcases ite_some hF with ⟨hb72, hF⟩ | ⟨hb72, hF⟩
                  · refine wpn_cT (congrArg Value.bool hb72) ?_
                    refine wpn_assoc ?_
                    refine wpn_qa hO [] [(2, .bool true)] (ar trivial) fun j => ?_
                    refine wpn_rt ?_
                    refine inb_r1 ?_
                    refine thn_r1 ?_
                    injection hF with hF
                    subst hF
                    have hO := hO.sel [] (by decide)
                    exact hQ _ _ _ _ _ rfl hO hL ⟨rfl, rfl⟩
                  · refine wpn_cF (congrArg Value.bool hb72) ?_
                    refine wpn_assoc ?_
                    refine wpn_q hO 1 [] [(1, .pointer (some ⟨b2, 0, none⟩)), (3, .string c3.1), (96, .string c3.1)] (ar (ar (ar trivial))) fun j => ?_
                    obtain ⟨c73, h74, hF⟩ := bind_some hF
                    refine wpn_c0 hO (zu h74) rfl fun _ σ _ _ hO h75 h76 => ?_
                    have hL := hL.trans h75
                    obtain ⟨rfl, rfl⟩ := h76
                    have hO : Obs _ _ [_] := hO
                    refine wpn_qa hO [] [(1, .pointer (some ⟨b2, 0, none⟩)), (3, .string c3.1), (95, .bool c73)] (ar (ar (ar trivial))) fun j => ?_
                    rcases ite_some hF with ⟨hb77, hF⟩ | ⟨hb77, hF⟩
                    · refine wpn_cT (congrArg Value.bool hb77) ?_
                      refine wpn_assoc ?_
                      refine wpn_qa hO [0, 0] [(2, .bool ((decide (p0.N ≥ (-65536))) && (decide (p0.N ≤ 65536))))] (And.intro (And.intro rfl rfl) (And.intro (And.intro rfl rfl) (And.intro (And.intro rfl rfl) (fun _ => ar trivial)))) fun j => ?_
                      refine wpn_rt ?_
                      refine inb_r1 ?_
                      refine thn_r1 ?_
                      injection hF with hF
                      subst hF
                      have hO := hO.sel [] (by decide)
                      exact hQ _ _ _ _ _ rfl hO hL ⟨rfl, rfl⟩
                    · refine wpn_cF (congrArg Value.bool hb77) ?_
                      refine wpn_assoc ?_
                      refine wpn_q hO 1 [] [(1, .pointer (some ⟨b2, 0, none⟩)), (3, .string c3.1), (107, .string c3.1)] (ar (ar (ar trivial))) fun j => ?_
                      obtain ⟨c78, h79, hF⟩ := bind_some hF
                      refine wpn_c0 hO (zu h79) rfl fun _ σ _ _ hO h80 h81 => ?_
                      have hL := hL.trans h80
                      obtain ⟨rfl, rfl⟩ := h81
                      have hO : Obs _ _ [_] := hO
                      refine wpn_qa hO [] [(1, .pointer (some ⟨b2, 0, none⟩)), (3, .string c3.1), (106, .bool c78)] (ar (ar (ar trivial))) fun j => ?_
                      rcases ite_some hF with ⟨hb82, hF⟩ | ⟨hb82, hF⟩
                      · refine wpn_cT (congrArg Value.bool hb82) ?_
                        refine wpn_assoc ?_
                        refine wpn_qa hO [0, 0] [(2, .bool ((decide (p0.N ≥ 0)) && (decide (p0.N < 16777216))))] (And.intro (And.intro rfl rfl) (And.intro (And.intro rfl rfl) (And.intro (And.intro rfl rfl) (fun _ => ar trivial)))) fun j => ?_
                        refine wpn_rt ?_
                        refine inb_r1 ?_
                        refine thn_r1 ?_
                        injection hF with hF
                        subst hF
                        have hO := hO.sel [] (by decide)
                        exact hQ _ _ _ _ _ rfl hO hL ⟨rfl, rfl⟩
                      · refine wpn_cF (congrArg Value.bool hb82) ?_
                        refine wpn_assoc ?_
                        refine wpn_q hO 1 [] [(1, .pointer (some ⟨b2, 0, none⟩)), (118, .string c3.1)] (ar (ar trivial)) fun j => ?_
                        obtain ⟨c83, h84, hF⟩ := bind_some hF
                        refine wpn_c0 hO (zu h84) rfl fun _ σ _ _ hO h85 h86 => ?_
                        have hL := hL.trans h85
                        obtain ⟨rfl, rfl⟩ := h86
                        have hO : Obs _ _ [_] := hO
                        refine wpn_qa hO [] [(1, .pointer (some ⟨b2, 0, none⟩)), (117, .bool c83)] (ar (ar trivial)) fun j => ?_
                        rcases ite_some hF with ⟨hb87, hF⟩ | ⟨hb87, hF⟩
                        · refine wpn_cT (congrArg Value.bool hb87) ?_
                          refine wpn_assoc ?_
                          refine wpn_qa hO [0, 0] [(2, .bool ((decide (p0.N ≥ 2)) && (decide (p0.N ≤ 4))))] (And.intro (And.intro rfl rfl) (And.intro (And.intro rfl rfl) (And.intro (And.intro rfl rfl) (fun _ => ar trivial)))) fun j => ?_
                          refine wpn_rt ?_
                          refine inb_r1 ?_
                          refine thn_r1 ?_
                          injection hF with hF
                          subst hF
                          have hO := hO.sel [] (by decide)
                          exact hQ _ _ _ _ _ rfl hO hL ⟨rfl, rfl⟩
                        · refine wpn_cF (congrArg Value.bool hb87) ?_
                          refine wpn_sk ?_
                          refine wpn_end ?_
                          refine inb_i ?_
                          refine thn_i ?_
                          refine wpn_qa hO [0] [(2, .bool (p0.N == 0))] (And.intro (And.intro rfl rfl) (ar trivial)) fun j => ?_
                          refine wpn_r1 ?_
                          injection hF with hF
                          subst hF
                          have hO := hO.sel [] (by decide)
                          exact hQ _ _ _ _ _ rfl hO hL ⟨rfl, rfl⟩
theorem zdm {τ : Hp} {v0 : Value} {p0 : (List UInt8)} (r0 : RdT Ty.u8 τ v0 p0) {rr : (List UInt8)} (hF : z1 p0 = some rr) :
    Ctr Try.prog 21 #[v0] τ [] (fun v τ' vs' => ∃ (v0 : Value) (o0 : Ob), v = v0 ∧ vs' = [o0] ∧ OwnO Ty.u8 5 τ' v0 rr o0) := by
  obtain ⟨A0, c0, rfl, -⟩ := r0.form
  refine ctr_of (args := [.slice A0 p0.length c0]) hm Try.func21 s21 rfl fun w0 σ hO Q hQ => ?_
  unfold z1 at hF
  have hL := Hp.le.refl τ
  show wpn _ _ a21.body _ _ _
  unfold a21
  dsimp only
  refine wpn_qa hO [] [(0, .slice A0 p0.length c0)] (ar trivial) fun j => ?_
  refine wpn_qa hO [] [(0, .slice A0 p0.length c0), (3, .slice none 0 0)] (ar (ar trivial)) fun j => ?_
  refine wpn_assoc ?_
  refine wpn_qa hO [] [(3, .slice none 0 0), (6, .slice A0 p0.length c0), (7, .int .i64 (p0.length : Int)), (8, .int .i64 0)] (ar (ar (ar (ar trivial)))) fun j => ?_
  refine wpn_bl ?_
  have hO := hO.no
  have hO : Obs _ _ [_] := hO
  refine wpn_lp (fun (n : Nat) e' σ' => ∃ (A14 : Option Addr) (c15 : Nat) (o16 : Ob) (x17 : List UInt8) (x20 : Int) (τ' : Hp), agr [(3, .slice A14 x17.length c15), (6, .slice A0 p0.length c0), (7, .int .i64 (p0.length : Int)), (8, .int .i64 x20)] e' ∧ Obs τ' σ' [o16] ∧ Hp.le τ τ' ∧ OwnO Ty.u8 5 τ' (.slice A14 x17.length c15) x17 o16 ∧ RdT Ty.u8 τ' (.slice A0 p0.length c0) p0 ∧ zW p0 n x17 x20 = some rr) big ⟨none, 0, none, [], 0, _, ar (ar (ar (ar trivial))), hO, hL, OwnO.nil _ _ _, r0, hF⟩ ?_
  clear hF hO hL
  rintro n31 e σ ⟨A14, c15, o16, x17, x20, _, hA, hO, hL, w18, r19, hF⟩
  rw [← sets_agr _ _ hA]
  cases n31 with
  | zero => exact nomatch (show none = some rr from hF)
  | succ n31 =>
    replace hF : zK (zW p0 n31) p0 x17 x20 = some rr := hF
    unfold zK at hF
    refine wpn_qa hO [] [(3, .slice A14 x17.length c15), (6, .slice A0 p0.length c0), (7, .int .i64 (p0.length : Int)), (8, .int .i64 x20), (9, .bool (decide (x20 < (p0.length : Int))))] (ar (ar (ar (ar (ar trivial))))) fun j => ?_
    rcases ite_some hF with ⟨hb32, hF⟩ | ⟨hb32, hF⟩
    · refine wpn_cT (congrArg Value.bool hb32) ?_
      refine wpn_sk ?_
      refine wpn_bl ?_
      obtain ⟨y33, g34, hF⟩ := bind_some hF
      refine wpn_idx (T := Ty.u8) r19 hO.base rfl rfl g34 (by decide) fun a35 _ k36 m37 => ?_
      obtain rfl : _ = ([.int .u8 y33.toNat] : List Value) := k36
      refine wpn_ld rfl (m37.le hO.base).fst ?_
      refine wpn_qa hO [] [(3, .slice A14 x17.length c15), (5, .int .u8 (y33.toNat : Int)), (6, .slice A0 p0.length c0), (7, .int .i64 (p0.length : Int)), (8, .int .i64 x20)] (ar (ar (ar (ar (ar trivial))))) fun j => ?_
      refine wpn_rlast ?_
      refine wpn_q hO 2 [] [(6, .slice A0 p0.length c0), (7, .int .i64 (p0.length : Int)), (8, .int .i64 x20), (12, .slice A14 x17.length c15), (13, .int .u8 (y33.toNat : Int))] (ar (ar (ar (ar (ar trivial))))) fun j => ?_
      obtain ⟨_, hr, hF⟩ := bind_some hF
      refine wpn_ap1 (T := Ty.u8) (y := y33) hO w18 (i := 0) rfl rfl (fun _ => rfl) rfl rfl rfl hr (by decide) fun u _ σ o40 w41 hO => ?_
      obtain ⟨A38, c39, rfl, -⟩ := w41.form
      have hO : Obs _ _ [_] := hO
      refine wpn_qa hO [] [(3, .slice A38 (x17 ++ [y33]).length c39), (6, .slice A0 p0.length c0), (7, .int .i64 (p0.length : Int)), (8, .int .i64 x20)] (ar (ar (ar (ar trivial)))) fun j => ?_
      refine wpn_end ?_
      refine inb_i ?_
      refine thn_i ?_
      refine wpn_rlast ?_
      refine wpn_qa hO [] [(3, .slice A38 (x17 ++ [y33]).length c39), (6, .slice A0 p0.length c0), (7, .int .i64 (p0.length : Int)), (8, .int .i64 (IntKind.i64.wrap (x20 + 1)))] (ar (ar (ar (ar trivial)))) fun j => ?_
      refine wpn_end ?_
      refine thn_i ?_
      exact ⟨n31, Nat.lt_succ_self _, A38, c39, o40, (x17 ++ [y33]), (IntKind.i64.wrap (x20 + 1)), _, ar (ar (ar (ar trivial))), hO, hL, w41, r19, hF⟩
    · refine wpn_cF (congrArg Value.bool hb32) ?_
      refine wpn_ex ?_
      refine thn_x ?_
      refine inb_x ?_
      refine thn_i ?_
      refine wpn_qa hO [] [(2, .slice A14 x17.length c15)] (ar trivial) fun j => ?_
      refine wpn_r1 ?_
      injection hF with hF
      subst hF
      exact hQ _ _ _ _ _ rfl hO hL ⟨_, _, rfl, rfl, w18⟩
theorem zeB {τ : Hp} {p0 : Int} {p1 : Int}  {rr : Int × Bool} (hF : zbn p0 p1 = some rr) :
    Ctr Try.prog 28 #[.int .i64 p0, .int .i64 p1] τ [] (fun v τ' vs' => v = .tuple #[.int .u8 rr.1, .bool rr.2] ∧ vs' = []) := by
  refine ctr_of (args := [.int .i64 p0, .int .i64 p1]) hm Try.func28 s28 rfl fun w0 σ hO Q hQ => ?_
  unfold zbn at hF
  have hL := Hp.le.refl τ
  show wpn _ _ a28.body _ _ _
  unfold a28
  dsimp only
  refine wpn_qa hO [] [(0, .int .i64 p0), (1, .int .i64 p1)] (ar (ar trivial)) fun j => ?_
  refine wpn_assoc ?_
  refine wpn_qa hO [] [(0, .int .i64 p0), (1, .int .i64 p1), (6, .int .i64 0)] (ar (ar (ar trivial))) fun j => ?_
  refine wpn_bl ?_
  refine wpn_lp (fun (n : Nat) e' σ' => ∃ (x5 : Int) (τ' : Hp), agr [(0, .int .i64 p0), (1, .int .i64 p1), (6, .int .i64 x5)] e' ∧ Obs τ' σ' [] ∧ Hp.le τ τ' ∧ zca p0 p1 n x5 = some rr) big ⟨0, _, ar (ar (ar trivial)), hO, hL, hF⟩ ?_
  clear hF hO hL
  rintro n8 e σ ⟨x5, _, hA, hO, hL, hF⟩
  rw [← sets_agr _ _ hA]
  cases n8 with
  | zero => exact nomatch (show none = some rr from hF)
  | succ n8 =>
    replace hF : zbr (zca p0 p1 n8) p0 p1 x5 = some rr := hF
    unfold zbr at hF
    refine wpn_assoc ?_
    refine wpn_qa hO [] [(0, .int .i64 p0), (1, .int .i64 p1), (6, .int .i64 x5), (8, .bool (decide (x5 < 256)))] (ar (ar (ar (ar trivial)))) fun j => ?_
    rcases ite_some hF with ⟨hb9, hF⟩ | ⟨hb9, hF⟩
    · refine wpn_cT (congrArg Value.bool hb9) ?_
      refine wpn_sk ?_
      refine wpn_bl ?_
      refine wpn_qa hO [] [(0, .int .i64 p0), (1, .int .i64 p1), (6, .int .i64 x5), (20, .bool (((IntKind.i64.wrap (Int.tdiv x5 16)) == p0) && ((Int.tmod x5 16) == p1)))] (And.intro (And.intro rfl rfl) (fun _ => ar (ar (ar (ar trivial))))) fun j => ?_
      refine wpn_clast ?_
      rcases ite_some hF with ⟨hb10, hF⟩ | ⟨hb10, hF⟩
      · refine wpn_cT (congrArg Value.bool hb10) ?_
        refine wpn_assoc ?_
        refine wpn_qa hO [] [(4, .int .u8 (IntKind.u8.wrap x5)), (5, .bool true)] (ar (ar trivial)) fun j => ?_
        refine wpn_rt ?_
        refine inb_r1 ?_
        refine thn_r1 ?_
        refine thn_r1 ?_
        refine inb_r1 ?_
        refine thn_r1 ?_
        injection hF with hF
        subst hF
        exact hQ _ _ _ _ _ rfl hO hL ⟨rfl, rfl⟩
      · refine wpn_cF (congrArg Value.bool hb10) ?_
        refine wpn_sk ?_
        refine wpn_end ?_
        refine inb_i ?_
        refine thn_i ?_
        refine wpn_rlast ?_
        refine wpn_qa hO [] [(0, .int .i64 p0), (1, .int .i64 p1), (6, .int .i64 (IntKind.i64.wrap (x5 + 1)))] (ar (ar (ar trivial))) fun j => ?_
        refine wpn_end ?_
        refine thn_i ?_
        exact ⟨n8, Nat.lt_succ_self _, (IntKind.i64.wrap (x5 + 1)), _, ar (ar (ar trivial)), hO, hL, hF⟩
    · refine wpn_cF (congrArg Value.bool hb9) ?_
      refine wpn_ex ?_
      refine thn_x ?_
      refine inb_x ?_
      refine thn_i ?_
      refine wpn_qa hO [] [(4, .int .u8 0), (5, .bool false)] (ar (ar trivial)) fun j => ?_
      refine wpn_r1 ?_
      injection hF with hF
      subst hF
      exact hQ _ _ _ _ _ rfl hO hL ⟨rfl, rfl⟩
theorem zet {τ : Hp} {p0 : Int} {p1 : Int}  {rr : Bool} (hF : zb5 p0 p1 = some rr) :
    Ctr Try.prog 39 #[.int .i64 p0, .int .i64 p1] τ [] (fun v τ' vs' => v = .bool rr ∧ vs' = []) := by
  refine ctr_of (args := [.int .i64 p0, .int .i64 p1]) hm Try.func39 s39 rfl fun w0 σ hO Q hQ => ?_
  unfold zb5 at hF
  have hL := Hp.le.refl τ
  show wpn _ _ a39.body _ _ _
  unfold a39
  dsimp only
  refine wpn_qa hO [] [(0, .int .i64 p0), (1, .int .i64 p1)] (ar (ar trivial)) fun j => ?_
  refine wpn_assoc ?_
  refine wpn_qa hO [] [(0, .int .i64 p0), (1, .int .i64 p1), (8, .bool (decide ((IntKind.i64.wrap ((IntKind.i64.wrap (7 * p1)) - 1)) ≥ 63)))] (ar (ar (ar trivial))) fun j => ?_
  rcases ite_some hF with ⟨hb3, hF⟩ | ⟨hb3, hF⟩
  · refine wpn_cT (congrArg Value.bool hb3) ?_
    refine wpn_assoc ?_
    refine wpn_qa hO [] [(4, .bool true)] (ar trivial) fun j => ?_
    refine wpn_rt ?_
    injection hF with hF
    subst hF
    exact hQ _ _ _ _ _ rfl hO hL ⟨rfl, rfl⟩
  · refine wpn_cF (congrArg Value.bool hb3) ?_
    refine wpn_sk ?_
    refine wpn_q hO 5 [] [(0, .int .i64 p0), (1, .int .i64 p1), (9, .int .i64 p0), (13, .int .u64 (IntKind.u64.wrap (IntKind.i64.wrap ((IntKind.i64.wrap (7 * p1)) - 1))))] (ar (ar (ar (ar trivial)))) fun j => ?_
    obtain ⟨y4, g5, hF⟩ := bind_some hF
    refine wpn_bn (shlO_bin g5) ?_
    refine wpn_q hO 3 [] [(0, .int .i64 p0), (1, .int .i64 p1), (17, .bool (decide (p0 ≥ (IntKind.i64.wrap (0 - y4)))))] (ar (ar (ar trivial))) fun j => ?_
    obtain ⟨c6, h7, hF⟩ := bind_some hF
    refine wpn_midq 2 [(25, .bool c6)] (fun Q hQ => ?_) fun j => ?_
    · have hF := h7
      rcases ite_some hF with ⟨hb8, hF⟩ | ⟨hb8, hF⟩
      · refine wpn_gT (congrArg (fun x => isB (.bool x) true) hb8) ?_
        refine wpn_q hO 5 [] [(17, .bool (decide (p0 ≥ (IntKind.i64.wrap (0 - y4))))), (18, .int .i64 p0), (22, .int .u64 (IntKind.u64.wrap (IntKind.i64.wrap ((IntKind.i64.wrap (7 * p1)) - 1))))] (ar (ar (ar trivial))) fun j => ?_
        obtain ⟨y9, g10, hF⟩ := bind_some hF
        refine wpn_bn (shlO_bin g10) ?_
        refine wpn_q hO 1 [] [(17, .bool (decide (p0 ≥ (IntKind.i64.wrap (0 - y4))))), (24, .bool (decide (p0 < y9)))] (ar (ar trivial)) fun j => ?_
        refine wpn_pk (congrArg Value.bool hb8) ?_
        refine wpn_nil ?_
        injection hF with hF
        subst hF
        refine wpn_end ?_
        exact hQ _ (ar (trivial))
      · refine wpn_gF (congrArg (fun x => isB (.bool x) true) hb8) ?_
        refine wpn_pk (congrArg Value.bool hb8) ?_
        refine wpn_nil ?_
        injection hF with hF
        subst hF
        refine wpn_end ?_
        exact hQ _ (ar (trivial))
    · refine wpn_qa hO [] [(4, .bool c6)] (ar trivial) fun j => ?_
      refine wpn_r1 ?_
      injection hF with hF
      subst hF
      exact hQ _ _ _ _ _ rfl hO hL ⟨rfl, rfl⟩
theorem zds {τ : Hp} {v0 : Value} {p0 : (List UInt8)} {p1 : Int} {p2 : Bool} {p3 : Int} (r0 : RdT Ty.u8 τ v0 p0) {rr : (List UInt8)} (hF : zY p0 p1 p2 p3 = some rr) :
    Ctr Try.prog 40 #[v0, .int .u64 p1, .bool p2, .int .i64 p3] τ [] (fun v τ' vs' => ∃ (v0 : Value) (o0 : Ob), v = v0 ∧ vs' = [o0] ∧ OwnO Ty.u8 5 τ' v0 rr o0) := by
  obtain ⟨A0, c0, rfl, -⟩ := r0.form
  refine ctr_of (args := [.slice A0 p0.length c0, .int .u64 p1, .bool p2, .int .i64 p3]) hm Try.func40 s40 rfl fun w0 σ hO Q hQ => ?_
  unfold zY at hF
  have hL := Hp.le.refl τ
  show wpn _ _ a40.body _ _ _
  unfold a40
  dsimp only
  refine wpn_qa hO [] [(0, .slice A0 p0.length c0), (1, .int .u64 p1), (2, .bool p2), (3, .int .i64 p3)] (ar (ar (ar (ar trivial)))) fun j => ?_
  refine wpn_q hO 1 [] [(1, .int .u64 p1), (2, .bool p2), (3, .int .i64 p3), (12, .slice A0 p0.length c0)] (ar (ar (ar (ar trivial)))) fun j => ?_
  obtain ⟨c5, h6, hF⟩ := bind_some hF
  refine wpn_c0 hO (zdm r0 h6) rfl fun _ σ _ _ hO h7 h8 => ?_
  have hL := hL.trans h7
  have r0 := r0.le h7
  obtain ⟨v9, o12, rfl, rfl, w13⟩ := h8
  obtain ⟨A10, c11, rfl, -⟩ := w13.form
  have hO : Obs _ _ [_] := hO
  refine wpn_qa hO [] [(1, .int .u64 p1), (2, .bool p2), (3, .int .i64 p3), (9, .slice A10 c5.length c11)] (ar (ar (ar (ar trivial)))) fun j => ?_
  refine wpn_assoc ?_
  refine wpn_qa hO [] [(1, .int .u64 p1), (2, .bool p2), (3, .int .i64 p3), (9, .slice A10 c5.length c11), (10, .int .i64 0)] (ar (ar (ar (ar (ar trivial))))) fun j => ?_
  refine wpn_bl ?_
  refine wpn_lp (fun (n : Nat) e' σ' => ∃ (x39 : Int) (A40 : Option Addr) (c41 : Nat) (o42 : Ob) (x43 : List UInt8) (x45 : Int) (τ' : Hp), agr [(1, .int .u64 x39), (2, .bool p2), (3, .int .i64 p3), (9, .slice A40 x43.length c41), (10, .int .i64 x45)] e' ∧ Obs τ' σ' [o42] ∧ Hp.le τ τ' ∧ OwnO Ty.u8 5 τ' (.slice A40 x43.length c41) x43 o42 ∧ zD p2 p3 n x39 x43 x45 = some rr) big ⟨p1, A10, c11, o12, c5, 0, _, ar (ar (ar (ar (ar trivial)))), hO, hL, w13, hF⟩ ?_
  clear hF hO hL
  rintro n66 e σ ⟨x39, A40, c41, o42, x43, x45, _, hA, hO, hL, w44, hF⟩
  rw [← sets_agr _ _ hA]
  cases n66 with
  | zero => exact nomatch (show none = some rr from hF)
  | succ n66 =>
    replace hF : zbb (zD p2 p3 n66) p2 p3 x39 x43 x45 = some rr := hF
    unfold zbb at hF
    refine wpn_assoc ?_
    refine wpn_qa hO [] [(1, .int .u64 x39), (2, .bool p2), (3, .int .i64 p3), (9, .slice A40 x43.length c41), (10, .int .i64 x45), (16, .bool (decide (x45 < p3)))] (ar (ar (ar (ar (ar (ar trivial)))))) fun j => ?_
    rcases ite_some hF with ⟨hb67, hF⟩ | ⟨hb67, hF⟩
    · refine wpn_cT (congrArg Value.bool hb67) ?_
      refine wpn_sk ?_
      refine wpn_bl ?_
      refine wpn_qa hO [] [(1, .int .u64 x39), (2, .bool p2), (3, .int .i64 p3), (9, .slice A40 x43.length c41), (10, .int .i64 x45), (11, .int .u64 (Int.tmod x39 128))] (ar (ar (ar (ar (ar (ar trivial)))))) fun j => ?_
      refine wpn_qa hO [] [(1, .int .u64 (IntKind.u64.wrap (Int.tdiv x39 128))), (2, .bool p2), (3, .int .i64 p3), (9, .slice A40 x43.length c41), (10, .int .i64 x45), (11, .int .u64 (Int.tmod x39 128))] (ar (ar (ar (ar (ar (ar trivial)))))) fun j => ?_
      refine wpn_assoc ?_
      refine wpn_qa hO [] [(1, .int .u64 (IntKind.u64.wrap (Int.tdiv x39 128))), (2, .bool p2), (3, .int .i64 p3), (9, .slice A40 x43.length c41), (10, .int .i64 x45), (11, .int .u64 (Int.tmod x39 128)), (23, .bool p2)] (ar (ar (ar (ar (ar (ar (ar trivial))))))) fun j => ?_
      refine wpn_cut (fun e' σ' => ∃ (x69 : Int) (A70 : Option Addr) (c71 : Nat) (o72 : Ob) (x73 : List UInt8) (τ' : Hp), agr [(1, .int .u64 x69), (2, .bool p2), (3, .int .i64 p3), (9, .slice A70 x73.length c71), (10, .int .i64 x45), (11, .int .u64 (Int.tmod x39 128))] e' ∧ Obs τ' σ' [o72] ∧ Hp.le τ τ' ∧ OwnO Ty.u8 5 τ' (.slice A70 x73.length c71) x73 o72 ∧ zbA (zD p2 p3 n66) p3 x39 x45 x69 x73 = some rr) ?_ ?_
      · refine wpn_clast ?_
        rcases ite_some hF with ⟨hb86, hF⟩ | ⟨hb86, hF⟩
        · refine wpn_cT (congrArg Value.bool hb86) ?_
          refine wpn_qa hO [] [(1, .int .u64 (orI .u64 (IntKind.u64.wrap (Int.tdiv x39 128)) 18302628885633695744)), (2, .bool p2), (3, .int .i64 p3), (9, .slice A40 x43.length c41), (10, .int .i64 x45), (11, .int .u64 (Int.tmod x39 128))] (ar (ar (ar (ar (ar (ar trivial)))))) fun j => ?_
          refine wpn_end ?_
          refine thn_i ?_
          exact ⟨(orI .u64 (IntKind.u64.wrap (Int.tdiv x39 128)) 18302628885633695744), A40, c41, o42, x43, _, ar (ar (ar (ar (ar (ar trivial))))), hO, hL, w44, hF⟩
        · refine wpn_cF (congrArg Value.bool hb86) ?_
          refine wpn_sk ?_
          refine wpn_end ?_
          refine thn_i ?_
          exact ⟨(IntKind.u64.wrap (Int.tdiv x39 128)), A40, c41, o42, x43, _, ar (ar (ar (ar (ar (ar trivial))))), hO, hL, w44, hF⟩
      · rintro e σ ⟨x69, A70, c71, o72, x73, _, hA, hO, hL, w74, hF⟩
        rw [← sets_agr _ _ hA]
        unfold zbA at hF
        refine wpn_assoc ?_
        refine wpn_qa hO [] [(1, .int .u64 x69), (2, .bool p2), (3, .int .i64 p3), (9, .slice A70 x73.length c71), (10, .int .i64 x45), (11, .int .u64 (Int.tmod x39 128)), (29, .bool (decide (x45 < (IntKind.i64.wrap (p3 - 1)))))] (ar (ar (ar (ar (ar (ar (ar trivial))))))) fun j => ?_
        rcases ite_some hF with ⟨hb75, hF⟩ | ⟨hb75, hF⟩
        · refine wpn_cT (congrArg Value.bool hb75) ?_
          refine wpn_qa hO [] [(1, .int .u64 x69), (2, .bool p2), (3, .int .i64 p3), (9, .slice A70 x73.length c71), (10, .int .i64 x45), (11, .int .u64 (IntKind.u64.wrap ((Int.tmod x39 128) + 128)))] (ar (ar (ar (ar (ar (ar trivial)))))) fun j => ?_
          refine wpn_rlast ?_
          refine wpn_q hO 3 [] [(1, .int .u64 x69), (2, .bool p2), (3, .int .i64 p3), (10, .int .i64 x45), (32, .slice A70 x73.length c71), (34, .int .u8 (IntKind.u8.wrap (IntKind.u64.wrap ((Int.tmod x39 128) + 128))))] (ar (ar (ar (ar (ar (ar trivial)))))) fun j => ?_
          obtain ⟨z76, hz76, hF⟩ := bind_some hF
          obtain ⟨_, hr, hF⟩ := bind_some hF
          refine wpn_ap1 (T := Ty.u8) (y := z76) hO w74 (i := 0) rfl rfl (fun _ => rfl) rfl (u8R hz76) rfl hr (by decide) fun u _ σ o79 w80 hO => ?_
          obtain ⟨A77, c78, rfl, -⟩ := w80.form
          have hO : Obs _ _ [_] := hO
          refine wpn_qa hO [] [(1, .int .u64 x69), (2, .bool p2), (3, .int .i64 p3), (9, .slice A77 (x73 ++ [z76]).length c78), (10, .int .i64 x45)] (ar (ar (ar (ar (ar trivial))))) fun j => ?_
          refine wpn_end ?_
          refine inb_i ?_
          refine thn_i ?_
          refine wpn_rlast ?_
          refine wpn_qa hO [] [(1, .int .u64 x69), (2, .bool p2), (3, .int .i64 p3), (9, .slice A77 (x73 ++ [z76]).length c78), (10, .int .i64 (IntKind.i64.wrap (x45 + 1)))] (ar (ar (ar (ar (ar trivial))))) fun j => ?_
          refine wpn_end ?_
          refine thn_i ?_
          exact ⟨n66, Nat.lt_succ_self _, x69, A77, c78, o79, (x73 ++ [z76]), (IntKind.i64.wrap (x45 + 1)), _, ar (ar (ar (ar (ar trivial)))), hO, hL, w80, hF⟩
        · refine wpn_cF (congrArg Value.bool hb75) ?_
          refine wpn_sk ?_
          refine wpn_rlast ?_
          refine wpn_q hO 3 [] [(1, .int .u64 x69), (2, .bool p2), (3, .int .i64 p3), (10, .int .i64 x45), (32, .slice A70 x73.length c71), (34, .int .u8 (IntKind.u8.wrap (Int.tmod x39 128)))] (ar (ar (ar (ar (ar (ar trivial)))))) fun j => ?_
          obtain ⟨z81, hz81, hF⟩ := bind_some hF
          obtain ⟨_, hr, hF⟩ := bind_some hF
          refine wpn_ap1 (T := Ty.u8) (y := z81) hO w74 (i := 0) rfl rfl (fun _ => rfl) rfl (u8R hz81) rfl hr (by decide) fun u _ σ o84 w85 hO => ?_
          obtain ⟨A82, c83, rfl, -⟩ := w85.form
          have hO : Obs _ _ [_] := hO
          refine wpn_qa hO [] [(1, .int .u64 x69), (2, .bool p2), (3, .int .i64 p3), (9, .slice A82 (x73 ++ [z81]).length c83), (10, .int .i64 x45)] (ar (ar (ar (ar (ar trivial))))) fun j => ?_
          refine wpn_end ?_
          refine inb_i ?_
          refine thn_i ?_
          refine wpn_rlast ?_
          refine wpn_qa hO [] [(1, .int .u64 x69), (2, .bool p2), (3, .int .i64 p3), (9, .slice A82 (x73 ++ [z81]).length c83), (10, .int .i64 (IntKind.i64.wrap (x45 + 1)))] (ar (ar (ar (ar (ar trivial))))) fun j => ?_
          refine wpn_end ?_
          refine thn_i ?_
          exact ⟨n66, Nat.lt_succ_self _, x69, A82, c83, o84, (x73 ++ [z81]), (IntKind.i64.wrap (x45 + 1)), _, ar (ar (ar (ar (ar trivial)))), hO, hL, w85, hF⟩
    · refine wpn_cF (congrArg Value.bool hb67) ?_
      refine wpn_ex ?_
      refine thn_x ?_
      refine inb_x ?_
      refine thn_i ?_
      refine wpn_qa hO [] [(8, .slice A40 x43.length c41)] (ar trivial) fun j => ?_
      refine wpn_r1 ?_
      injection hF with hF
      subst hF
      exact hQ _ _ _ _ _ rfl hO hL ⟨_, _, rfl, rfl, w44⟩
theorem zdC {τ : Hp} {v0 : Value} {p0 : (List UInt8)} {p1 : Int} (r0 : RdT Ty.u8 τ v0 p0) {rr : (List UInt8)} (hF : zJ p0 p1 = some rr) :
    Ctr Try.prog 29 #[v0, .int .i64 p1] τ [] (fun v τ' vs' => ∃ (v0 : Value) (o0 : Ob), v = v0 ∧ vs' = [o0] ∧ OwnO Ty.u8 5 τ' v0 rr o0) := by
  obtain ⟨A0, c0, rfl, -⟩ := r0.form
  refine ctr_of (args := [.slice A0 p0.length c0, .int .i64 p1]) hm Try.func29 s29 rfl fun w0 σ hO Q hQ => ?_
  unfold zJ at hF
  have hL := Hp.le.refl τ
  show wpn _ _ a29.body _ _ _
  unfold a29
  dsimp only
  refine wpn_qa hO [] [(0, .slice A0 p0.length c0), (1, .int .i64 p1)] (ar (ar trivial)) fun j => ?_
  refine wpn_qa hO [] [(0, .slice A0 p0.length c0), (1, .int .i64 p1), (5, .int .i64 1)] (ar (ar (ar trivial))) fun j => ?_
  refine wpn_bl ?_
  refine wpn_lp (fun (n : Nat) e' σ' => ∃ (x19 : Int) (τ' : Hp), agr [(0, .slice A0 p0.length c0), (1, .int .i64 p1), (5, .int .i64 x19)] e' ∧ Obs τ' σ' [] ∧ Hp.le τ τ' ∧ RdT Ty.u8 τ' (.slice A0 p0.length c0) p0 ∧ zbc p0 p1 n x19 = some rr) big ⟨1, _, ar (ar (ar trivial)), hO, hL, r0, hF⟩ ?_
  clear hF hO hL
  rintro n34 e σ ⟨x19, _, hA, hO, hL, r18, hF⟩
  rw [← sets_agr _ _ hA]
  cases n34 with
  | zero => exact nomatch (show none = some rr from hF)
  | succ n34 =>
    replace hF : zce (zbc p0 p1 n34) p0 p1 x19 = some rr := hF
    unfold zce at hF
    refine wpn_assoc ?_
    refine wpn_q hO 2 [] [(0, .slice A0 p0.length c0), (1, .int .i64 p1), (5, .int .i64 x19), (6, .int .i64 p1), (7, .int .i64 x19)] (ar (ar (ar (ar (ar trivial))))) fun j => ?_
    obtain ⟨c35, h36, hF⟩ := bind_some hF
    refine wpn_c0 hO (zet h36) rfl fun _ σ _ _ hO h37 h38 => ?_
    have hL := hL.trans h37
    have r18 := r18.le h37
    obtain ⟨rfl, rfl⟩ := h38
    have hO : Obs _ _ [] := hO
    refine wpn_qa hO [] [(0, .slice A0 p0.length c0), (1, .int .i64 p1), (5, .int .i64 x19), (9, .bool (!c35))] (ar (ar (ar (ar trivial)))) fun j => ?_
    rcases ite_some hF with ⟨hb39, hF⟩ | ⟨hb39, hF⟩
    · refine wpn_cT (congrArg Value.bool hb39) ?_
      refine wpn_sk ?_
      refine wpn_blast ?_
      refine wpn_bl ?_
      refine wpn_rlast ?_
      refine wpn_qa hO [] [(0, .slice A0 p0.length c0), (1, .int .i64 p1), (5, .int .i64 (IntKind.i64.wrap (x19 + 1)))] (ar (ar (ar trivial))) fun j => ?_
      refine wpn_end ?_
      refine inb_i ?_
      refine thn_i ?_
      refine wpn_end ?_
      refine thn_i ?_
      exact ⟨n34, Nat.lt_succ_self _, (IntKind.i64.wrap (x19 + 1)), _, ar (ar (ar trivial)), hO, hL, r18, hF⟩
    · refine wpn_cF (congrArg Value.bool hb39) ?_
      refine wpn_ex ?_
      refine thn_x ?_
      refine inb_x ?_
      refine thn_i ?_
      refine wpn_q hO 6 [] [(12, .slice A0 p0.length c0), (14, .int .u64 (IntKind.u64.wrap p1)), (16, .bool (decide (p1 < 0))), (17, .int .i64 x19)] (ar (ar (ar (ar trivial)))) fun j => ?_
      obtain ⟨c40, h41, hF⟩ := bind_some hF
      refine wpn_c0 hO (zds r18 h41) rfl fun _ σ _ _ hO h42 h43 => ?_
      have hL := hL.trans h42
      have r18 := r18.le h42
      obtain ⟨v44, o47, rfl, rfl, w48⟩ := h43
      obtain ⟨A45, c46, rfl, -⟩ := w48.form
      have hO : Obs _ _ [_] := hO
      refine wpn_qa hO [] [(4, .slice A45 c40.length c46)] (ar trivial) fun j => ?_
      refine wpn_r1 ?_
      injection hF with hF
      subst hF
      exact hQ _ _ _ _ _ rfl hO hL ⟨_, _, rfl, rfl, w48⟩
theorem zdS {τ : Hp} {p0 : Int} {p1 : Int}  {rr : Bool} (hF : zbI p0 p1 = some rr) :
    Ctr Try.prog 41 #[.int .u64 p0, .int .i64 p1] τ [] (fun v τ' vs' => v = .bool rr ∧ vs' = []) := by
  refine ctr_of (args := [.int .u64 p0, .int .i64 p1]) hm Try.func41 s41 rfl fun w0 σ hO Q hQ => ?_
  unfold zbI at hF
  have hL := Hp.le.refl τ
  show wpn _ _ a41.body _ _ _
  unfold a41
  dsimp only
  refine wpn_qa hO [] [(0, .int .u64 p0), (1, .int .i64 p1)] (ar (ar trivial)) fun j => ?_
  refine wpn_q hO 4 [] [(0, .int .u64 p0), (1, .int .i64 p1), (8, .bool (decide ((IntKind.i64.wrap (7 * p1)) ≥ 64)))] (ar (ar (ar trivial))) fun j => ?_
  obtain ⟨c3, h4, hF⟩ := bind_some hF
  refine wpn_midq 2 [(15, .bool c3)] (fun Q hQ => ?_) fun j => ?_
  · have hF := h4
    rcases ite_some hF with ⟨hb5, hF⟩ | ⟨hb5, hF⟩
    · refine wpn_gF (congrArg (fun x => isB (.bool x) false) hb5) ?_
      refine wpn_pk (congrArg Value.bool hb5) ?_
      refine wpn_nil ?_
      injection hF with hF
      subst hF
      refine wpn_end ?_
      exact hQ _ (ar (trivial))
    · refine wpn_gT (congrArg (fun x => isB (.bool x) false) hb5) ?_
      refine wpn_q hO 4 [] [(8, .bool (decide ((IntKind.i64.wrap (7 * p1)) ≥ 64))), (9, .int .u64 p0), (12, .int .u64 (IntKind.u64.wrap (IntKind.i64.wrap (7 * p1))))] (ar (ar (ar trivial))) fun j => ?_
      obtain ⟨y6, g7, hF⟩ := bind_some hF
      refine wpn_bn (shlO_bin g7) ?_
      refine wpn_q hO 1 [] [(8, .bool (decide ((IntKind.i64.wrap (7 * p1)) ≥ 64))), (14, .bool (decide (p0 < y6)))] (ar (ar trivial)) fun j => ?_
      refine wpn_pk (congrArg Value.bool hb5) ?_
      refine wpn_nil ?_
      injection hF with hF
      subst hF
      refine wpn_end ?_
      exact hQ _ (ar (trivial))
  · refine wpn_qa hO [] [(4, .bool c3)] (ar trivial) fun j => ?_
    refine wpn_r1 ?_
    injection hF with hF
    subst hF
    exact hQ _ _ _ _ _ rfl hO hL ⟨rfl, rfl⟩
theorem zdj {τ : Hp} {v0 : Value} {p0 : (List UInt8)} {p1 : Int} (r0 : RdT Ty.u8 τ v0 p0) {rr : (List UInt8)} (hF : zZ p0 p1 = some rr) :
    Ctr Try.prog 30 #[v0, .int .u64 p1] τ [] (fun v τ' vs' => ∃ (v0 : Value) (o0 : Ob), v = v0 ∧ vs' = [o0] ∧ OwnO Ty.u8 5 τ' v0 rr o0) := by
  obtain ⟨A0, c0, rfl, -⟩ := r0.form
  refine ctr_of (args := [.slice A0 p0.length c0, .int .u64 p1]) hm Try.func30 s30 rfl fun w0 σ hO Q hQ => ?_
  unfold zZ at hF
  have hL := Hp.le.refl τ
  show wpn _ _ a30.body _ _ _
  unfold a30
  dsimp only
  refine wpn_qa hO [] [(0, .slice A0 p0.length c0), (1, .int .u64 p1)] (ar (ar trivial)) fun j => ?_
  refine wpn_qa hO [] [(0, .slice A0 p0.length c0), (1, .int .u64 p1), (5, .int .i64 1)] (ar (ar (ar trivial))) fun j => ?_
  refine wpn_bl ?_
  refine wpn_lp (fun (n : Nat) e' σ' => ∃ (x19 : Int) (τ' : Hp), agr [(0, .slice A0 p0.length c0), (1, .int .u64 p1), (5, .int .i64 x19)] e' ∧ Obs τ' σ' [] ∧ Hp.le τ τ' ∧ RdT Ty.u8 τ' (.slice A0 p0.length c0) p0 ∧ zbZ p0 p1 n x19 = some rr) big ⟨1, _, ar (ar (ar trivial)), hO, hL, r0, hF⟩ ?_
  clear hF hO hL
  rintro n34 e σ ⟨x19, _, hA, hO, hL, r18, hF⟩
  rw [← sets_agr _ _ hA]
  cases n34 with
  | zero => exact nomatch (show none = some rr from hF)
  | succ n34 =>
    replace hF : zbC (zbZ p0 p1 n34) p0 p1 x19 = some rr := hF
    unfold zbC at hF
    refine wpn_assoc ?_
    refine wpn_q hO 2 [] [(0, .slice A0 p0.length c0), (1, .int .u64 p1), (5, .int .i64 x19), (6, .int .u64 p1), (7, .int .i64 x19)] (ar (ar (ar (ar (ar trivial))))) fun j => ?_
    obtain ⟨c35, h36, hF⟩ := bind_some hF
    refine wpn_c0 hO (zdS h36) rfl fun _ σ _ _ hO h37 h38 => ?_
    have hL := hL.trans h37
    have r18 := r18.le h37
    obtain ⟨rfl, rfl⟩ := h38
    have hO : Obs _ _ [] := hO
    refine wpn_qa hO [] [(0, .slice A0 p0.length c0), (1, .int .u64 p1), (5, .int .i64 x19), (9, .bool (!c35))] (ar (ar (ar (ar trivial)))) fun j => ?_
    rcases ite_some hF with ⟨hb39, hF⟩ | ⟨hb39, hF⟩
    · refine wpn_cT (congrArg Value.bool hb39) ?_
      refine wpn_sk ?_
      refine wpn_blast ?_
      refine wpn_bl ?_
      refine wpn_rlast ?_
      refine wpn_qa hO [] [(0, .slice A0 p0.length c0), (1, .int .u64 p1), (5, .int .i64 (IntKind.i64.wrap (x19 + 1)))] (ar (ar (ar trivial))) fun j => ?_
      refine wpn_end ?_
      refine inb_i ?_
      refine thn_i ?_
      refine wpn_end ?_
      refine thn_i ?_
      exact ⟨n34, Nat.lt_succ_self _, (IntKind.i64.wrap (x19 + 1)), _, ar (ar (ar trivial)), hO, hL, r18, hF⟩
    · refine wpn_cF (congrArg Value.bool hb39) ?_
      refine wpn_ex ?_
      refine thn_x ?_
      refine inb_x ?_
      refine thn_i ?_
      refine wpn_q hO 3 [] [(12, .slice A0 p0.length c0), (13, .int .u64 p1), (14, .int .i64 x19)] (ar (ar (ar trivial))) fun j => ?_
      obtain ⟨c40, h41, hF⟩ := bind_some hF
      refine wpn_c0 hO (zds r18 h41) rfl fun _ σ _ _ hO h42 h43 => ?_
      have hL := hL.trans h42
      have r18 := r18.le h42
      obtain ⟨v44, o47, rfl, rfl, w48⟩ := h43
      obtain ⟨A45, c46, rfl, -⟩ := w48.form
      have hO : Obs _ _ [_] := hO
      refine wpn_qa hO [] [(4, .slice A45 c40.length c46)] (ar trivial) fun j => ?_
      refine wpn_r1 ?_
      injection hF with hF
      subst hF
      exact hQ _ _ _ _ _ rfl hO hL ⟨_, _, rfl, rfl, w48⟩
theorem zev {τ : Hp} {v0 : Value} {p0 : (List UInt8)} {p1 : Int} (r0 : RdT Ty.u8 τ v0 p0) {rr : (List UInt8) × Int} (hF : zbf p0 p1 = some rr) :
    Ctr Try.prog 31 #[v0, .int .i64 p1] τ [] (fun v τ' vs' => ∃ (v0 : Value) (o0 : Ob), v = .tuple #[v0, .int .i64 rr.2] ∧ vs' = [o0] ∧ OwnO Ty.u8 5 τ' v0 rr.1 o0) := by
  obtain ⟨A0, c0, rfl, -⟩ := r0.form
  refine ctr_of (args := [.slice A0 p0.length c0, .int .i64 p1]) hm Try.func31 s31 rfl fun w0 σ hO Q hQ => ?_
  unfold zbf at hF
  have hL := Hp.le.refl τ
  show wpn _ _ a31.body _ _ _
  unfold a31
  dsimp only
  refine wpn_qa hO [] [(0, .slice A0 p0.length c0), (1, .int .i64 p1)] (ar (ar trivial)) fun j => ?_
  refine wpn_assoc ?_
  refine wpn_qa hO [] [(0, .slice A0 p0.length c0), (1, .int .i64 p1), (11, .bool ((decide (p1 < 0)) || (decide (p1 ≥ 16777216))))] (And.intro (And.intro rfl rfl) (fun _ => ar (ar (ar trivial)))) fun j => ?_
  rcases ite_some hF with ⟨hb3, hF⟩ | ⟨hb3, hF⟩
  · refine wpn_cT (congrArg Value.bool hb3) ?_
    refine wpn_assoc ?_
    refine wpn_qa hO [] [(4, .slice none 0 0), (5, .int .i64 1)] (ar (ar trivial)) fun j => ?_
    refine wpn_rt ?_
    have hO := hO.no
    have hO : Obs _ _ [_] := hO
    injection hF with hF
    subst hF
    exact hQ _ _ _ _ _ rfl hO hL ⟨_, _, rfl, rfl, (OwnO.nil _ _ _)⟩
  · refine wpn_cF (congrArg Value.bool hb3) ?_
    refine wpn_sk ?_
    refine wpn_lit (T := Ty.u8) (l := ([] : List UInt8)) (cs := []) hO rfl rfl rfl (by decide) fun _ σ o6 w7 hO => ?_
    obtain ⟨A4, c5, rfl, -⟩ := w7.form
    have hO : Obs _ _ [_] := hO
    refine wpn_q hO 1 [] [(1, .int .i64 p1), (12, .slice A4 ([] : List UInt8).length c5), (13, .slice A0 p0.length c0)] (ar (ar (ar trivial))) fun j => ?_
    obtain ⟨_, hr, hF⟩ := bind_some hF
    refine wpn_apl (T := Ty.u8) hO w7 (i := 0) rfl rfl rfl r0 hr (by decide) fun _ σ o10 w11 hO => ?_
    obtain ⟨A8, c9, rfl, -⟩ := w11.form
    have hO : Obs _ _ [_] := hO
    refine wpn_q hO 10 [] [(14, .slice A8 (([] : List UInt8) ++ p0).length c9), (17, .int .u8 (IntKind.u8.wrap (IntKind.i64.wrap (Int.tdiv p1 65536)))), (21, .int .u8 (IntKind.u8.wrap (Int.tmod (IntKind.i64.wrap (Int.tdiv p1 256)) 256))), (24, .int .u8 (IntKind.u8.wrap (Int.tmod p1 256)))] (ar (ar (ar (ar trivial)))) fun j => ?_
    obtain ⟨z12, hz12, hF⟩ := bind_some hF
    obtain ⟨z13, hz13, hF⟩ := bind_some hF
    obtain ⟨z14, hz14, hF⟩ := bind_some hF
    refine wpn_lit (T := Ty.u8) (l := ([z12, z13, z14] : List UInt8)) (cs := [.int .u8 (IntKind.u8.wrap (IntKind.i64.wrap (Int.tdiv p1 65536))), .int .u8 (IntKind.u8.wrap (Int.tmod (IntKind.i64.wrap (Int.tdiv p1 256)) 256)), .int .u8 (IntKind.u8.wrap (Int.tmod p1 256))]) hO rfl ⟨[.int .u8 (IntKind.u8.wrap (IntKind.i64.wrap (Int.tdiv p1 65536)))], _, rfl, (u8R hz12), ⟨[.int .u8 (IntKind.u8.wrap (Int.tmod (IntKind.i64.wrap (Int.tdiv p1 256)) 256))], _, rfl, (u8R hz13), ⟨[.int .u8 (IntKind.u8.wrap (Int.tmod p1 256))], _, rfl, (u8R hz14), rfl⟩⟩⟩ rfl (by decide) fun _ σ o17 w18 hO => ?_
    obtain ⟨A15, c16, rfl, -⟩ := w18.form
    have hO : Obs _ _ [_, _] := hO
    obtain ⟨_, hr, hF⟩ := bind_some hF
    refine wpn_apf (T := Ty.u8) u8_flat hO w11 (i := 0) rfl rfl rfl (w18.rd hO (i := 1) rfl) hr (by decide) fun _ σ o21 w22 hO => ?_
    obtain ⟨A19, c20, rfl, -⟩ := w22.form
    have hO : Obs _ _ [_, _] := hO
    refine wpn_qa hO [] [(4, .slice A19 ((([] : List UInt8) ++ p0) ++ ([z12, z13, z14] : List UInt8)).length c20), (5, .int .i64 0)] (ar (ar trivial)) fun j => ?_
    refine wpn_r1 ?_
    injection hF with hF
    subst hF
    have hO := hO.sel [0] (by decide)
    exact hQ _ _ _ _ _ rfl hO hL ⟨_, _, rfl, rfl, w22⟩
end Go.Proofs.Ytnaafaopdefigaa
