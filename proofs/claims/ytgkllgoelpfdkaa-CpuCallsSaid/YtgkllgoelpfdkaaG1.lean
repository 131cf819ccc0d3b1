import Derived.Test.YtgkllgoelpfdkaaG0
namespace Go.Proofs.Ytgkllgoelpfdkaa
open Go.Ab Go.RowKit
set_option linter.unusedVariables false
set_option linter.unusedSimpArgs false
set_option maxRecDepth 10000
set_option maxHeartbeats 1000000
theorem zk8 {τ : Hp} {v0 : Value} {p0 : (List UInt8)} {o0 : Ob} {q1 : zb} {bm1 : Nat} {af0 : Addr} (wp0 : zd Ty.u8 5 τ v0 p0 o0) (mf0 : At τ af0 [.func (.func 47) #[] #[]]) {rr : (List UInt8) × zb} (hF : zfY p0 q1 = some rr) :
  Ctr Try.prog 77 #[v0, .pointer (some ⟨bm1, 0, none⟩), .pointer (some af0)] τ [o0, some (bm1, ⟨[.int .u8 q1.Kind.toNat, .int .u8 q1.Op.toNat, .int .i64 q1.R, .int .i64 q1.S, .int .i64 q1.T, .int .i64 q1.N, .int .i64 q1.M], 25, 7, true⟩)] (fun v τ' vs' => ∃ (v0 : Value) (o0 : Ob), v = v0 ∧ vs' = [o0, some (bm1, ⟨[.int .u8 rr.2.Kind.toNat, .int .u8 rr.2.Op.toNat, .int .i64 rr.2.R, .int .i64 rr.2.S, .int .i64 rr.2.T, .int .i64 rr.2.N, .int .i64 rr.2.M], 25, 7, true⟩)] ∧ zd Ty.u8 5 τ' v0 rr.1 o0) := by
 obtain ⟨A0, c0, rfl, -⟩ := wp0.form
 refine zu (args := [.slice A0 p0.length c0, .pointer (some ⟨bm1, 0, none⟩), .pointer (some af0)]) hm Try.func77 s77 rfl fun w0 σ hO Q hQ => ?_
 unfold zfY at hF
 have hL := Hp.le.refl τ
 show wpn _ _ a77.body _ _ _
 unfold a77
 dsimp only
 refine za hO [] [(0, .slice A0 p0.length c0), (1, znY bm1), (2, .pointer (some af0))] znJ fun j => ?_
 refine zc hO 1 [] [(1, znY bm1), (2, .pointer (some af0)), (6, .slice A0 p0.length c0)] znJ fun j => ?_
 refine zO rfl (mf0.le hO.base).fst ?_
 refine zc hO 1 [] [(1, znY bm1), (6, .slice A0 p0.length c0), (7, .func (.func 47) #[] #[]), (8, znY bm1)] znK fun j => ?_
 obtain ⟨c3, h4, hF⟩ := bind_some hF
 refine zch (hs := [_]) (vs := [_]) rfl (by kernel_rfl) hO (zm7 (q0 := (⟨q1.Kind, q1.Op, q1.R, q1.S, q1.T, q1.N, q1.M⟩ : zb)) h4) rfl fun _ σ _ _ hO h5 h6 => ?_
 have hL := hL.trans h5
 have wp0 := wp0.le h5
 obtain ⟨rfl, rfl⟩ := h6
 have hO : Obs _ _ [_, _] := hO
 obtain ⟨z7, hz7, hF⟩ := bind_some hF
 obtain ⟨_, hr12, hF⟩ := bind_some hF
 refine zcv (T := Ty.u8) (y := z7) hO wp0 (i := 0) rfl rfl (fun _ => rfl) rfl (u8R hz7) rfl hr12 (by decide) fun u _ σ o10 w11 hO => ?_
 obtain ⟨A8, c9, rfl, -⟩ := w11.form
 have hO : Obs _ _ [_, _] := hO
 refine za hO [] [(1, znY bm1), (5, .slice A8 (p0 ++ [z7]).length c9)] znI fun j => ?_
 refine zo ?_
 injection hF with hF
 subst hF
 exact hQ _ _ _ _ _ rfl hO hL ⟨_, _, rfl, rfl, w11⟩
theorem zkj {τ : Hp} {v0 : Value} {p0 : (List UInt8)} {o0 : Ob} {q1 : zb} {bm1 : Nat} {af0 : Addr} (wp0 : zd Ty.u8 5 τ v0 p0 o0) (mf0 : At τ af0 [.func (.func 52) #[] #[]]) {rr : (List UInt8) × zb} (hF : zfD p0 q1 = some rr) :
  Ctr Try.prog 77 #[v0, .pointer (some ⟨bm1, 0, none⟩), .pointer (some af0)] τ [o0, some (bm1, ⟨[.int .u8 q1.Kind.toNat, .int .u8 q1.Op.toNat, .int .i64 q1.R, .int .i64 q1.S, .int .i64 q1.T, .int .i64 q1.N, .int .i64 q1.M], 25, 7, true⟩)] (fun v τ' vs' => ∃ (v0 : Value) (o0 : Ob), v = v0 ∧ vs' = [o0, some (bm1, ⟨[.int .u8 rr.2.Kind.toNat, .int .u8 rr.2.Op.toNat, .int .i64 rr.2.R, .int .i64 rr.2.S, .int .i64 rr.2.T, .int .i64 rr.2.N, .int .i64 rr.2.M], 25, 7, true⟩)] ∧ zd Ty.u8 5 τ' v0 rr.1 o0) := by
 obtain ⟨A0, c0, rfl, -⟩ := wp0.form
 refine zu (args := [.slice A0 p0.length c0, .pointer (some ⟨bm1, 0, none⟩), .pointer (some af0)]) hm Try.func77 s77 rfl fun w0 σ hO Q hQ => ?_
 unfold zfD at hF
 have hL := Hp.le.refl τ
 show wpn _ _ a77.body _ _ _
 unfold a77
 dsimp only
 refine za hO [] [(0, .slice A0 p0.length c0), (1, znY bm1), (2, .pointer (some af0))] znJ fun j => ?_
 refine zc hO 1 [] [(1, znY bm1), (2, .pointer (some af0)), (6, .slice A0 p0.length c0)] znJ fun j => ?_
 refine zO rfl (mf0.le hO.base).fst ?_
 refine zc hO 1 [] [(1, znY bm1), (6, .slice A0 p0.length c0), (7, .func (.func 52) #[] #[]), (8, znY bm1)] znK fun j => ?_
 obtain ⟨c3, h4, hF⟩ := bind_some hF
 refine zch (hs := [_]) (vs := [_]) rfl (by kernel_rfl) hO (zmW (q0 := (⟨q1.Kind, q1.Op, q1.R, q1.S, q1.T, q1.N, q1.M⟩ : zb)) h4) rfl fun _ σ _ _ hO h5 h6 => ?_
 have hL := hL.trans h5
 have wp0 := wp0.le h5
 obtain ⟨rfl, rfl⟩ := h6
 have hO : Obs _ _ [_, _] := hO
 obtain ⟨z7, hz7, hF⟩ := bind_some hF
 obtain ⟨_, hr12, hF⟩ := bind_some hF
 refine zcv (T := Ty.u8) (y := z7) hO wp0 (i := 0) rfl rfl (fun _ => rfl) rfl (u8R hz7) rfl hr12 (by decide) fun u _ σ o10 w11 hO => ?_
 obtain ⟨A8, c9, rfl, -⟩ := w11.form
 have hO : Obs _ _ [_, _] := hO
 refine za hO [] [(1, znY bm1), (5, .slice A8 (p0 ++ [z7]).length c9)] znI fun j => ?_
 refine zo ?_
 injection hF with hF
 subst hF
 exact hQ _ _ _ _ _ rfl hO hL ⟨_, _, rfl, rfl, w11⟩
theorem zlM {τ : Hp} {v0 : Value} {p0 : (List UInt8)} {o0 : Ob} {q1 : zb} {bm1 : Nat} {af0 : Addr} (wp0 : zd Ty.u8 5 τ v0 p0 o0) (mf0 : At τ af0 [.func (.func 55) #[] #[]]) {rr : (List UInt8) × zb} (hF : zfJ p0 q1 = some rr) :
  Ctr Try.prog 77 #[v0, .pointer (some ⟨bm1, 0, none⟩), .pointer (some af0)] τ [o0, some (bm1, ⟨[.int .u8 q1.Kind.toNat, .int .u8 q1.Op.toNat, .int .i64 q1.R, .int .i64 q1.S, .int .i64 q1.T, .int .i64 q1.N, .int .i64 q1.M], 25, 7, true⟩)] (fun v τ' vs' => ∃ (v0 : Value) (o0 : Ob), v = v0 ∧ vs' = [o0, some (bm1, ⟨[.int .u8 rr.2.Kind.toNat, .int .u8 rr.2.Op.toNat, .int .i64 rr.2.R, .int .i64 rr.2.S, .int .i64 rr.2.T, .int .i64 rr.2.N, .int .i64 rr.2.M], 25, 7, true⟩)] ∧ zd Ty.u8 5 τ' v0 rr.1 o0) := by
 obtain ⟨A0, c0, rfl, -⟩ := wp0.form
 refine zu (args := [.slice A0 p0.length c0, .pointer (some ⟨bm1, 0, none⟩), .pointer (some af0)]) hm Try.func77 s77 rfl fun w0 σ hO Q hQ => ?_
 unfold zfJ at hF
 have hL := Hp.le.refl τ
 show wpn _ _ a77.body _ _ _
 unfold a77
 dsimp only
 refine za hO [] [(0, .slice A0 p0.length c0), (1, znY bm1), (2, .pointer (some af0))] znJ fun j => ?_
 refine zc hO 1 [] [(1, znY bm1), (2, .pointer (some af0)), (6, .slice A0 p0.length c0)] znJ fun j => ?_
 refine zO rfl (mf0.le hO.base).fst ?_
 refine zc hO 1 [] [(1, znY bm1), (6, .slice A0 p0.length c0), (7, .func (.func 55) #[] #[]), (8, znY bm1)] znK fun j => ?_
 obtain ⟨c3, h4, hF⟩ := bind_some hF
 refine zch (hs := [_]) (vs := [_]) rfl (by kernel_rfl) hO (zlN (q0 := (⟨q1.Kind, q1.Op, q1.R, q1.S, q1.T, q1.N, q1.M⟩ : zb)) h4) rfl fun _ σ _ _ hO h5 h6 => ?_
 have hL := hL.trans h5
 have wp0 := wp0.le h5
 obtain ⟨rfl, rfl⟩ := h6
 have hO : Obs _ _ [_, _] := hO
 obtain ⟨z7, hz7, hF⟩ := bind_some hF
 obtain ⟨_, hr12, hF⟩ := bind_some hF
 refine zcv (T := Ty.u8) (y := z7) hO wp0 (i := 0) rfl rfl (fun _ => rfl) rfl (u8R hz7) rfl hr12 (by decide) fun u _ σ o10 w11 hO => ?_
 obtain ⟨A8, c9, rfl, -⟩ := w11.form
 have hO : Obs _ _ [_, _] := hO
 refine za hO [] [(1, znY bm1), (5, .slice A8 (p0 ++ [z7]).length c9)] znI fun j => ?_
 refine zo ?_
 injection hF with hF
 subst hF
 exact hQ _ _ _ _ _ rfl hO hL ⟨_, _, rfl, rfl, w11⟩
theorem znn {τ : Hp} {v0 : Value} {p0 : (List UInt8)} {o0 : Ob} {q1 : zb} {bm1 : Nat} (wp0 : zd Ty.u8 5 τ v0 p0 o0) {rr : (List UInt8) × zb} (hF : zgc p0 q1 = some rr) :
  Ctr Try.prog 58 #[v0, .pointer (some ⟨bm1, 0, none⟩)] τ [o0, some (bm1, ⟨[.int .u8 q1.Kind.toNat, .int .u8 q1.Op.toNat, .int .i64 q1.R, .int .i64 q1.S, .int .i64 q1.T, .int .i64 q1.N, .int .i64 q1.M], 25, 7, true⟩)] (fun v τ' vs' => ∃ (v0 : Value) (o0 : Ob), v = v0 ∧ vs' = [o0, some (bm1, ⟨[.int .u8 rr.2.Kind.toNat, .int .u8 rr.2.Op.toNat, .int .i64 rr.2.R, .int .i64 rr.2.S, .int .i64 rr.2.T, .int .i64 rr.2.N, .int .i64 rr.2.M], 25, 7, true⟩)] ∧ zd Ty.u8 5 τ' v0 rr.1 o0) := by
 obtain ⟨A0, c0, rfl, -⟩ := wp0.form
 refine zu (args := [.slice A0 p0.length c0, .pointer (some ⟨bm1, 0, none⟩)]) hm Try.func58 s58 rfl fun w0 σ hO Q hQ => ?_
 unfold zgc at hF
 have hL := Hp.le.refl τ
 show wpn _ _ a58.body _ _ _
 unfold a58
 dsimp only
 refine za hO [] [(0, .slice A0 p0.length c0), (1, znY bm1)] znI fun j => ?_
 refine zc hO 6 [1] [(1, znY bm1), (5, .slice A0 p0.length c0), (10, .int .u64 (IntKind.u64.wrap q1.M))] (And.intro (And.intro rfl rfl) znJ) fun j => ?_
 obtain ⟨_, h4, r3, hO⟩ := wp0.share hO (i := 0) rfl
 have hL := hL.trans h4
 have hO : Obs _ _ [_, _] := hO
 obtain ⟨c5, h6, hF⟩ := bind_some hF
 refine zt hO (ziz r3 h6) rfl fun _ σ _ _ hO h7 h8 => ?_
 have hL := hL.trans h7
 have r3 := r3.le h7
 obtain ⟨v9, o12, rfl, rfl, w13⟩ := h8
 obtain ⟨A10, c11, rfl, -⟩ := w13.form
 have hO : Obs _ _ [_, _, _] := hO
 refine za hO [] [(1, znY bm1), (4, .slice A10 c5.length c11)] znI fun j => ?_
 refine zo ?_
 injection hF with hF
 subst hF
 have hO := hO.sel [2, 1] (by decide)
 exact hQ _ _ _ _ _ rfl hO hL ⟨_, _, rfl, rfl, w13⟩
theorem znh {τ : Hp} {v0 : Value} {p0 : (List UInt8)} {o0 : Ob} {q1 : zb} {bm1 : Nat} (wp0 : zd Ty.u8 5 τ v0 p0 o0) {rr : (List UInt8) × zb} (hF : zfA p0 q1 = some rr) :
  Ctr Try.prog 63 #[v0, .pointer (some ⟨bm1, 0, none⟩)] τ [o0, some (bm1, ⟨[.int .u8 q1.Kind.toNat, .int .u8 q1.Op.toNat, .int .i64 q1.R, .int .i64 q1.S, .int .i64 q1.T, .int .i64 q1.N, .int .i64 q1.M], 25, 7, true⟩)] (fun v τ' vs' => ∃ (v0 : Value) (o0 : Ob), v = v0 ∧ vs' = [o0, some (bm1, ⟨[.int .u8 rr.2.Kind.toNat, .int .u8 rr.2.Op.toNat, .int .i64 rr.2.R, .int .i64 rr.2.S, .int .i64 rr.2.T, .int .i64 rr.2.N, .int .i64 rr.2.M], 25, 7, true⟩)] ∧ zd Ty.u8 5 τ' v0 rr.1 o0) := by
 obtain ⟨A0, c0, rfl, -⟩ := wp0.form
 refine zu (args := [.slice A0 p0.length c0, .pointer (some ⟨bm1, 0, none⟩)]) hm Try.func63 s63 rfl fun w0 σ hO Q hQ => ?_
 unfold zfA at hF
 have hL := Hp.le.refl τ
 show wpn _ _ a63.body _ _ _
 unfold a63
 dsimp only
 refine za hO [] [(0, .slice A0 p0.length c0), (1, znY bm1)] znI fun j => ?_
 refine zc hO 5 [1] [(1, znY bm1), (8, .slice A0 p0.length c0), (12, znX q1.N)] (And.intro (And.intro rfl rfl) znJ) fun j => ?_
 obtain ⟨_, h4, r3, hO⟩ := wp0.share hO (i := 0) rfl
 have hL := hL.trans h4
 have hO : Obs _ _ [_, _] := hO
 obtain ⟨c5, h6, hF⟩ := bind_some hF
 refine zt hO (zmB r3 h6) rfl fun _ σ _ _ hO h7 h8 => ?_
 have hL := hL.trans h7
 have r3 := r3.le h7
 obtain ⟨v9, o12, rfl, rfl, w13⟩ := h8
 obtain ⟨A10, c11, rfl, -⟩ := w13.form
 have hO : Obs _ _ [_, _, _] := hO
 refine za hO [] [(1, znY bm1), (5, .slice A10 c5.1.length c11)] znI fun j => ?_
 refine za hO [] [(1, znY bm1), (4, .slice A10 c5.1.length c11)] znI fun j => ?_
 refine zo ?_
 injection hF with hF
 subst hF
 have hO := hO.sel [2, 1] (by decide)
 exact hQ _ _ _ _ _ rfl hO hL ⟨_, _, rfl, rfl, w13⟩
theorem zki {τ : Hp} {v0 : Value} {p0 : (List UInt8)} {o0 : Ob} {q1 : zb} {bm1 : Nat} {af0 : Addr} (wp0 : zd Ty.u8 5 τ v0 p0 o0) (mf0 : At τ af0 [.func (.func 68) #[] #[]]) {rr : (List UInt8) × zb} (hF : zfU p0 q1 = some rr) :
  Ctr Try.prog 77 #[v0, .pointer (some ⟨bm1, 0, none⟩), .pointer (some af0)] τ [o0, some (bm1, ⟨[.int .u8 q1.Kind.toNat, .int .u8 q1.Op.toNat, .int .i64 q1.R, .int .i64 q1.S, .int .i64 q1.T, .int .i64 q1.N, .int .i64 q1.M], 25, 7, true⟩)] (fun v τ' vs' => ∃ (v0 : Value) (o0 : Ob), v = v0 ∧ vs' = [o0, some (bm1, ⟨[.int .u8 rr.2.Kind.toNat, .int .u8 rr.2.Op.toNat, .int .i64 rr.2.R, .int .i64 rr.2.S, .int .i64 rr.2.T, .int .i64 rr.2.N, .int .i64 rr.2.M], 25, 7, true⟩)] ∧ zd Ty.u8 5 τ' v0 rr.1 o0) := by
 obtain ⟨A0, c0, rfl, -⟩ := wp0.form
 refine zu (args := [.slice A0 p0.length c0, .pointer (some ⟨bm1, 0, none⟩), .pointer (some af0)]) hm Try.func77 s77 rfl fun w0 σ hO Q hQ => ?_
 unfold zfU at hF
 have hL := Hp.le.refl τ
 show wpn _ _ a77.body _ _ _
 unfold a77
 dsimp only
 refine za hO [] [(0, .slice A0 p0.length c0), (1, znY bm1), (2, .pointer (some af0))] znJ fun j => ?_
 refine zc hO 1 [] [(1, znY bm1), (2, .pointer (some af0)), (6, .slice A0 p0.length c0)] znJ fun j => ?_
 refine zO rfl (mf0.le hO.base).fst ?_
 refine zc hO 1 [] [(1, znY bm1), (6, .slice A0 p0.length c0), (7, .func (.func 68) #[] #[]), (8, znY bm1)] znK fun j => ?_
 obtain ⟨c3, h4, hF⟩ := bind_some hF
 refine zch (hs := [_]) (vs := [_]) rfl (by kernel_rfl) hO (zng (q0 := (⟨q1.Kind, q1.Op, q1.R, q1.S, q1.T, q1.N, q1.M⟩ : zb)) h4) rfl fun _ σ _ _ hO h5 h6 => ?_
 have hL := hL.trans h5
 have wp0 := wp0.le h5
 obtain ⟨rfl, rfl⟩ := h6
 have hO : Obs _ _ [_, _] := hO
 obtain ⟨z7, hz7, hF⟩ := bind_some hF
 obtain ⟨_, hr12, hF⟩ := bind_some hF
 refine zcv (T := Ty.u8) (y := z7) hO wp0 (i := 0) rfl rfl (fun _ => rfl) rfl (u8R hz7) rfl hr12 (by decide) fun u _ σ o10 w11 hO => ?_
 obtain ⟨A8, c9, rfl, -⟩ := w11.form
 have hO : Obs _ _ [_, _] := hO
 refine za hO [] [(1, znY bm1), (5, .slice A8 (p0 ++ [z7]).length c9)] znI fun j => ?_
 refine zo ?_
 injection hF with hF
 subst hF
 exact hQ _ _ _ _ _ rfl hO hL ⟨_, _, rfl, rfl, w11⟩
theorem ziT {τ : Hp} {v0 : Value} {p0 : (List UInt8)} {o0 : Ob} {q1 : zb} {bm1 : Nat} (wp0 : zd Ty.u8 5 τ v0 p0 o0) {rr : (List UInt8) × zb} (hF : zdJ p0 q1 = some rr) :
  Ctr Try.prog 42 #[v0, .pointer (some ⟨bm1, 0, none⟩)] τ [o0, some (bm1, ⟨[.int .u8 q1.Kind.toNat, .int .u8 q1.Op.toNat, .int .i64 q1.R, .int .i64 q1.S, .int .i64 q1.T, .int .i64 q1.N, .int .i64 q1.M], 25, 7, true⟩)] (fun v τ' vs' => ∃ (v0 : Value) (o0 : Ob), v = v0 ∧ vs' = [o0, some (bm1, ⟨[.int .u8 rr.2.Kind.toNat, .int .u8 rr.2.Op.toNat, .int .i64 rr.2.R, .int .i64 rr.2.S, .int .i64 rr.2.T, .int .i64 rr.2.N, .int .i64 rr.2.M], 25, 7, true⟩)] ∧ zd Ty.u8 5 τ' v0 rr.1 o0) := by
 obtain ⟨A0, c0, rfl, -⟩ := wp0.form
 refine zu (args := [.slice A0 p0.length c0, .pointer (some ⟨bm1, 0, none⟩)]) hm Try.func42 s42 rfl fun w0 σ hO Q hQ => ?_
 unfold zdJ at hF
 have hL := Hp.le.refl τ
 show wpn _ _ a42.body _ _ _
 unfold a42
 dsimp only
 refine za hO [] [(0, .slice A0 p0.length c0), (1, znY bm1)] znI fun j => ?_
 refine zc hO 5 [1] [(1, znY bm1), (5, .slice A0 p0.length c0), (9, znX q1.N)] (And.intro (And.intro rfl rfl) znJ) fun j => ?_
 obtain ⟨_, h4, r3, hO⟩ := wp0.share hO (i := 0) rfl
 have hL := hL.trans h4
 have hO : Obs _ _ [_, _] := hO
 obtain ⟨c5, h6, hF⟩ := bind_some hF
 refine zt hO (zja r3 h6) rfl fun _ σ _ _ hO h7 h8 => ?_
 have hL := hL.trans h7
 have r3 := r3.le h7
 obtain ⟨v9, o12, rfl, rfl, w13⟩ := h8
 obtain ⟨A10, c11, rfl, -⟩ := w13.form
 have hO : Obs _ _ [_, _, _] := hO
 refine za hO [] [(1, znY bm1), (4, .slice A10 c5.length c11)] znI fun j => ?_
 refine zo ?_
 injection hF with hF
 subst hF
 have hO := hO.sel [2, 1] (by decide)
 exact hQ _ _ _ _ _ rfl hO hL ⟨_, _, rfl, rfl, w13⟩
theorem zlC {τ : Hp} {x : zn} {u0 u1 u2 : Value} (hx : zbe τ x u0 u1 u2) {v0 : Value} {p0 : (List UInt8)} {o0 : Ob} {q1 : zb} {bm1 : Nat} (wp0 : zd Ty.u8 5 τ v0 p0 o0) {rr : (List UInt8) × zb} (hF : zgV x p0 q1 = some rr) :
  FnC Try.prog u1 #[v0, .pointer (some ⟨bm1, 0, none⟩)] τ [o0, some (bm1, ⟨[.int .u8 q1.Kind.toNat, .int .u8 q1.Op.toNat, .int .i64 q1.R, .int .i64 q1.S, .int .i64 q1.T, .int .i64 q1.N, .int .i64 q1.M], 25, 7, true⟩)] (fun v τ' vs' => ∃ (v0 : Value) (o0 : Ob), v = v0 ∧ vs' = [o0, some (bm1, ⟨[.int .u8 rr.2.Kind.toNat, .int .u8 rr.2.Op.toNat, .int .i64 rr.2.R, .int .i64 rr.2.S, .int .i64 rr.2.T, .int .i64 rr.2.N, .int .i64 rr.2.M], 25, 7, true⟩)] ∧ zd Ty.u8 5 τ' v0 rr.1 o0) := by
 cases x with
 | c_one_1 => obtain ⟨a1_0, a2_0, rfl, rfl, rfl, m0, m1⟩ := hx; exact ⟨77, #[], #[.pointer (some a1_0)], _, rfl, by kernel_rfl, rfl, zmx wp0 m0 hF⟩
 | c_both_1 => obtain ⟨a1_0, a2_0, rfl, rfl, rfl, m0, m1⟩ := hx; exact ⟨77, #[], #[.pointer (some a1_0)], _, rfl, by kernel_rfl, rfl, zk8 wp0 m0 hF⟩
 | c_op_1 x0 x1 => obtain ⟨a0_0, a0_1, a1_0, a2_0, rfl, rfl, rfl, m0, m1, m2, m3⟩ := hx; exact ⟨77, #[], #[.pointer (some a1_0)], _, rfl, by kernel_rfl, rfl, zkj wp0 m2 hF⟩
 | c_third_1 => obtain ⟨a1_0, a2_0, rfl, rfl, rfl, m0, m1⟩ := hx; exact ⟨77, #[], #[.pointer (some a1_0)], _, rfl, by kernel_rfl, rfl, zlM wp0 m0 hF⟩
 | c_bound_1 => obtain ⟨rfl, rfl, rfl⟩ := hx; exact ⟨58, #[], #[], _, rfl, by kernel_rfl, rfl, znn wp0 hF⟩
 | c_to_1 => obtain ⟨rfl, rfl, rfl⟩ := hx; exact ⟨63, #[], #[], _, rfl, by kernel_rfl, rfl, znh wp0 hF⟩
 | c_how_1 => obtain ⟨a1_0, a2_0, rfl, rfl, rfl, m0, m1⟩ := hx; exact ⟨77, #[], #[.pointer (some a1_0)], _, rfl, by kernel_rfl, rfl, zki wp0 m0 hF⟩
 | c_parts_1 => obtain ⟨rfl, rfl, rfl⟩ := hx; exact ⟨42, #[], #[], _, rfl, by kernel_rfl, rfl, ziT wp0 hF⟩
 | c_within => obtain ⟨rfl, rfl, rfl⟩ := hx; exact ⟨42, #[], #[], _, rfl, by kernel_rfl, rfl, ziT wp0 hF⟩
theorem zj1 {τ : Hp} {p0 : zb}  {rr : (List UInt8) × Bool} (hF : zcR p0 = some rr) :
  Ctr Try.prog 12 #[.agg #[.int .u8 p0.Kind.toNat, .int .u8 p0.Op.toNat, .int .i64 p0.R, .int .i64 p0.S, .int .i64 p0.T, .int .i64 p0.N, .int .i64 p0.M]] τ [] (fun v τ' vs' => ∃ (v0 : Value) (o0 : Ob), v = .tuple #[v0, .bool rr.2] ∧ vs' = [o0] ∧ zd Ty.u8 5 τ' v0 rr.1 o0) := by
 refine zu (args := [.agg #[.int .u8 p0.Kind.toNat, .int .u8 p0.Op.toNat, .int .i64 p0.R, .int .i64 p0.S, .int .i64 p0.T, .int .i64 p0.N, .int .i64 p0.M]]) hm Try.func12 s12 rfl fun w0 σ hO Q hQ => ?_
 unfold zcR at hF
 have hL := Hp.le.refl τ
 show wpn _ _ a12.body _ _ _
 unfold a12
 dsimp only
 refine zbd (n := 7) hO rfl rfl fun b2 σ hO => ?_
 have hO : Obs _ _ [_] := hO
 refine za hO [] [(1, znY b2)] znH fun j => ?_
 refine zc hO 2 [0] [(1, znY b2), (11, .int .u8 (p0.Kind.toNat : Int))] (And.intro (And.intro rfl rfl) znI) fun j => ?_
 obtain ⟨c3, h4, hF⟩ := bind_some hF
 refine zt hO (zi9 h4) rfl fun _ σ _ _ hO h5 h6 => ?_
 have hL := hL.trans h5
 obtain ⟨v7, o10, rfl, rfl, w11⟩ := h6
 obtain ⟨A8, c9, rfl, -⟩ := w11.form
 have hO : Obs _ _ [_, _] := hO
 refine za hO [] [(1, znY b2), (4, .slice A8 c3.1.length c9), (5, .bool c3.2)] znJ fun j => ?_
 refine zf (za hO [] [(1, znY b2), (4, .slice A8 c3.1.length c9), (16, .bool (!c3.2))] znJ fun j => ?_)
 rcases zi hF with ⟨hb12, hF⟩ | ⟨hb12, hF⟩
 ·refine zm (congrArg Value.bool hb12) ?_
  refine zf (za hO [] [(2, .slice none 0 0), (3, .bool false)] znI fun j => ?_)
  refine zx ?_
  have hO := hO.no
  have hO : Obs _ _ [_, _, _] := hO
  injection hF with hF
  subst hF
  have hO := hO.sel [2] (by decide)
  exact hQ _ _ _ _ _ rfl hO hL ⟨_, _, rfl, rfl, (zd.nil _ _ _)⟩
 ·refine zj (congrArg Value.bool hb12) ?_
  refine zv (zc hO 2 [0] [(1, znY b2), (4, .slice A8 c3.1.length c9), (18, .int .u8 (p0.Kind.toNat : Int))] (And.intro (And.intro rfl rfl) znJ) fun j => ?_)
  refine zbv (T := Ty.u8) (l := ([p0.Kind] : List UInt8)) (cs := [.int .u8 (p0.Kind.toNat : Int)]) hO rfl ⟨[.int .u8 (p0.Kind.toNat : Int)], _, rfl, rfl, rfl⟩ rfl (by decide) fun _ σ o15 w16 hO => ?_
  obtain ⟨A13, c14, rfl, -⟩ := w16.form
  have hO : Obs _ _ [_, _, _] := hO
  refine za hO [] [(1, znY b2), (4, .slice A8 c3.1.length c9), (6, .slice A13 ([p0.Kind] : List UInt8).length c14)] znJ fun j => ?_
  refine zf (za hO [] [(1, znY b2), (6, .slice A13 ([p0.Kind] : List UInt8).length c14), (20, .slice A8 c3.1.length c9), (21, znX (c3.1.length : Int)), (22, znX 0)] znL fun j => ?_)
  refine zX ?_
  have hO := hO.sel [0, 2, 1] (by decide)
  refine zb0 (fun (n : Nat) e' σ' => ∃ (x60 : UInt8) (x61 : UInt8) (x62 : Int) (x63 : Int) (x64 : Int) (x65 : Int) (x66 : Int) (A67 : Option Addr) (c68 : Nat) (o69 : Ob) (x70 : List UInt8) (A72 : Option Addr) (c73 : Nat) (o74 : Ob) (x75 : List zn) (x77 : Int) (τ' : Hp), agr [(1, znY b2), (6, .slice A67 x70.length c68), (20, .slice A72 x75.length c73), (21, znX (c3.1.length : Int)), (22, znX x77)] e' ∧ Obs τ' σ' [some (b2, ⟨[.int .u8 (x60.toNat : Int), .int .u8 (x61.toNat : Int), .int .i64 x62, .int .i64 x63, .int .i64 x64, .int .i64 x65, .int .i64 x66], 25, 7, true⟩), o69, o74] ∧ Hp.le τ τ' ∧ zd Ty.u8 5 τ' (.slice A67 x70.length c68) x70 o69 ∧ zd zbA 56 τ' (.slice A72 x75.length c73) x75 o74 ∧ zeZ c3 n x60 x61 x62 x63 x64 x65 x66 x70 x75 x77 = some rr) big ⟨p0.Kind, p0.Op, p0.R, p0.S, p0.T, p0.N, p0.M, A13, c14, o15, ([p0.Kind] : List UInt8), A8, c9, o10, c3.1, 0, _, znW znK, hO, hL, w16, w11, hF⟩ ?_
  clear hF hO hL
  rintro n111 e σ ⟨x60, x61, x62, x63, x64, x65, x66, A67, c68, o69, x70, A72, c73, o74, x75, x77, _, hA, hO, hL, w71, w76, hF⟩
  rw [← zG _ _ hA]
  cases n111 with
  | zero => exact nomatch (show none = some rr from hF)
  | succ n111 =>
   replace hF : zeI (zeZ c3 n111) c3 x60 x61 x62 x63 x64 x65 x66 x70 x75 x77 = some rr := hF
   unfold zeI at hF
   refine za hO [] [(1, znY b2), (6, .slice A67 x70.length c68), (20, .slice A72 x75.length c73), (21, znX (c3.1.length : Int)), (22, znX x77), (23, .bool (decide (x77 < (c3.1.length : Int))))] znM fun j => ?_
   rcases zi hF with ⟨hb112, hF⟩ | ⟨hb112, hF⟩
   ·refine zm (congrArg Value.bool hb112) ?_
    refine zv (zX ?_)
    obtain ⟨y113, g114, hF⟩ := bind_some hF
    refine zdu (T := zbA) hO w76 (i := 2) rfl rfl rfl g114 (by decide) fun a115 _ k116 m117 i118 => ?_
    have k119 := k116
    obtain ⟨f121, a122, c123, f124, a125, c126, f127, a128, c129, rfl, r120⟩ := k119
    refine zO rfl (m117.all rfl) ?_
    refine z5 hO fun b130 σ hO => ?_
    have hO : Obs _ _ [_, _, _, _] := hO
    refine zB hO (i := 3) rfl (off := 0) rfl rfl rfl rfl (Nat.le_of_ble_eq_true rfl) rfl fun σ hO => ?_
    have hO : Obs _ _ [_, _, _, _] := hO
    refine zg (zf (zc hO 2 [3] [(1, znY b2), (6, .slice A67 x70.length c68), (8, znY b130), (20, .slice A72 x75.length c73), (21, znX (c3.1.length : Int)), (22, znX x77), (27, .func f121 a122 c123)] (And.intro (And.intro rfl rfl) znN) fun j => ?_))
    obtain ⟨c131, h132, hF⟩ := bind_some hF
    have hO := hO.sel [1, 2, 3, 0] (by decide)
    refine zhY (hs := [_, _, _]) (vs := [_]) rfl hO (zmn r120 h132) rfl fun _ σ _ _ hO h133 h134 => ?_
    have hL := hL.trans h133
    have w71 := w71.le h133
    have w76 := w76.le h133
    have r120 := r120.le h133
    obtain ⟨rfl, rfl⟩ := h134
    have hO : Obs _ _ [_, _, _, _] := hO
    refine za hO [] [(1, znY b2), (6, .slice A67 x70.length c68), (8, znY b130), (20, .slice A72 x75.length c73), (21, znX (c3.1.length : Int)), (22, znX x77), (29, .bool (!c131.1))] znN fun j => ?_
    rcases zi hF with ⟨hb135, hF⟩ | ⟨hb135, hF⟩
    ·refine zm (congrArg Value.bool hb135) ?_
     refine zf (za hO [] [(2, .slice none 0 0), (3, .bool false)] znI fun j => ?_)
     refine zx (zP (zM (zM (zP (zM ?_)))))
     have hO := hO.no
     have hO : Obs _ _ [_, _, _, _, _] := hO
     injection hF with hF
     subst hF
     have hO := hO.sel [4] (by decide)
     exact hQ _ _ _ _ _ rfl hO hL ⟨_, _, rfl, rfl, (zd.nil _ _ _)⟩
    ·refine zj (congrArg Value.bool hb135) ?_
     refine zv (zT (zc hO 3 [2] [(1, znY b2), (20, .slice A72 x75.length c73), (21, znX (c3.1.length : Int)), (22, znX x77), (31, .func f124 a125 c126), (32, .slice A67 x70.length c68)] (And.intro (And.intro rfl rfl) znM) fun j => ?_))
     obtain ⟨c136, h137, hF⟩ := bind_some hF
     have hO := hO.sel [1, 2, 0, 3] (by decide)
     refine zhY (hs := [_, _]) (vs := [_, _]) rfl hO (zlC r120 w71 h137) rfl fun _ σ _ _ hO h138 h139 => ?_
     have hL := hL.trans h138
     have w76 := w76.le h138
     have r120 := r120.le h138
     obtain ⟨v140, o143, rfl, rfl, w144⟩ := h139
     obtain ⟨A141, c142, rfl, -⟩ := w144.form
     have hO : Obs _ _ [_, _, _, _] := hO
     refine za hO [] [(1, znY b2), (6, .slice A141 c136.1.length c142), (20, .slice A72 x75.length c73), (21, znX (c3.1.length : Int)), (22, znX x77)] znL fun j => ?_
     refine zk (zV (zs (zT (za hO [] [(1, znY b2), (6, .slice A141 c136.1.length c142), (20, .slice A72 x75.length c73), (21, znX (c3.1.length : Int)), (22, znX (IntKind.i64.wrap (x77 + 1)))] znL fun j => ?_))))
     refine zk (zs ?_)
     have hO := hO.sel [3, 2, 0] (by decide)
     exact ⟨n111, Nat.lt_succ_self _, c136.2.Kind, c136.2.Op, c136.2.R, c136.2.S, c136.2.T, c136.2.N, c136.2.M, A141, c142, o143, c136.1, A72, c73, o74, x75, (IntKind.i64.wrap (x77 + 1)), _, znW znK, hO, hL, w144, w76, hF⟩
   ·refine zj (congrArg Value.bool hb112) ?_
    refine zbV (zbZ (zb2 (zs (za hO [] [(2, .slice A67 x70.length c68), (3, .bool true)] znI fun j => ?_))))
    refine zo ?_
    injection hF with hF
    subst hF
    have hO := hO.sel [1] (by decide)
    exact hQ _ _ _ _ _ rfl hO hL ⟨_, _, rfl, rfl, w71⟩
theorem zmS {τ : Hp} {v0 : Value} {p0 : (List UInt8)} {p1 : Int} {q2 : zb} {bm2 : Nat} {af0 : Addr} (r0 : RdT Ty.u8 τ v0 p0) (mf0 : At τ af0 [.func (.func 41) #[] #[]]) {rr : Int × Bool × zb} (hF : zeP p0 p1 q2 = some rr) :
  Ctr Try.prog 78 #[v0, .int .i64 p1, .pointer (some ⟨bm2, 0, none⟩), .pointer (some af0)] τ [some (bm2, ⟨[.int .u8 q2.Kind.toNat, .int .u8 q2.Op.toNat, .int .i64 q2.R, .int .i64 q2.S, .int .i64 q2.T, .int .i64 q2.N, .int .i64 q2.M], 25, 7, true⟩)] (fun v τ' vs' => v = .tuple #[.int .i64 rr.1, .bool rr.2.1] ∧ vs' = [some (bm2, ⟨[.int .u8 rr.2.2.Kind.toNat, .int .u8 rr.2.2.Op.toNat, .int .i64 rr.2.2.R, .int .i64 rr.2.2.S, .int .i64 rr.2.2.T, .int .i64 rr.2.2.N, .int .i64 rr.2.2.M], 25, 7, true⟩)]) := by
 obtain ⟨A0, c0, rfl, -⟩ := r0.form
 refine zu (args := [.slice A0 p0.length c0, .int .i64 p1, .pointer (some ⟨bm2, 0, none⟩), .pointer (some af0)]) hm Try.func78 s78 rfl fun w0 σ hO Q hQ => ?_
 unfold zeP at hF
 have hL := Hp.le.refl τ
 show wpn _ _ a78.body _ _ _
 unfold a78
 dsimp only
 refine za hO [] [(0, .slice A0 p0.length c0), (1, znX p1), (2, znY bm2), (3, .pointer (some af0))] znK fun j => ?_
 refine zc hO 2 [] [(2, znY bm2), (3, .pointer (some af0)), (13, .slice A0 p0.length c0), (14, znX p1)] znK fun j => ?_
 obtain ⟨c4, h5, hF⟩ := bind_some hF
 refine zt hO (zfk r0 h5) rfl fun _ σ _ _ hO h6 h7 => ?_
 have hL := hL.trans h6
 have mf0 := mf0.le h6
 have r0 := r0.le h6
 obtain ⟨rfl, rfl⟩ := h7
 have hO : Obs _ _ [_] := hO
 refine za hO [] [(2, znY bm2), (3, .pointer (some af0)), (9, .int .u8 c4.1), (10, znX c4.2.1), (11, znX c4.2.2)] znL fun j => ?_
 refine zO rfl (mf0.le hO.base).fst ?_
 refine zc hO 2 [] [(2, znY bm2), (10, znX c4.2.1), (11, znX c4.2.2), (19, .func (.func 41) #[] #[]), (20, znY bm2), (21, .int .u8 c4.1)] znM fun j => ?_
 obtain ⟨c8, h9, hF⟩ := bind_some hF
 refine zch (hs := []) (vs := [_]) rfl (by kernel_rfl) hO (zkL (q0 := (⟨q2.Kind, q2.Op, q2.R, q2.S, q2.T, q2.N, q2.M⟩ : zb)) h9) rfl fun _ σ _ _ hO h10 h11 => ?_
 have hL := hL.trans h10
 obtain ⟨rfl, rfl⟩ := h11
 have hO : Obs _ _ [_] := hO
 refine zg (za hO [] [(2, znY bm2), (7, znX c4.2.1), (8, .bool (c4.2.2 == 0))] znJ fun j => ?_)
 refine zo ?_
 injection hF with hF
 subst hF
 exact hQ _ _ _ _ _ rfl hO hL ⟨rfl, rfl⟩
theorem zl3 {τ : Hp} {v0 : Value} {p0 : (List UInt8)} {p1 : Int} {q2 : zb} {bm2 : Nat} {af0 : Addr} (r0 : RdT Ty.u8 τ v0 p0) (mf0 : At τ af0 [.func (.func 49) #[] #[]]) {rr : Int × Bool × zb} (hF : zek p0 p1 q2 = some rr) :
  Ctr Try.prog 78 #[v0, .int .i64 p1, .pointer (some ⟨bm2, 0, none⟩), .pointer (some af0)] τ [some (bm2, ⟨[.int .u8 q2.Kind.toNat, .int .u8 q2.Op.toNat, .int .i64 q2.R, .int .i64 q2.S, .int .i64 q2.T, .int .i64 q2.N, .int .i64 q2.M], 25, 7, true⟩)] (fun v τ' vs' => v = .tuple #[.int .i64 rr.1, .bool rr.2.1] ∧ vs' = [some (bm2, ⟨[.int .u8 rr.2.2.Kind.toNat, .int .u8 rr.2.2.Op.toNat, .int .i64 rr.2.2.R, .int .i64 rr.2.2.S, .int .i64 rr.2.2.T, .int .i64 rr.2.2.N, .int .i64 rr.2.2.M], 25, 7, true⟩)]) := by
 obtain ⟨A0, c0, rfl, -⟩ := r0.form
 refine zu (args := [.slice A0 p0.length c0, .int .i64 p1, .pointer (some ⟨bm2, 0, none⟩), .pointer (some af0)]) hm Try.func78 s78 rfl fun w0 σ hO Q hQ => ?_
 unfold zek at hF
 have hL := Hp.le.refl τ
 show wpn _ _ a78.body _ _ _
 unfold a78
 dsimp only
 refine za hO [] [(0, .slice A0 p0.length c0), (1, znX p1), (2, znY bm2), (3, .pointer (some af0))] znK fun j => ?_
 refine zc hO 2 [] [(2, znY bm2), (3, .pointer (some af0)), (13, .slice A0 p0.length c0), (14, znX p1)] znK fun j => ?_
 obtain ⟨c4, h5, hF⟩ := bind_some hF
 refine zt hO (zfk r0 h5) rfl fun _ σ _ _ hO h6 h7 => ?_
 have hL := hL.trans h6
 have mf0 := mf0.le h6
 have r0 := r0.le h6
 obtain ⟨rfl, rfl⟩ := h7
 have hO : Obs _ _ [_] := hO
 refine za hO [] [(2, znY bm2), (3, .pointer (some af0)), (9, .int .u8 c4.1), (10, znX c4.2.1), (11, znX c4.2.2)] znL fun j => ?_
 refine zO rfl (mf0.le hO.base).fst ?_
 refine zc hO 2 [] [(2, znY bm2), (10, znX c4.2.1), (11, znX c4.2.2), (19, .func (.func 49) #[] #[]), (20, znY bm2), (21, .int .u8 c4.1)] znM fun j => ?_
 obtain ⟨c8, h9, hF⟩ := bind_some hF
 refine zch (hs := []) (vs := [_]) rfl (by kernel_rfl) hO (zkH (q0 := (⟨q2.Kind, q2.Op, q2.R, q2.S, q2.T, q2.N, q2.M⟩ : zb)) h9) rfl fun _ σ _ _ hO h10 h11 => ?_
 have hL := hL.trans h10
 obtain ⟨rfl, rfl⟩ := h11
 have hO : Obs _ _ [_] := hO
 refine zg (za hO [] [(2, znY bm2), (7, znX c4.2.1), (8, .bool (c4.2.2 == 0))] znJ fun j => ?_)
 refine zo ?_
 injection hF with hF
 subst hF
 exact hQ _ _ _ _ _ rfl hO hL ⟨rfl, rfl⟩
theorem zlO {τ : Hp} {v0 : Value} {p0 : (List UInt8)} {p1 : Int} {q2 : zb} {bm2 : Nat} {af0 : Addr} (r0 : RdT Ty.u8 τ v0 p0) (mf0 : At τ af0 [.func (.func 53) #[] #[]]) {rr : Int × Bool × zb} (hF : zen p0 p1 q2 = some rr) :
  Ctr Try.prog 78 #[v0, .int .i64 p1, .pointer (some ⟨bm2, 0, none⟩), .pointer (some af0)] τ [some (bm2, ⟨[.int .u8 q2.Kind.toNat, .int .u8 q2.Op.toNat, .int .i64 q2.R, .int .i64 q2.S, .int .i64 q2.T, .int .i64 q2.N, .int .i64 q2.M], 25, 7, true⟩)] (fun v τ' vs' => v = .tuple #[.int .i64 rr.1, .bool rr.2.1] ∧ vs' = [some (bm2, ⟨[.int .u8 rr.2.2.Kind.toNat, .int .u8 rr.2.2.Op.toNat, .int .i64 rr.2.2.R, .int .i64 rr.2.2.S, .int .i64 rr.2.2.T, .int .i64 rr.2.2.N, .int .i64 rr.2.2.M], 25, 7, true⟩)]) := by
 obtain ⟨A0, c0, rfl, -⟩ := r0.form
 refine zu (args := [.slice A0 p0.length c0, .int .i64 p1, .pointer (some ⟨bm2, 0, none⟩), .pointer (some af0)]) hm Try.func78 s78 rfl fun w0 σ hO Q hQ => ?_
 unfold zen at hF
 have hL := Hp.le.refl τ
 show wpn _ _ a78.body _ _ _
 unfold a78
 dsimp only
 refine za hO [] [(0, .slice A0 p0.length c0), (1, znX p1), (2, znY bm2), (3, .pointer (some af0))] znK fun j => ?_
 refine zc hO 2 [] [(2, znY bm2), (3, .pointer (some af0)), (13, .slice A0 p0.length c0), (14, znX p1)] znK fun j => ?_
 obtain ⟨c4, h5, hF⟩ := bind_some hF
 refine zt hO (zfk r0 h5) rfl fun _ σ _ _ hO h6 h7 => ?_
 have hL := hL.trans h6
 have mf0 := mf0.le h6
 have r0 := r0.le h6
 obtain ⟨rfl, rfl⟩ := h7
 have hO : Obs _ _ [_] := hO
 refine za hO [] [(2, znY bm2), (3, .pointer (some af0)), (9, .int .u8 c4.1), (10, znX c4.2.1), (11, znX c4.2.2)] znL fun j => ?_
 refine zO rfl (mf0.le hO.base).fst ?_
 refine zc hO 2 [] [(2, znY bm2), (10, znX c4.2.1), (11, znX c4.2.2), (19, .func (.func 53) #[] #[]), (20, znY bm2), (21, .int .u8 c4.1)] znM fun j => ?_
 obtain ⟨c8, h9, hF⟩ := bind_some hF
 refine zch (hs := []) (vs := [_]) rfl (by kernel_rfl) hO (zml (q0 := (⟨q2.Kind, q2.Op, q2.R, q2.S, q2.T, q2.N, q2.M⟩ : zb)) h9) rfl fun _ σ _ _ hO h10 h11 => ?_
 have hL := hL.trans h10
 obtain ⟨rfl, rfl⟩ := h11
 have hO : Obs _ _ [_] := hO
 refine zg (za hO [] [(2, znY bm2), (7, znX c4.2.1), (8, .bool (c4.2.2 == 0))] znJ fun j => ?_)
 refine zo ?_
 injection hF with hF
 subst hF
 exact hQ _ _ _ _ _ rfl hO hL ⟨rfl, rfl⟩
theorem zkV {τ : Hp} {v0 : Value} {p0 : (List UInt8)} {p1 : Int} {q2 : zb} {bm2 : Nat} {af0 : Addr} (r0 : RdT Ty.u8 τ v0 p0) (mf0 : At τ af0 [.func (.func 56) #[] #[]]) {rr : Int × Bool × zb} (hF : zer p0 p1 q2 = some rr) :
  Ctr Try.prog 78 #[v0, .int .i64 p1, .pointer (some ⟨bm2, 0, none⟩), .pointer (some af0)] τ [some (bm2, ⟨[.int .u8 q2.Kind.toNat, .int .u8 q2.Op.toNat, .int .i64 q2.R, .int .i64 q2.S, .int .i64 q2.T, .int .i64 q2.N, .int .i64 q2.M], 25, 7, true⟩)] (fun v τ' vs' => v = .tuple #[.int .i64 rr.1, .bool rr.2.1] ∧ vs' = [some (bm2, ⟨[.int .u8 rr.2.2.Kind.toNat, .int .u8 rr.2.2.Op.toNat, .int .i64 rr.2.2.R, .int .i64 rr.2.2.S, .int .i64 rr.2.2.T, .int .i64 rr.2.2.N, .int .i64 rr.2.2.M], 25, 7, true⟩)]) := by
 obtain ⟨A0, c0, rfl, -⟩ := r0.form
 refine zu (args := [.slice A0 p0.length c0, .int .i64 p1, .pointer (some ⟨bm2, 0, none⟩), .pointer (some af0)]) hm Try.func78 s78 rfl fun w0 σ hO Q hQ => ?_
 unfold zer at hF
 have hL := Hp.le.refl τ
 show wpn _ _ a78.body _ _ _
 unfold a78
 dsimp only
 refine za hO [] [(0, .slice A0 p0.length c0), (1, znX p1), (2, znY bm2), (3, .pointer (some af0))] znK fun j => ?_
 refine zc hO 2 [] [(2, znY bm2), (3, .pointer (some af0)), (13, .slice A0 p0.length c0), (14, znX p1)] znK fun j => ?_
 obtain ⟨c4, h5, hF⟩ := bind_some hF
 refine zt hO (zfk r0 h5) rfl fun _ σ _ _ hO h6 h7 => ?_
 have hL := hL.trans h6
 have mf0 := mf0.le h6
 have r0 := r0.le h6
 obtain ⟨rfl, rfl⟩ := h7
 have hO : Obs _ _ [_] := hO
 refine za hO [] [(2, znY bm2), (3, .pointer (some af0)), (9, .int .u8 c4.1), (10, znX c4.2.1), (11, znX c4.2.2)] znL fun j => ?_
 refine zO rfl (mf0.le hO.base).fst ?_
 refine zc hO 2 [] [(2, znY bm2), (10, znX c4.2.1), (11, znX c4.2.2), (19, .func (.func 56) #[] #[]), (20, znY bm2), (21, .int .u8 c4.1)] znM fun j => ?_
 obtain ⟨c8, h9, hF⟩ := bind_some hF
 refine zch (hs := []) (vs := [_]) rfl (by kernel_rfl) hO (zm8 (q0 := (⟨q2.Kind, q2.Op, q2.R, q2.S, q2.T, q2.N, q2.M⟩ : zb)) h9) rfl fun _ σ _ _ hO h10 h11 => ?_
 have hL := hL.trans h10
 obtain ⟨rfl, rfl⟩ := h11
 have hO : Obs _ _ [_] := hO
 refine zg (za hO [] [(2, znY bm2), (7, znX c4.2.1), (8, .bool (c4.2.2 == 0))] znJ fun j => ?_)
 refine zo ?_
 injection hF with hF
 subst hF
 exact hQ _ _ _ _ _ rfl hO hL ⟨rfl, rfl⟩
theorem zlk {τ : Hp} {v0 : Value} {p0 : (List UInt8)} {p1 : Int} {q2 : zb} {bm2 : Nat} {af0 : Addr} (r0 : RdT Ty.u8 τ v0 p0) (mf0 : At τ af0 [.func (.func 69) #[] #[]]) {rr : Int × Bool × zb} (hF : zeE p0 p1 q2 = some rr) :
  Ctr Try.prog 78 #[v0, .int .i64 p1, .pointer (some ⟨bm2, 0, none⟩), .pointer (some af0)] τ [some (bm2, ⟨[.int .u8 q2.Kind.toNat, .int .u8 q2.Op.toNat, .int .i64 q2.R, .int .i64 q2.S, .int .i64 q2.T, .int .i64 q2.N, .int .i64 q2.M], 25, 7, true⟩)] (fun v τ' vs' => v = .tuple #[.int .i64 rr.1, .bool rr.2.1] ∧ vs' = [some (bm2, ⟨[.int .u8 rr.2.2.Kind.toNat, .int .u8 rr.2.2.Op.toNat, .int .i64 rr.2.2.R, .int .i64 rr.2.2.S, .int .i64 rr.2.2.T, .int .i64 rr.2.2.N, .int .i64 rr.2.2.M], 25, 7, true⟩)]) := by
 obtain ⟨A0, c0, rfl, -⟩ := r0.form
 refine zu (args := [.slice A0 p0.length c0, .int .i64 p1, .pointer (some ⟨bm2, 0, none⟩), .pointer (some af0)]) hm Try.func78 s78 rfl fun w0 σ hO Q hQ => ?_
 unfold zeE at hF
 have hL := Hp.le.refl τ
 show wpn _ _ a78.body _ _ _
 unfold a78
 dsimp only
 refine za hO [] [(0, .slice A0 p0.length c0), (1, znX p1), (2, znY bm2), (3, .pointer (some af0))] znK fun j => ?_
 refine zc hO 2 [] [(2, znY bm2), (3, .pointer (some af0)), (13, .slice A0 p0.length c0), (14, znX p1)] znK fun j => ?_
 obtain ⟨c4, h5, hF⟩ := bind_some hF
 refine zt hO (zfk r0 h5) rfl fun _ σ _ _ hO h6 h7 => ?_
 have hL := hL.trans h6
 have mf0 := mf0.le h6
 have r0 := r0.le h6
 obtain ⟨rfl, rfl⟩ := h7
 have hO : Obs _ _ [_] := hO
 refine za hO [] [(2, znY bm2), (3, .pointer (some af0)), (9, .int .u8 c4.1), (10, znX c4.2.1), (11, znX c4.2.2)] znL fun j => ?_
 refine zO rfl (mf0.le hO.base).fst ?_
 refine zc hO 2 [] [(2, znY bm2), (10, znX c4.2.1), (11, znX c4.2.2), (19, .func (.func 69) #[] #[]), (20, znY bm2), (21, .int .u8 c4.1)] znM fun j => ?_
 obtain ⟨c8, h9, hF⟩ := bind_some hF
 refine zch (hs := []) (vs := [_]) rfl (by kernel_rfl) hO (znk (q0 := (⟨q2.Kind, q2.Op, q2.R, q2.S, q2.T, q2.N, q2.M⟩ : zb)) h9) rfl fun _ σ _ _ hO h10 h11 => ?_
 have hL := hL.trans h10
 obtain ⟨rfl, rfl⟩ := h11
 have hO : Obs _ _ [_] := hO
 refine zg (za hO [] [(2, znY bm2), (7, znX c4.2.1), (8, .bool (c4.2.2 == 0))] znJ fun j => ?_)
 refine zo ?_
 injection hF with hF
 subst hF
 exact hQ _ _ _ _ _ rfl hO hL ⟨rfl, rfl⟩
theorem zmC {τ : Hp} {x : zn} {u0 u1 u2 : Value} (hx : zbe τ x u0 u1 u2) {v0 : Value} {p0 : (List UInt8)} {p1 : Int} {q2 : zb} {bm2 : Nat} (r0 : RdT Ty.u8 τ v0 p0) {rr : Int × Bool × zb} (hF : zc9 x p0 p1 q2 = some rr) :
  FnC Try.prog u2 #[v0, .int .i64 p1, .pointer (some ⟨bm2, 0, none⟩)] τ [some (bm2, ⟨[.int .u8 q2.Kind.toNat, .int .u8 q2.Op.toNat, .int .i64 q2.R, .int .i64 q2.S, .int .i64 q2.T, .int .i64 q2.N, .int .i64 q2.M], 25, 7, true⟩)] (fun v τ' vs' => v = .tuple #[.int .i64 rr.1, .bool rr.2.1] ∧ vs' = [some (bm2, ⟨[.int .u8 rr.2.2.Kind.toNat, .int .u8 rr.2.2.Op.toNat, .int .i64 rr.2.2.R, .int .i64 rr.2.2.S, .int .i64 rr.2.2.T, .int .i64 rr.2.2.N, .int .i64 rr.2.2.M], 25, 7, true⟩)]) := by
 cases x with
 | c_one_1 => obtain ⟨a1_0, a2_0, rfl, rfl, rfl, m0, m1⟩ := hx; exact ⟨78, #[], #[.pointer (some a2_0)], _, rfl, by kernel_rfl, rfl, zmS r0 m1 hF⟩
 | c_both_1 => obtain ⟨a1_0, a2_0, rfl, rfl, rfl, m0, m1⟩ := hx; exact ⟨78, #[], #[.pointer (some a2_0)], _, rfl, by kernel_rfl, rfl, zl3 r0 m1 hF⟩
 | c_op_1 x0 x1 => obtain ⟨a0_0, a0_1, a1_0, a2_0, rfl, rfl, rfl, m0, m1, m2, m3⟩ := hx; exact ⟨78, #[], #[.pointer (some a2_0)], _, rfl, by kernel_rfl, rfl, zlO r0 m3 hF⟩
 | c_third_1 => obtain ⟨a1_0, a2_0, rfl, rfl, rfl, m0, m1⟩ := hx; exact ⟨78, #[], #[.pointer (some a2_0)], _, rfl, by kernel_rfl, rfl, zkV r0 m1 hF⟩
 | c_bound_1 => obtain ⟨rfl, rfl, rfl⟩ := hx; exact ⟨60, #[], #[], _, rfl, by kernel_rfl, rfl, zlc r0 hF⟩
 | c_to_1 => obtain ⟨rfl, rfl, rfl⟩ := hx; exact ⟨65, #[], #[], _, rfl, by kernel_rfl, rfl, zkm r0 hF⟩
 | c_how_1 => obtain ⟨a1_0, a2_0, rfl, rfl, rfl, m0, m1⟩ := hx; exact ⟨78, #[], #[.pointer (some a2_0)], _, rfl, by kernel_rfl, rfl, zlk r0 m1 hF⟩
 | c_parts_1 => obtain ⟨rfl, rfl, rfl⟩ := hx; exact ⟨44, #[], #[], _, rfl, by kernel_rfl, rfl, zjr r0 hF⟩
 | c_within => obtain ⟨rfl, rfl, rfl⟩ := hx; exact ⟨44, #[], #[], _, rfl, by kernel_rfl, rfl, zjr r0 hF⟩
theorem ziM {τ : Hp} {v0 : Value} {p0 : (List UInt8)} {p1 : Int} (r0 : RdT Ty.u8 τ v0 p0) {rr : zb × Int × Bool} (hF : zcn p0 p1 = some rr) :
  Ctr Try.prog 17 #[v0, .int .i64 p1] τ [] (fun v τ' vs' => v = .tuple #[.agg #[.int .u8 rr.1.Kind.toNat, .int .u8 rr.1.Op.toNat, .int .i64 rr.1.R, .int .i64 rr.1.S, .int .i64 rr.1.T, .int .i64 rr.1.N, .int .i64 rr.1.M], .int .i64 rr.2.1, .bool rr.2.2] ∧ vs' = []) := by
 obtain ⟨A0, c0, rfl, -⟩ := r0.form
 refine zu (args := [.slice A0 p0.length c0, .int .i64 p1]) hm Try.func17 s17 rfl fun w0 σ hO Q hQ => ?_
 unfold zcn at hF
 have hL := Hp.le.refl τ
 show wpn _ _ a17.body _ _ _
 unfold a17
 dsimp only
 refine z5 hO fun b3 σ hO => ?_
 have hO : Obs _ _ [_] := hO
 refine za hO [] [(0, .slice A0 p0.length c0), (1, znX p1), (4, znY b3)] znJ fun j => ?_
 refine zf (za hO [] [(0, .slice A0 p0.length c0), (1, znX p1), (4, znY b3), (13, .bool (decide (p1 ≥ (p0.length : Int))))] znK fun j => ?_)
 rcases zi hF with ⟨hb4, hF⟩ | ⟨hb4, hF⟩
 ·refine zm (congrArg Value.bool hb4) ?_
  refine zf (zc hO 1 [0] [(4, znY b3), (14, .agg #[(.int .u8 0), (.int .u8 0), (.int .i64 0), (.int .i64 0), (.int .i64 0), (.int .i64 0), (.int .i64 0)])] (And.intro (And.intro rfl rfl) znI) fun j => ?_)
  refine zB hO (i := 0) rfl (off := 0) rfl rfl rfl rfl (Nat.le_of_ble_eq_true rfl) rfl fun σ hO => ?_
  have hO : Obs _ _ [_] := hO
  refine za hO [] [(4, znY b3), (5, znX 0), (6, .bool false)] znJ fun j => ?_
  refine zx ?_
  injection hF with hF
  subst hF
  have hV0 := hO.val (i := 0) rfl (off := 0) (agg := true) (n := 7) rfl
  have hO := hO.sel [] (by decide)
  exact hQ _ _ _ _ _ (z8 rfl (hV0) (zcu (zcu rfl))) hO hL ⟨rfl, rfl⟩
 ·refine zj (congrArg Value.bool hb4) ?_
  refine zv (zc hO 2 [] [(0, .slice A0 p0.length c0), (1, znX p1), (4, znY b3), (15, .slice A0 p0.length c0), (16, znX p1)] znL fun j => ?_)
  obtain ⟨y5, g6, hF⟩ := bind_some hF
  refine zct (T := Ty.u8) r0 hO.base rfl rfl g6 (by decide) fun a7 _ k8 m9 => ?_
  obtain rfl : _ = ([.int .u8 y5.toNat] : List Value) := k8
  refine zO rfl (m9.le hO.base).fst ?_
  refine zc hO 1 [] [(0, .slice A0 p0.length c0), (1, znX p1), (4, znY b3), (18, .int .u8 (y5.toNat : Int)), (19, znY b3)] znL fun j => ?_
  refine zB hO (i := 0) rfl (off := 0) rfl rfl rfl rfl (Nat.le_of_ble_eq_true rfl) rfl fun σ hO => ?_
  have hO : Obs _ _ [_] := hO
  refine zg (zc hO 2 [0] [(0, .slice A0 p0.length c0), (1, znX p1), (4, znY b3), (22, .int .u8 (y5.toNat : Int))] (And.intro (And.intro rfl rfl) znK) fun j => ?_)
  obtain ⟨c10, h11, hF⟩ := bind_some hF
  refine zt hO (zi9 h11) rfl fun _ σ _ _ hO h12 h13 => ?_
  have hL := hL.trans h12
  have r0 := r0.le h12
  obtain ⟨v14, o17, rfl, rfl, w18⟩ := h13
  obtain ⟨A15, c16, rfl, -⟩ := w18.form
  have hO : Obs _ _ [_, _] := hO
  refine za hO [] [(0, .slice A0 p0.length c0), (1, znX p1), (4, znY b3), (6, .bool c10.2), (7, .slice A15 c10.1.length c16)] znL fun j => ?_
  refine za hO [] [(0, .slice A0 p0.length c0), (4, znY b3), (5, znX (IntKind.i64.wrap (p1 + 1))), (6, .bool c10.2), (7, .slice A15 c10.1.length c16)] znL fun j => ?_
  refine zf (za hO [] [(0, .slice A0 p0.length c0), (4, znY b3), (5, znX (IntKind.i64.wrap (p1 + 1))), (6, .bool c10.2), (28, .slice A15 c10.1.length c16), (29, znX (c10.1.length : Int)), (30, znX 0)] znN fun j => ?_)
  refine zX (zb0 (fun (n : Nat) e' σ' => ∃ (x50 : UInt8) (x51 : UInt8) (x52 : Int) (x53 : Int) (x54 : Int) (x55 : Int) (x56 : Int) (x57 : Int) (x58 : Bool) (A59 : Option Addr) (c60 : Nat) (o61 : Ob) (x62 : List zn) (x64 : Int) (τ' : Hp), agr [(0, .slice A0 p0.length c0), (4, znY b3), (5, znX x57), (6, .bool x58), (28, .slice A59 x62.length c60), (29, znX (c10.1.length : Int)), (30, znX x64)] e' ∧ Obs τ' σ' [some (b3, ⟨[.int .u8 (x50.toNat : Int), .int .u8 (x51.toNat : Int), .int .i64 x52, .int .i64 x53, .int .i64 x54, .int .i64 x55, .int .i64 x56], 25, 7, true⟩), o61] ∧ Hp.le τ τ' ∧ RdT Ty.u8 τ' (.slice A0 p0.length c0) p0 ∧ zd zbA 56 τ' (.slice A59 x62.length c60) x62 o61 ∧ zd1 p0 c10 n x50 x51 x52 x53 x54 x55 x56 x57 x58 x62 x64 = some rr) big ⟨y5, (0 : UInt8), 0, 0, 0, 0, 0, (IntKind.i64.wrap (p1 + 1)), c10.2, A15, c16, o17, c10.1, 0, _, znW znM, hO, hL, r0, w18, hF⟩ ?_)
  clear hF hO hL
  rintro n89 e σ ⟨x50, x51, x52, x53, x54, x55, x56, x57, x58, A59, c60, o61, x62, x64, _, hA, hO, hL, r49, w63, hF⟩
  rw [← zG _ _ hA]
  cases n89 with
  | zero => exact nomatch (show none = some rr from hF)
  | succ n89 =>
   replace hF : zdd (zd1 p0 c10 n89) p0 c10 x50 x51 x52 x53 x54 x55 x56 x57 x58 x62 x64 = some rr := hF
   unfold zdd at hF
   refine za hO [] [(0, .slice A0 p0.length c0), (4, znY b3), (5, znX x57), (6, .bool x58), (28, .slice A59 x62.length c60), (29, znX (c10.1.length : Int)), (30, znX x64), (31, .bool (decide (x64 < (c10.1.length : Int))))] znO fun j => ?_
   rcases zi hF with ⟨hb90, hF⟩ | ⟨hb90, hF⟩
   ·refine zm (congrArg Value.bool hb90) ?_
    refine zv (zX ?_)
    obtain ⟨y91, g92, hF⟩ := bind_some hF
    refine zdu (T := zbA) hO w63 (i := 1) rfl rfl rfl g92 (by decide) fun a93 _ k94 m95 i96 => ?_
    have k97 := k94
    obtain ⟨f99, a100, c101, f102, a103, c104, f105, a106, c107, rfl, r98⟩ := k97
    refine zO rfl (m95.all rfl) ?_
    refine z5 hO fun b108 σ hO => ?_
    have hO : Obs _ _ [_, _, _] := hO
    refine zB hO (i := 2) rfl (off := 0) rfl rfl rfl rfl (Nat.le_of_ble_eq_true rfl) rfl fun σ hO => ?_
    have hO : Obs _ _ [_, _, _] := hO
    refine zg (za hO [] [(0, .slice A0 p0.length c0), (4, znY b3), (5, znX x57), (6, .bool x58), (9, znY b108), (28, .slice A59 x62.length c60), (29, znX (c10.1.length : Int)), (30, znX x64), (34, .bool x58)] znP fun j => ?_)
    refine z0 ?_
    rcases zi hF with ⟨hb109, hF⟩ | ⟨hb109, hF⟩
    ·refine zm (congrArg Value.bool hb109) ?_
     refine zc hO 4 [2] [(0, .slice A0 p0.length c0), (4, znY b3), (28, .slice A59 x62.length c60), (29, znX (c10.1.length : Int)), (30, znX x64), (37, .func f105 a106 c107), (38, .slice A0 p0.length c0), (39, znX x57)] (And.intro (And.intro rfl rfl) znO) fun j => ?_
     obtain ⟨c110, h111, hF⟩ := bind_some hF
     have hO := hO.sel [1, 2, 0] (by decide)
     refine zhY (hs := [_, _]) (vs := [_]) rfl hO (zmC r98 r49 h111) rfl fun _ σ _ _ hO h112 h113 => ?_
     have hL := hL.trans h112
     have r49 := r49.le h112
     have w63 := w63.le h112
     have r98 := r98.le h112
     obtain ⟨rfl, rfl⟩ := h113
     have hO : Obs _ _ [_, _, _] := hO
     refine za hO [] [(0, .slice A0 p0.length c0), (4, znY b3), (5, znX c110.1), (6, .bool c110.2.1), (28, .slice A59 x62.length c60), (29, znX (c10.1.length : Int)), (30, znX x64)] znN fun j => ?_
     refine zk (zV (zs (zT (za hO [] [(0, .slice A0 p0.length c0), (4, znY b3), (5, znX c110.1), (6, .bool c110.2.1), (28, .slice A59 x62.length c60), (29, znX (c10.1.length : Int)), (30, znX (IntKind.i64.wrap (x64 + 1)))] znN fun j => ?_))))
     refine zk (zs ?_)
     have hO := hO.sel [2, 0] (by decide)
     exact ⟨n89, Nat.lt_succ_self _, c110.2.2.Kind, c110.2.2.Op, c110.2.2.R, c110.2.2.S, c110.2.2.T, c110.2.2.N, c110.2.2.M, c110.1, c110.2.1, A59, c60, o61, x62, (IntKind.i64.wrap (x64 + 1)), _, znW znM, hO, hL, r49, w63, hF⟩
    ·refine zj (congrArg Value.bool hb109) ?_
     refine zv (zk (zV (zs (zT (za hO [] [(0, .slice A0 p0.length c0), (4, znY b3), (5, znX x57), (6, .bool x58), (28, .slice A59 x62.length c60), (29, znX (c10.1.length : Int)), (30, znX (IntKind.i64.wrap (x64 + 1)))] znN fun j => ?_)))))
     refine zk (zs ?_)
     have hO := hO.sel [0, 1] (by decide)
     exact ⟨n89, Nat.lt_succ_self _, x50, x51, x52, x53, x54, x55, x56, x57, x58, A59, c60, o61, x62, (IntKind.i64.wrap (x64 + 1)), _, znW znM, hO, hL, r49, w63, hF⟩
   ·refine zj (congrArg Value.bool hb90) ?_
    refine zbV (zbZ (zb2 (zs (zc hO 3 [0] [(4, znY b3), (44, .agg #[(.int .u8 (x50.toNat : Int)), (.int .u8 (x51.toNat : Int)), (.int .i64 x52), (.int .i64 x53), (.int .i64 x54), (.int .i64 x55), (.int .i64 x56)]), (45, znX x57), (46, .bool x58)] (And.intro (And.intro rfl rfl) znK) fun j => ?_))))
    refine zB hO (i := 0) rfl (off := 0) rfl rfl rfl rfl (Nat.le_of_ble_eq_true rfl) rfl fun σ hO => ?_
    have hO : Obs _ _ [_, _] := hO
    refine za hO [] [(4, znY b3), (5, znX x57), (6, .bool x58)] znJ fun j => ?_
    refine zo ?_
    injection hF with hF
    subst hF
    have hV0 := hO.val (i := 0) rfl (off := 0) (agg := true) (n := 7) rfl
    have hO := hO.sel [] (by decide)
    exact hQ _ _ _ _ _ (z8 rfl (hV0) (zcu (zcu rfl))) hO hL ⟨rfl, rfl⟩
theorem zjg {τ : Hp} {p0 : zb}  {rr : Bool} (hF : zcH p0 = some rr) :
  Ctr Try.prog 11 #[.agg #[.int .u8 p0.Kind.toNat, .int .u8 p0.Op.toNat, .int .i64 p0.R, .int .i64 p0.S, .int .i64 p0.T, .int .i64 p0.N, .int .i64 p0.M]] τ [] (fun v τ' vs' => v = .bool rr ∧ vs' = []) := by
 refine zu (args := [.agg #[.int .u8 p0.Kind.toNat, .int .u8 p0.Op.toNat, .int .i64 p0.R, .int .i64 p0.S, .int .i64 p0.T, .int .i64 p0.N, .int .i64 p0.M]]) hm Try.func11 s11 rfl fun w0 σ hO Q hQ => ?_
 unfold zcH at hF
 have hL := Hp.le.refl τ
 show wpn _ _ a11.body _ _ _
 unfold a11
 dsimp only
 refine zbd (n := 7) hO rfl rfl fun b2 σ hO => ?_
 have hO : Obs _ _ [_] := hO
 refine za hO [] [(1, znY b2)] znH fun j => ?_
 refine zc hO 1 [0] [(1, znY b2), (8, .agg #[(.int .u8 (p0.Kind.toNat : Int)), (.int .u8 (p0.Op.toNat : Int)), (.int .i64 p0.R), (.int .i64 p0.S), (.int .i64 p0.T), (.int .i64 p0.N), (.int .i64 p0.M)])] (And.intro (And.intro rfl rfl) znI) fun j => ?_
 obtain ⟨c3, h4, hF⟩ := bind_some hF
 refine zt hO (zj1 (p0 := (⟨p0.Kind, p0.Op, p0.R, p0.S, p0.T, p0.N, p0.M⟩ : zb)) h4) rfl fun _ σ _ _ hO h5 h6 => ?_
 have hL := hL.trans h5
 obtain ⟨v7, o10, rfl, rfl, w11⟩ := h6
 obtain ⟨A8, c9, rfl, -⟩ := w11.form
 have hO : Obs _ _ [_, _] := hO
 refine za hO [] [(1, znY b2), (3, .slice A8 c3.1.length c9), (4, .bool c3.2)] znJ fun j => ?_
 refine zf (za hO [] [(1, znY b2), (3, .slice A8 c3.1.length c9), (13, .bool (!c3.2))] znJ fun j => ?_)
 rcases zi hF with ⟨hb12, hF⟩ | ⟨hb12, hF⟩
 ·refine zm (congrArg Value.bool hb12) ?_
  refine zf (za hO [] [(2, .bool false)] znH fun j => ?_)
  refine zx ?_
  injection hF with hF
  subst hF
  have hO := hO.sel [] (by decide)
  exact hQ _ _ _ _ _ rfl hO hL ⟨rfl, rfl⟩
 ·refine zj (congrArg Value.bool hb12) ?_
  refine zv (zc hO 1 [] [(1, znY b2), (15, .slice A8 c3.1.length c9)] znI fun j => ?_)
  obtain ⟨_, h14, r13, hO⟩ := w11.share hO (i := 1) rfl
  have hL := hL.trans h14
  have hO : Obs _ _ [_, _] := hO
  obtain ⟨c15, h16, hF⟩ := bind_some hF
  refine zt hO (ziM r13 h16) rfl fun _ σ _ _ hO h17 h18 => ?_
  have hL := hL.trans h17
  have r13 := r13.le h17
  obtain ⟨rfl, rfl⟩ := h18
  have hO : Obs _ _ [_, _] := hO
  refine zc hO 4 [] [(1, znY b2), (17, .agg #[(.int .u8 (c15.1.Kind.toNat : Int)), (.int .u8 (c15.1.Op.toNat : Int)), (.int .i64 c15.1.R), (.int .i64 c15.1.S), (.int .i64 c15.1.T), (.int .i64 c15.1.N), (.int .i64 c15.1.M)]), (18, znX c15.2.1), (19, .bool c15.2.2)] znK fun j => ?_
  refine z5 hO fun b19 σ hO => ?_
  have hO : Obs _ _ [_, _, _] := hO
  refine zB hO (i := 2) rfl (off := 0) rfl rfl rfl rfl (Nat.le_of_ble_eq_true rfl) rfl fun σ hO => ?_
  have hO : Obs _ _ [_, _, _] := hO
  refine za hO [] [(1, znY b2), (4, .bool c15.2.2), (5, znY b19)] znJ fun j => ?_
  refine za hO [2, 0] [(2, .bool (c15.2.2 && (( (c15.1.Kind.toNat : Int) == (p0.Kind.toNat : Int)) && (( (c15.1.Op.toNat : Int) == (p0.Op.toNat : Int)) && (( c15.1.R == p0.R) && (( c15.1.S == p0.S) && (( c15.1.T == p0.T) && (( c15.1.N == p0.N) && (( c15.1.M == p0.M) && true)))))))))] (And.intro (And.intro rfl rfl) (And.intro (And.intro rfl rfl) (And.intro (And.intro rfl rfl) (fun _ => znW trivial)))) fun j => ?_
  refine zo ?_
  injection hF with hF
  subst hF
  have hO := hO.sel [] (by decide)
  exact hQ _ _ _ _ _ rfl hO hL ⟨rfl, rfl⟩
theorem zdO {τ : Hp} {v0 : Value} {p0 : (List UInt8)} {p1 : zb} (r0 : RdT Ty.u8 τ v0 p0) {rr : (List UInt8)} (hF : zbq p0 p1 = some rr) :
  Ctr Try.prog 4 #[v0, .agg #[.int .u8 p1.Kind.toNat, .int .u8 p1.Op.toNat, .int .i64 p1.R, .int .i64 p1.S, .int .i64 p1.T, .int .i64 p1.N, .int .i64 p1.M]] τ [] (fun v τ' vs' => ∃ (v0 : Value) (o0 : Ob), v = v0 ∧ vs' = [o0] ∧ zd Ty.u8 5 τ' v0 rr o0) := by
 obtain ⟨A0, c0, rfl, -⟩ := r0.form
 refine zu (args := [.slice A0 p0.length c0, .agg #[.int .u8 p1.Kind.toNat, .int .u8 p1.Op.toNat, .int .i64 p1.R, .int .i64 p1.S, .int .i64 p1.T, .int .i64 p1.N, .int .i64 p1.M]]) hm Try.func4 s4 rfl fun w0 σ hO Q hQ => ?_
 unfold zbq at hF
 have hL := Hp.le.refl τ
 show wpn _ _ a4.body _ _ _
 unfold a4
 dsimp only
 refine zbd (n := 7) hO rfl rfl fun b3 σ hO => ?_
 have hO : Obs _ _ [_] := hO
 refine za hO [] [(0, .slice A0 p0.length c0), (3, znY b3)] znI fun j => ?_
 refine zc hO 1 [] [(3, znY b3), (8, .slice A0 p0.length c0)] znI fun j => ?_
 obtain ⟨c4, h5, hF⟩ := bind_some hF
 refine zt hO (zft r0 h5) rfl fun _ σ _ _ hO h6 h7 => ?_
 have hL := hL.trans h6
 have r0 := r0.le h6
 obtain ⟨v8, o11, rfl, rfl, w12⟩ := h7
 obtain ⟨A9, c10, rfl, -⟩ := w12.form
 have hO : Obs _ _ [_, _] := hO
 refine za hO [] [(3, znY b3), (5, .slice A9 c4.length c10)] znI fun j => ?_
 refine zf (zc hO 1 [0] [(3, znY b3), (5, .slice A9 c4.length c10), (10, .agg #[(.int .u8 (p1.Kind.toNat : Int)), (.int .u8 (p1.Op.toNat : Int)), (.int .i64 p1.R), (.int .i64 p1.S), (.int .i64 p1.T), (.int .i64 p1.N), (.int .i64 p1.M)])] (And.intro (And.intro rfl rfl) znJ) fun j => ?_)
 obtain ⟨c13, h14, hF⟩ := bind_some hF
 refine zt hO (zjg (p0 := (⟨p1.Kind, p1.Op, p1.R, p1.S, p1.T, p1.N, p1.M⟩ : zb)) h14) rfl fun _ σ _ _ hO h15 h16 => ?_
 have hL := hL.trans h15
 have w12 := w12.le h15
 obtain ⟨rfl, rfl⟩ := h16
 have hO : Obs _ _ [_, _] := hO
 refine za hO [] [(3, znY b3), (5, .slice A9 c4.length c10), (12, .bool (!c13))] znJ fun j => ?_
 rcases zi hF with ⟨hb17, hF⟩ | ⟨hb17, hF⟩
 ·refine zm (congrArg Value.bool hb17) ?_
  refine zf (za hO [] [(4, .slice A9 c4.length c10)] znH fun j => ?_)
  refine zx ?_
  injection hF with hF
  subst hF
  have hO := hO.sel [1] (by decide)
  exact hQ _ _ _ _ _ rfl hO hL ⟨_, _, rfl, rfl, w12⟩
 ·refine zj (congrArg Value.bool hb17) ?_
  refine zv (zc hO 1 [0] [(5, .slice A9 c4.length c10), (15, .agg #[(.int .u8 (p1.Kind.toNat : Int)), (.int .u8 (p1.Op.toNat : Int)), (.int .i64 p1.R), (.int .i64 p1.S), (.int .i64 p1.T), (.int .i64 p1.N), (.int .i64 p1.M)])] (And.intro (And.intro rfl rfl) znI) fun j => ?_)
  obtain ⟨c18, h19, hF⟩ := bind_some hF
  refine zt hO (zj1 (p0 := (⟨p1.Kind, p1.Op, p1.R, p1.S, p1.T, p1.N, p1.M⟩ : zb)) h19) rfl fun _ σ _ _ hO h20 h21 => ?_
  have hL := hL.trans h20
  have w12 := w12.le h20
  obtain ⟨v22, o25, rfl, rfl, w26⟩ := h21
  obtain ⟨A23, c24, rfl, -⟩ := w26.form
  have hO : Obs _ _ [_, _, _] := hO
  refine za hO [] [(5, .slice A9 c4.length c10), (6, .slice A23 c18.1.length c24)] znI fun j => ?_
  refine zc hO 2 [] [(19, .slice A9 c4.length c10), (20, .slice A23 c18.1.length c24)] znI fun j => ?_
  obtain ⟨_, hr31, hF⟩ := bind_some hF
  refine zkd (T := Ty.u8) zkq hO w12 (i := 1) rfl rfl rfl (w26.rd hO (i := 2) rfl) hr31 (by decide) fun _ σ o29 w30 hO => ?_
  obtain ⟨A27, c28, rfl, -⟩ := w30.form
  have hO : Obs _ _ [_, _, _] := hO
  refine za hO [] [(4, .slice A27 (c4 ++ c18.1).length c28)] znH fun j => ?_
  refine zo ?_
  injection hF with hF
  subst hF
  have hO := hO.sel [1] (by decide)
  exact hQ _ _ _ _ _ rfl hO hL ⟨_, _, rfl, rfl, w30⟩
theorem zfi {τ : Hp} {v0 : Value} {p0 : (List Int)} (r0 : RdT (Ty.int .i64) τ v0 p0) {rr : (List Int)} (hF : zdc p0 = some rr) :
  Ctr Try.prog 13 #[v0] τ [] (fun v τ' vs' => ∃ (v0 : Value) (o0 : Ob), v = v0 ∧ vs' = [o0] ∧ zd (Ty.int .i64) 2 τ' v0 rr o0) := by
 obtain ⟨A0, c0, rfl, -⟩ := r0.form
 refine zu (args := [.slice A0 p0.length c0]) hm Try.func13 s13 rfl fun w0 σ hO Q hQ => ?_
 unfold zdc at hF
 obtain ⟨_, hr, hF⟩ := bind_some hF
 injection hF with hF
 subst hF
 have hL := Hp.le.refl τ
 show wpn _ _ a13.body _ _ _
 unfold a13
 dsimp only
 refine za hO [] [(0, .slice A0 p0.length c0)] znH fun j => ?_
 refine zf (za hO [] [(0, .slice A0 p0.length c0), (4, .bool A0.isNone)] znI fun j => ?_)
 rcases (Bool.eq_false_or_eq_true A0.isNone).symm with hA | hA
 ·refine zj (congrArg Value.bool hA) ?_
  refine zv (zbv (T := (Ty.int .i64)) (l := []) (cs := []) hO rfl rfl rfl (by decide) fun _ σ o1 w1 hO => ?_)
  obtain ⟨A1, c1, rfl, -⟩ := w1.form
  refine zc hO 1 [] [(5, .slice A1 0 c1), (6, .slice A0 p0.length c0)] znI fun j => ?_
  refine zhC (T := (Ty.int .i64)) hO w1 (i := 0) rfl rfl rfl r0 (by simpa using hr) (by decide) fun _ σ o2 w2 hO => ?_
  refine za hO [] [(2, _)] znH fun j => ?_
  refine zo ?_
  exact hQ _ _ _ _ _ rfl hO hL ⟨_, _, rfl, rfl, w2⟩
 ·refine zm (congrArg Value.bool hA) ?_
  have := r0.empty (by decide) hA
  subst this
  refine zf (za hO [] [(2, .slice none 0 0)] znH fun j => ?_)
  refine zx ?_
  have hO := hO.no
  exact hQ _ _ _ _ _ rfl hO hL ⟨_, _, rfl, rfl, zd.nil _ _ _⟩
theorem ziG {τ : Hp} {v0 : Value} {p0 : (List UInt8)} {p1 : Int} {p2 : Int} {v3 : Value} {p3 : (List Int)} (r0 : RdT Ty.u8 τ v0 p0) (r3 : RdT (Ty.int .i64) τ v3 p3) {rr : (Option ze) × Int} (hF : zdU p0 p1 p2 p3 = some rr) :
  Ctr Try.prog 5 #[v0, .int .i64 p1, .int .i64 p2, v3] τ [] (fun v τ' vs' => match rr.1 with | none => v = .tuple #[.pointer none, .int .i64 rr.2] ∧ vs' = [] | some m => ∃ (b : Nat) (u0 : Value) (y0 : Ob) (u18 : Value) (y18 : Ob) (u19 : Value) (y19 : Ob) (u20 : Value) (y20 : Ob), v = .tuple #[.pointer (some ⟨b, 0, none⟩), .int .i64 rr.2] ∧ vs' = [some (b, ⟨[u0, .int .i64 m.pc, .int .i64 (m.regs 0), .int .i64 (m.regs 1), .int .i64 (m.regs 2), .int .i64 (m.regs 3), .int .i64 (m.regs 4), .int .i64 (m.regs 5), .int .i64 (m.regs 6), .int .i64 (m.regs 7), .int .i64 (m.regs 8), .int .i64 (m.regs 9), .int .i64 (m.regs 10), .int .i64 (m.regs 11), .int .i64 (m.regs 12), .int .i64 (m.regs 13), .int .i64 (m.regs 14), .int .i64 (m.regs 15), u18, u19, u20, .int .u8 m.how.toNat, .int .i64 m.halting], 45, 23, true⟩), y0, y18, y19, y20] ∧ zd Ty.u8 5 τ' u0 m.code y0 ∧ zd (Ty.int .i64) 2 τ' u18 m.words y18 ∧ zd (Ty.int .i64) 2 τ' u19 m.input y19 ∧ zd (Ty.int .i64) 2 τ' u20 m.out y20) := by
 obtain ⟨A0, c0, rfl, -⟩ := r0.form
 obtain ⟨A3, c3, rfl, -⟩ := r3.form
 refine zu (args := [.slice A0 p0.length c0, .int .i64 p1, .int .i64 p2, .slice A3 p3.length c3]) hm Try.func5 s5 rfl fun w0 σ hO Q hQ => ?_
 unfold zdU at hF
 have hL := Hp.le.refl τ
 show wpn _ _ a5.body _ _ _
 unfold a5
 dsimp only
 refine za hO [] [(0, .slice A0 p0.length c0), (1, znX p1), (2, znX p2), (3, .slice A3 p3.length c3)] znK fun j => ?_
 refine zf (za hO [] [(0, .slice A0 p0.length c0), (1, znX p1), (2, znX p2), (3, .slice A3 p3.length c3), (31, .bool (((((decide ((p0.length : Int) > 1048576)) || (decide (p1 < 0))) || (decide (p1 > (p0.length : Int)))) || (decide (p2 < 1))) || (decide (p2 > 65536))))] (And.intro (And.intro rfl rfl) (fun _ => And.intro (And.intro rfl rfl) (fun _ => And.intro (And.intro rfl rfl) (fun _ => And.intro (And.intro rfl rfl) (fun _ => znW znK))))) fun j => ?_)
 rcases zi hF with ⟨hb5, hF⟩ | ⟨hb5, hF⟩
 ·refine zm (congrArg Value.bool hb5) ?_
  refine zf (za hO [] [(8, .pointer none), (9, znX 1)] znI fun j => ?_)
  refine zx ?_
  injection hF with hF
  subst hF
  exact hQ _ _ _ _ _ rfl hO hL ⟨rfl, rfl⟩
 ·refine zj (congrArg Value.bool hb5) ?_
  refine zv (zR (za hO [] [(1, znX p1), (2, znX p2), (3, .slice A3 p3.length c3), (32, .slice A0 p0.length c0)] znK fun j => ?_))
  refine zR (za hO [] [(2, znX p2), (3, .slice A3 p3.length c3), (32, .slice A0 p0.length c0), (34, znX p1)] znK fun j => ?_)
  refine zR (za hO [] [(2, znX p2), (3, .slice A3 p3.length c3), (32, .slice A0 p0.length c0), (34, znX p1), (35, znX p2)] znL fun j => ?_)
  refine zR (za hO [] [(2, znX p2), (32, .slice A0 p0.length c0), (34, znX p1), (35, znX p2), (37, .slice A3 p3.length c3)] znL fun j => ?_)
  refine zbx (fun e' σ' => ∃ (b32 : Nat) (A33 : Option Addr) (c34 : Nat) (o35 : Ob) (x36 : List UInt8) (A38 : Option Addr) (c39 : Nat) (o40 : Ob) (x41 : List Int) (A43 : Option Addr) (c44 : Nat) (o45 : Ob) (x46 : List Int) (τ' : Hp), agr [(2, znX p2), (10, znY b32)] e' ∧ Obs τ' σ' [some (b32, ⟨[.slice A33 x36.length c34, .int .i64 p1, .int .i64 0, .int .i64 0, .int .i64 0, .int .i64 0, .int .i64 0, .int .i64 0, .int .i64 0, .int .i64 0, .int .i64 0, .int .i64 0, .int .i64 0, .int .i64 0, .int .i64 0, .int .i64 0, .int .i64 0, .int .i64 0, .slice A38 x41.length c39, .slice A43 x46.length c44, .slice none 0 0, .int .u8 0, .int .i64 0], 45, 23, true⟩), o35, o40, o45] ∧ Hp.le τ τ' ∧ zd Ty.u8 5 τ' (.slice A33 x36.length c34) x36 o35 ∧ zd (Ty.int .i64) 2 τ' (.slice A38 x41.length c39) x41 o40 ∧ zd (Ty.int .i64) 2 τ' (.slice A43 x46.length c44) x46 o45 ∧ zhJ p1 p2 x36 x41 x46 = some rr) ?_ ?_
  ·refine zim ?_
   obtain ⟨c49, h50, hF⟩ := bind_some hF
   obtain ⟨y58, g59, hF⟩ := bind_some hF
   obtain ⟨c65, h66, hF⟩ := bind_some hF
   refine zh2 ?_ ?_
   ·refine zbw (zt hO (zft r0 h50) rfl fun _ σ _ _ hO h51 h52 => ?_)
    have hL := hL.trans h51
    have r0 := r0.le h51
    have r3 := r3.le h51
    obtain ⟨v53, o56, rfl, rfl, w57⟩ := h52
    obtain ⟨A54, c55, rfl, -⟩ := w57.form
    have hO : Obs _ _ [_] := hO
    refine zg (zh2 ?_ ?_)
    ·refine zbw (zhr (T := (Ty.int .i64)) hO rfl rfl g59 (show _ = _ from rfl) (by decide) fun b64 c61 σ o62 w63 hO => ?_)
     have hO : Obs _ _ [_, _] := hO
     refine zg (zbw (zt hO (zfi r3 h66) rfl fun _ σ _ _ hO h67 h68 => ?_))
     have hL := hL.trans h67
     have r0 := r0.le h67
     have w57 := w57.le h67
     have w63 := w63.le h67
     have r3 := r3.le h67
     obtain ⟨v69, o72, rfl, rfl, w73⟩ := h68
     obtain ⟨A70, c71, rfl, -⟩ := w73.form
     have hO : Obs _ _ [_, _, _] := hO
     refine zg (zR (za hO [] [(2, znX p2), (39, .agg #[(.slice A54 c49.length c55), (.int .i64 p1), (.int .i64 0), (.int .i64 0), (.int .i64 0), (.int .i64 0), (.int .i64 0), (.int .i64 0), (.int .i64 0), (.int .i64 0), (.int .i64 0), (.int .i64 0), (.int .i64 0), (.int .i64 0), (.int .i64 0), (.int .i64 0), (.int .i64 0), (.int .i64 0), (.slice (some ⟨b64, 0, none⟩) y58.length c61), (.slice A70 c65.length c71), (.slice none 0 0), (.int .u8 0), (.int .i64 0)])] znI fun j => ?_))
     refine zbw (zbd (n := 23) hO rfl rfl fun b74 σ hO => ?_)
     have hO : Obs _ _ [_, _, _, _] := hO
     refine zg (zR (za hO [] [(2, znX p2), (10, znY b74)] znI fun j => ?_))
     refine zd3 (zk (zs ?_))
     have hO := hO.sel [3, 0, 1, 2] (by decide)
     exact ⟨b74, A54, c55, o56, c49, (some ⟨b64, 0, none⟩), c61, o62, y58, A70, c71, o72, c65, _, znW znH, hO, hL, w57, w63, w73, hF⟩
    ·refine zbw (zt hO (zfi r3 h66) rfl fun _ σ _ _ hO h67 h68 => ?_)
     have hL := hL.trans h67
     have r0 := r0.le h67
     have w57 := w57.le h67
     have r3 := r3.le h67
     obtain ⟨v69, o72, rfl, rfl, w73⟩ := h68
     obtain ⟨A70, c71, rfl, -⟩ := w73.form
     have hO : Obs _ _ [_, _] := hO
     refine zg (zbw (zhr (T := (Ty.int .i64)) hO rfl rfl g59 (show _ = _ from rfl) (by decide) fun b64 c61 σ o62 w63 hO => ?_))
     have hO : Obs _ _ [_, _, _] := hO
     refine zg (zR (za hO [] [(2, znX p2), (39, .agg #[(.slice A54 c49.length c55), (.int .i64 p1), (.int .i64 0), (.int .i64 0), (.int .i64 0), (.int .i64 0), (.int .i64 0), (.int .i64 0), (.int .i64 0), (.int .i64 0), (.int .i64 0), (.int .i64 0), (.int .i64 0), (.int .i64 0), (.int .i64 0), (.int .i64 0), (.int .i64 0), (.int .i64 0), (.slice (some ⟨b64, 0, none⟩) y58.length c61), (.slice A70 c65.length c71), (.slice none 0 0), (.int .u8 0), (.int .i64 0)])] znI fun j => ?_))
     refine zbw (zbd (n := 23) hO rfl rfl fun b74 σ hO => ?_)
     have hO : Obs _ _ [_, _, _, _] := hO
     refine zg (zR (za hO [] [(2, znX p2), (10, znY b74)] znI fun j => ?_))
     refine zd3 (zk (zs ?_))
     have hO := hO.sel [3, 0, 2, 1] (by decide)
     exact ⟨b74, A54, c55, o56, c49, (some ⟨b64, 0, none⟩), c61, o62, y58, A70, c71, o72, c65, _, znW znH, hO, hL, w57, w63, w73, hF⟩
   ·refine zbw (zhr (T := (Ty.int .i64)) hO rfl rfl g59 (show _ = _ from rfl) (by decide) fun b64 c61 σ o62 w63 hO => ?_)
    have hO : Obs _ _ [_] := hO
    refine zg (zbw (zt hO (zft r0 h50) rfl fun _ σ _ _ hO h51 h52 => ?_))
    have hL := hL.trans h51
    have r0 := r0.le h51
    have w63 := w63.le h51
    have r3 := r3.le h51
    obtain ⟨v53, o56, rfl, rfl, w57⟩ := h52
    obtain ⟨A54, c55, rfl, -⟩ := w57.form
    have hO : Obs _ _ [_, _] := hO
    refine zg (zbw (zt hO (zfi r3 h66) rfl fun _ σ _ _ hO h67 h68 => ?_))
    have hL := hL.trans h67
    have r0 := r0.le h67
    have w57 := w57.le h67
    have w63 := w63.le h67
    have r3 := r3.le h67
    obtain ⟨v69, o72, rfl, rfl, w73⟩ := h68
    obtain ⟨A70, c71, rfl, -⟩ := w73.form
    have hO : Obs _ _ [_, _, _] := hO
    refine zg (zR (za hO [] [(2, znX p2), (39, .agg #[(.slice A54 c49.length c55), (.int .i64 p1), (.int .i64 0), (.int .i64 0), (.int .i64 0), (.int .i64 0), (.int .i64 0), (.int .i64 0), (.int .i64 0), (.int .i64 0), (.int .i64 0), (.int .i64 0), (.int .i64 0), (.int .i64 0), (.int .i64 0), (.int .i64 0), (.int .i64 0), (.int .i64 0), (.slice (some ⟨b64, 0, none⟩) y58.length c61), (.slice A70 c65.length c71), (.slice none 0 0), (.int .u8 0), (.int .i64 0)])] znI fun j => ?_))
    refine zbw (zbd (n := 23) hO rfl rfl fun b74 σ hO => ?_)
    have hO : Obs _ _ [_, _, _, _] := hO
    refine zg (zR (za hO [] [(2, znX p2), (10, znY b74)] znI fun j => ?_))
    refine zd3 (zk (zs ?_))
    have hO := hO.sel [3, 1, 0, 2] (by decide)
    exact ⟨b74, A54, c55, o56, c49, (some ⟨b64, 0, none⟩), c61, o62, y58, A70, c71, o72, c65, _, znW znH, hO, hL, w57, w63, w73, hF⟩
  ·rintro e σ ⟨b32, A33, c34, o35, x36, A38, c39, o40, x41, A43, c44, o45, x46, _, hA, hO, hL, w37, w42, w47, hF⟩
   rw [← zG _ _ hA]
   unfold zhJ at hF
   refine zc hO 5 [] [(10, znY b32), (42, znX p2), (45, .pointer (some ⟨b32, 17, none⟩))] znJ fun j => ?_
   refine zB hO (i := 0) rfl (off := 17) rfl rfl rfl rfl (Nat.le_of_ble_eq_true rfl) rfl fun σ hO => ?_
   have hO : Obs _ _ [_, _, _, _] := hO
   refine zg (za hO [] [(8, znY b32), (9, znX 0)] znI fun j => ?_)
   refine zo ?_
   have hO := hO.no
   have hO : Obs _ _ [_, _, _, _, _] := hO
   have w48 := zd.nil0 (T := (Ty.int .i64)) (ty := 2) hO
   injection hF with hF
   subst hF
   exact hQ _ _ _ _ _ rfl hO hL ⟨_, _, _, _, _, _, _, _, _, rfl, rfl, w37, w42, w47, w48⟩
theorem zkb {rr : (Option ze) × Int} : ∀ (v : Value) (τ1 τ2 : Hp) (vs : List Ob), (fun v τ' vs' => match rr.1 with | none => v = .tuple #[.pointer none, .int .i64 rr.2] ∧ vs' = [] | some m => ∃ (b : Nat) (u0 : Value) (y0 : Ob) (u18 : Value) (y18 : Ob) (u19 : Value) (y19 : Ob) (u20 : Value) (y20 : Ob), v = .tuple #[.pointer (some ⟨b, 0, none⟩), .int .i64 rr.2] ∧ vs' = [some (b, ⟨[u0, .int .i64 m.pc, .int .i64 (m.regs 0), .int .i64 (m.regs 1), .int .i64 (m.regs 2), .int .i64 (m.regs 3), .int .i64 (m.regs 4), .int .i64 (m.regs 5), .int .i64 (m.regs 6), .int .i64 (m.regs 7), .int .i64 (m.regs 8), .int .i64 (m.regs 9), .int .i64 (m.regs 10), .int .i64 (m.regs 11), .int .i64 (m.regs 12), .int .i64 (m.regs 13), .int .i64 (m.regs 14), .int .i64 (m.regs 15), u18, u19, u20, .int .u8 m.how.toNat, .int .i64 m.halting], 45, 23, true⟩), y0, y18, y19, y20] ∧ zd Ty.u8 5 τ' u0 m.code y0 ∧ zd (Ty.int .i64) 2 τ' u18 m.words y18 ∧ zd (Ty.int .i64) 2 τ' u19 m.input y19 ∧ zd (Ty.int .i64) 2 τ' u20 m.out y20) v τ1 vs → (fun v τ' vs' => match rr.1 with | none => v = .tuple #[.pointer none, .int .i64 rr.2] ∧ vs' = [] | some m => ∃ (b : Nat) (u0 : Value) (y0 : Ob) (u18 : Value) (y18 : Ob) (u19 : Value) (y19 : Ob) (u20 : Value) (y20 : Ob), v = .tuple #[.pointer (some ⟨b, 0, none⟩), .int .i64 rr.2] ∧ vs' = [some (b, ⟨[u0, .int .i64 m.pc, .int .i64 (m.regs 0), .int .i64 (m.regs 1), .int .i64 (m.regs 2), .int .i64 (m.regs 3), .int .i64 (m.regs 4), .int .i64 (m.regs 5), .int .i64 (m.regs 6), .int .i64 (m.regs 7), .int .i64 (m.regs 8), .int .i64 (m.regs 9), .int .i64 (m.regs 10), .int .i64 (m.regs 11), .int .i64 (m.regs 12), .int .i64 (m.regs 13), .int .i64 (m.regs 14), .int .i64 (m.regs 15), u18, u19, u20, .int .u8 m.how.toNat, .int .i64 m.halting], 45, 23, true⟩), y0, y18, y19, y20] ∧ zd Ty.u8 5 τ' u0 m.code y0 ∧ zd (Ty.int .i64) 2 τ' u18 m.words y18 ∧ zd (Ty.int .i64) 2 τ' u19 m.input y19 ∧ zd (Ty.int .i64) 2 τ' u20 m.out y20) v τ2 vs := fun v τ1 τ2 vs h => by
 dsimp only at h ⊢
 revert h
 cases rr.1 with
 | none => exact fun h => h
 | some m => exact fun ⟨b, u0, y0, u18, y18, u19, y19, u20, y20, h1, h2, f0, f18, f19, f20⟩ => ⟨b, u0, y0, u18, y18, u19, y19, u20, y20, h1, h2, f0.flat zd5, f18.flat (zeM .i64), f19.flat (zeM .i64), f20.flat (zeM .i64)⟩
theorem zic {τ : Hp} {q0 : ze} {bm0 : Nat} {vm0_0 : Value} {vm0_18 : Value} {om0_18 : Ob} {vm0_19 : Value} {vm0_20 : Value} {om0_20 : Ob} (rm0_0 : RdT Ty.u8 τ vm0_0 q0.code) (wm0_18 : zd (Ty.int .i64) 2 τ vm0_18 q0.words om0_18) (rm0_19 : RdT (Ty.int .i64) τ vm0_19 q0.input) (wm0_20 : zd (Ty.int .i64) 2 τ vm0_20 q0.out om0_20) {rr : Int} (hF : zcL q0 = some rr) :
  Ctr Try.prog 14 #[.pointer (some ⟨bm0, 0, none⟩)] τ [some (bm0, ⟨[vm0_0, .int .i64 q0.pc, .int .i64 (q0.regs 0), .int .i64 (q0.regs 1), .int .i64 (q0.regs 2), .int .i64 (q0.regs 3), .int .i64 (q0.regs 4), .int .i64 (q0.regs 5), .int .i64 (q0.regs 6), .int .i64 (q0.regs 7), .int .i64 (q0.regs 8), .int .i64 (q0.regs 9), .int .i64 (q0.regs 10), .int .i64 (q0.regs 11), .int .i64 (q0.regs 12), .int .i64 (q0.regs 13), .int .i64 (q0.regs 14), .int .i64 (q0.regs 15), vm0_18, vm0_19, vm0_20, .int .u8 q0.how.toNat, .int .i64 q0.halting], 45, 23, true⟩), om0_18, om0_20] (fun v τ' vs' => v = .int .u8 rr ∧ vs' = [some (bm0, ⟨[vm0_0, .int .i64 q0.pc, .int .i64 (q0.regs 0), .int .i64 (q0.regs 1), .int .i64 (q0.regs 2), .int .i64 (q0.regs 3), .int .i64 (q0.regs 4), .int .i64 (q0.regs 5), .int .i64 (q0.regs 6), .int .i64 (q0.regs 7), .int .i64 (q0.regs 8), .int .i64 (q0.regs 9), .int .i64 (q0.regs 10), .int .i64 (q0.regs 11), .int .i64 (q0.regs 12), .int .i64 (q0.regs 13), .int .i64 (q0.regs 14), .int .i64 (q0.regs 15), vm0_18, vm0_19, vm0_20, .int .u8 q0.how.toNat, .int .i64 q0.halting], 45, 23, true⟩), om0_18, om0_20]) := by
 obtain ⟨Am0_0, cm0_0, rfl, -⟩ := rm0_0.form
 obtain ⟨Am0_18, cm0_18, rfl, -⟩ := wm0_18.form
 obtain ⟨Am0_19, cm0_19, rfl, -⟩ := rm0_19.form
 obtain ⟨Am0_20, cm0_20, rfl, -⟩ := wm0_20.form
 refine zu (args := [.pointer (some ⟨bm0, 0, none⟩)]) hm Try.func14 s14 rfl fun w0 σ hO Q hQ => ?_
 unfold zcL at hF
 have hL := Hp.le.refl τ
 show wpn _ _ a14.body _ _ _
 unfold a14
 dsimp only
 refine za hO [] [(0, znY bm0)] znH fun j => ?_
 refine zf (za hO [] [(0, znY bm0), (4, .bool false)] znI fun j => ?_)
 refine zj rfl ?_
 refine zv (za hO [0] [(0, znY bm0), (2, .int .u8 (q0.how.toNat : Int))] (And.intro (And.intro rfl rfl) znI) fun j => ?_)
 refine zo ?_
 injection hF with hF
 subst hF
 exact hQ _ _ _ _ _ rfl hO hL ⟨rfl, rfl⟩
theorem zku {τ : Hp} {v0 : Value} {p0 : (List UInt8)} {v1 : Value} {p1 : (List UInt8)} (r0 : RdT Ty.u8 τ v0 p0) (r1 : RdT Ty.u8 τ v1 p1) {rr : Bool} (hF : zey p0 p1 = some rr) :
  Ctr Try.prog 33 #[v0, v1] τ [] (fun v τ' vs' => v = .bool rr ∧ vs' = []) := by
 obtain ⟨A0, c0, rfl, -⟩ := r0.form
 obtain ⟨A1, c1, rfl, -⟩ := r1.form
 refine zu (args := [.slice A0 p0.length c0, .slice A1 p1.length c1]) hm Try.func33 s33 rfl fun w0 σ hO Q hQ => ?_
 unfold zey at hF
 have hL := Hp.le.refl τ
 show wpn _ _ a33.body _ _ _
 unfold a33
 dsimp only
 refine za hO [] [(0, .slice A0 p0.length c0), (1, .slice A1 p1.length c1)] znI fun j => ?_
 refine zc hO 1 [] [(1, .slice A1 p1.length c1), (5, .slice A0 p0.length c0)] znI fun j => ?_
 refine ziP (l := p0) (r0.le hO.base) rfl ?_
 refine zc hO 1 [] [(6, .string (⟨p0.toArray⟩ : ByteArray)), (7, .slice A1 p1.length c1)] znI fun j => ?_
 refine ziP (l := p1) (r1.le hO.base) rfl ?_
 refine za hO [] [(4, .bool (zf1 (⟨p0.toArray⟩ : ByteArray) (⟨p1.toArray⟩ : ByteArray)))] znH fun j => ?_
 refine zo ?_
 injection hF with hF
 subst hF
 exact hQ _ _ _ _ _ rfl hO hL ⟨rfl, rfl⟩
theorem zje {τ : Hp} {v0 : Value} {p0 : (List UInt8)} {p1 : Int} (r0 : RdT Ty.u8 τ v0 p0) {rr : zb × Int × Int} (hF : z6 p0 p1 = some rr) :
  Ctr Try.prog 20 #[v0, .int .i64 p1] τ [] (fun v τ' vs' => v = .tuple #[.agg #[.int .u8 rr.1.Kind.toNat, .int .u8 rr.1.Op.toNat, .int .i64 rr.1.R, .int .i64 rr.1.S, .int .i64 rr.1.T, .int .i64 rr.1.N, .int .i64 rr.1.M], .int .i64 rr.2.1, .int .i64 rr.2.2] ∧ vs' = []) := by
 obtain ⟨A0, c0, rfl, -⟩ := r0.form
 refine zu (args := [.slice A0 p0.length c0, .int .i64 p1]) hm Try.func20 s20 rfl fun w0 σ hO Q hQ => ?_
 unfold z6 at hF
 have hL := Hp.le.refl τ
 show wpn _ _ a20.body _ _ _
 unfold a20
 dsimp only
 refine z5 hO fun b3 σ hO => ?_
 have hO : Obs _ _ [_] := hO
 refine za hO [] [(0, .slice A0 p0.length c0), (1, znX p1), (4, znY b3)] znJ fun j => ?_
 refine zf (za hO [] [(0, .slice A0 p0.length c0), (1, znX p1), (4, znY b3), (17, .bool ((decide (p1 < 0)) || (decide (p1 > (p0.length : Int)))))] (And.intro (And.intro rfl rfl) (fun _ => znW znJ)) fun j => ?_)
 rcases zi hF with ⟨hb4, hF⟩ | ⟨hb4, hF⟩
 ·refine zm (congrArg Value.bool hb4) ?_
  refine zf (zc hO 1 [0] [(4, znY b3), (18, .agg #[(.int .u8 0), (.int .u8 0), (.int .i64 0), (.int .i64 0), (.int .i64 0), (.int .i64 0), (.int .i64 0)])] (And.intro (And.intro rfl rfl) znI) fun j => ?_)
  refine zB hO (i := 0) rfl (off := 0) rfl rfl rfl rfl (Nat.le_of_ble_eq_true rfl) rfl fun σ hO => ?_
  have hO : Obs _ _ [_] := hO
  refine za hO [] [(4, znY b3), (5, znX 0), (6, znX 1)] znJ fun j => ?_
  refine zx ?_
  injection hF with hF
  subst hF
  have hV0 := hO.val (i := 0) rfl (off := 0) (agg := true) (n := 7) rfl
  have hO := hO.sel [] (by decide)
  exact hQ _ _ _ _ _ (z8 rfl (hV0) (zcu (zcu rfl))) hO hL ⟨rfl, rfl⟩
 ·refine zj (congrArg Value.bool hb4) ?_
  refine zv (zc hO 2 [] [(0, .slice A0 p0.length c0), (1, znX p1), (4, znY b3), (20, .slice A0 p0.length c0), (21, znX p1)] znL fun j => ?_)
  obtain ⟨c5, h6, hF⟩ := bind_some hF
  refine zt hO (ziM r0 h6) rfl fun _ σ _ _ hO h7 h8 => ?_
  have hL := hL.trans h7
  have r0 := r0.le h7
  obtain ⟨rfl, rfl⟩ := h8
  have hO : Obs _ _ [_] := hO
  refine zc hO 4 [] [(0, .slice A0 p0.length c0), (1, znX p1), (4, znY b3), (23, .agg #[(.int .u8 (c5.1.Kind.toNat : Int)), (.int .u8 (c5.1.Op.toNat : Int)), (.int .i64 c5.1.R), (.int .i64 c5.1.S), (.int .i64 c5.1.T), (.int .i64 c5.1.N), (.int .i64 c5.1.M)]), (24, znX c5.2.1), (25, .bool c5.2.2)] znM fun j => ?_
  refine z5 hO fun b9 σ hO => ?_
  have hO : Obs _ _ [_, _] := hO
  refine zB hO (i := 1) rfl (off := 0) rfl rfl rfl rfl (Nat.le_of_ble_eq_true rfl) rfl fun σ hO => ?_
  have hO : Obs _ _ [_, _] := hO
  refine za hO [] [(0, .slice A0 p0.length c0), (1, znX p1), (4, znY b3), (7, znY b9), (8, znX c5.2.1), (9, .bool c5.2.2)] znM fun j => ?_
  refine zf (zbB (zc hO 3 [] [(0, .slice A0 p0.length c0), (1, znX p1), (4, znY b3), (7, znY b9), (8, znX c5.2.1), (28, .bool (!c5.2.2))] znM fun j => ?_))
  obtain ⟨c10, h11, hF⟩ := bind_some hF
  refine zcp 2 (fun e' σ' => ∃ (τ' : Hp), agr [(32, .bool c10), (0, .slice A0 p0.length c0), (1, znX p1), (4, znY b3), (7, znY b9), (8, znX c5.2.1)] e' ∧ Obs τ' σ' [some (b3, ⟨[.int .u8 0, .int .u8 0, .int .i64 0, .int .i64 0, .int .i64 0, .int .i64 0, .int .i64 0], 25, 7, true⟩), some (b9, ⟨[.int .u8 (c5.1.Kind.toNat : Int), .int .u8 (c5.1.Op.toNat : Int), .int .i64 c5.1.R, .int .i64 c5.1.S, .int .i64 c5.1.T, .int .i64 c5.1.N, .int .i64 c5.1.M], 25, 7, true⟩)] ∧ Hp.le τ τ' ∧ RdT Ty.u8 τ' (.slice A0 p0.length c0) p0) ?_ ?_
  ·have hF := h11
   rcases zi hF with ⟨hb12, hF⟩ | ⟨hb12, hF⟩
   ·refine zb7 (congrArg (fun x => isB (.bool x) false) hb12) ?_
    refine z9 (congrArg Value.bool hb12) ?_
    refine zg ?_
    injection hF with hF
    subst hF
    refine zk ?_
    exact ⟨rfl, _, znW znL, hO, hL, r0⟩
   ·refine zb9 (congrArg (fun x => isB (.bool x) false) hb12) ?_
    refine zc hO 1 [1] [(0, .slice A0 p0.length c0), (1, znX p1), (4, znY b3), (7, znY b9), (8, znX c5.2.1), (28, .bool (!c5.2.2)), (29, .agg #[(.int .u8 (c5.1.Kind.toNat : Int)), (.int .u8 (c5.1.Op.toNat : Int)), (.int .i64 c5.1.R), (.int .i64 c5.1.S), (.int .i64 c5.1.T), (.int .i64 c5.1.N), (.int .i64 c5.1.M)])] (And.intro (And.intro rfl rfl) znN) fun j => ?_
    obtain ⟨c13, h14, hF⟩ := bind_some hF
    refine zt hO (zjg (p0 := (⟨c5.1.Kind, c5.1.Op, c5.1.R, c5.1.S, c5.1.T, c5.1.N, c5.1.M⟩ : zb)) h14) rfl fun _ σ _ _ hO h15 h16 => ?_
    have hL := hL.trans h15
    have r0 := r0.le h15
    obtain ⟨rfl, rfl⟩ := h16
    have hO : Obs _ _ [_, _] := hO
    refine zc hO 1 [] [(0, .slice A0 p0.length c0), (1, znX p1), (4, znY b3), (7, znY b9), (8, znX c5.2.1), (28, .bool (!c5.2.2)), (31, .bool (!c13))] znN fun j => ?_
    refine z9 (congrArg Value.bool hb12) ?_
    refine zg ?_
    injection hF with hF
    subst hF
    refine zk ?_
    exact ⟨rfl, _, znW znL, hO, hL, r0⟩
  ·rintro e σ ⟨_, hA, hO, hL, r0⟩
   rw [← zG _ _ hA]
   refine zc hO 1 [] [(0, .slice A0 p0.length c0), (1, znX p1), (4, znY b3), (7, znY b9), (8, znX c5.2.1), (33, .bool c10)] znM fun j => ?_
   obtain ⟨c17, h18, hF⟩ := bind_some hF
   refine zcp 2 (fun e' σ' => ∃ (τ' : Hp), agr [(42, .bool c17), (4, znY b3), (7, znY b9), (8, znX c5.2.1)] e' ∧ Obs τ' σ' [some (b3, ⟨[.int .u8 0, .int .u8 0, .int .i64 0, .int .i64 0, .int .i64 0, .int .i64 0, .int .i64 0], 25, 7, true⟩), some (b9, ⟨[.int .u8 (c5.1.Kind.toNat : Int), .int .u8 (c5.1.Op.toNat : Int), .int .i64 c5.1.R, .int .i64 c5.1.S, .int .i64 c5.1.T, .int .i64 c5.1.N, .int .i64 c5.1.M], 25, 7, true⟩)] ∧ Hp.le τ τ') ?_ ?_
   ·have hF := h18
    rcases zi hF with ⟨hb19, hF⟩ | ⟨hb19, hF⟩
    ·refine zb7 (congrArg (fun x => isB (.bool x) false) hb19) ?_
     refine z9 (congrArg Value.bool hb19) ?_
     refine zg ?_
     injection hF with hF
     subst hF
     refine zk ?_
     exact ⟨rfl, _, znW znJ, hO, hL⟩
    ·refine zb9 (congrArg (fun x => isB (.bool x) false) hb19) ?_
     refine zc hO 4 [1] [(4, znY b3), (7, znY b9), (8, znX c5.2.1), (33, .bool c10), (34, .agg #[(.int .u8 (c5.1.Kind.toNat : Int)), (.int .u8 (c5.1.Op.toNat : Int)), (.int .i64 c5.1.R), (.int .i64 c5.1.S), (.int .i64 c5.1.T), (.int .i64 c5.1.N), (.int .i64 c5.1.M)]), (36, .slice A0 p0.length c0), (37, znX p1), (38, znX c5.2.1)] (And.intro (And.intro rfl rfl) znO) fun j => ?_
     obtain ⟨y20, g21, hF⟩ := bind_some hF
     refine zc4 (T := Ty.u8) r0 rfl rfl rfl g21 fun _ r22 => ?_
     obtain ⟨A23, c24, rfl, -⟩ := r22.form
     obtain ⟨c25, h26, hF⟩ := bind_some hF
     refine zt hO (zdO (p1 := (⟨c5.1.Kind, c5.1.Op, c5.1.R, c5.1.S, c5.1.T, c5.1.N, c5.1.M⟩ : zb)) (RdT.nil Ty.u8 _) h26) rfl fun _ σ _ _ hO h27 h28 => ?_
     have hL := hL.trans h27
     have r0 := r0.le h27
     have r22 := r22.le h27
     obtain ⟨v29, o32, rfl, rfl, w33⟩ := h28
     obtain ⟨A30, c31, rfl, -⟩ := w33.form
     have hO : Obs _ _ [_, _, _] := hO
     obtain ⟨_, h35, r34, hO⟩ := w33.share hO (i := 2) rfl
     have hL := hL.trans h35
     have r0 := r0.le h35
     have r22 := r22.le h35
     have hO : Obs _ _ [_, _, _] := hO
     obtain ⟨c36, h37, hF⟩ := bind_some hF
     refine zt hO (zku r34 r22 h37) rfl fun _ σ _ _ hO h38 h39 => ?_
     have hL := hL.trans h38
     have r34 := r34.le h38
     have r0 := r0.le h38
     have r22 := r22.le h38
     obtain ⟨rfl, rfl⟩ := h39
     have hO : Obs _ _ [_, _, _] := hO
     refine zc hO 1 [] [(4, znY b3), (7, znY b9), (8, znX c5.2.1), (33, .bool c10), (41, .bool (!c36))] znL fun j => ?_
     refine z9 (congrArg Value.bool hb19) ?_
     refine zg ?_
     injection hF with hF
     subst hF
     refine zk ?_
     have hO := hO.sel [0, 1] (by decide)
     exact ⟨rfl, _, znW znJ, hO, hL⟩
   ·rintro e σ ⟨_, hA, hO, hL⟩
    rw [← zG _ _ hA]
    refine zg ?_
    rcases zi hF with ⟨hb40, hF⟩ | ⟨hb40, hF⟩
    ·refine zm (congrArg Value.bool hb40) ?_
     refine zf (zc hO 1 [0] [(4, znY b3), (43, .agg #[(.int .u8 0), (.int .u8 0), (.int .i64 0), (.int .i64 0), (.int .i64 0), (.int .i64 0), (.int .i64 0)])] (And.intro (And.intro rfl rfl) znI) fun j => ?_)
     refine zB hO (i := 0) rfl (off := 0) rfl rfl rfl rfl (Nat.le_of_ble_eq_true rfl) rfl fun σ hO => ?_
     have hO : Obs _ _ [_, _] := hO
     refine za hO [] [(4, znY b3), (5, znX 0), (6, znX 5)] znJ fun j => ?_
     refine zx ?_
     injection hF with hF
     subst hF
     have hV0 := hO.val (i := 0) rfl (off := 0) (agg := true) (n := 7) rfl
     have hO := hO.sel [] (by decide)
     exact hQ _ _ _ _ _ (z8 rfl (hV0) (zcu (zcu rfl))) hO hL ⟨rfl, rfl⟩
    ·refine zj (congrArg Value.bool hb40) ?_
     refine zv (zc hO 2 [1] [(4, znY b3), (44, .agg #[(.int .u8 (c5.1.Kind.toNat : Int)), (.int .u8 (c5.1.Op.toNat : Int)), (.int .i64 c5.1.R), (.int .i64 c5.1.S), (.int .i64 c5.1.T), (.int .i64 c5.1.N), (.int .i64 c5.1.M)]), (45, znX c5.2.1)] (And.intro (And.intro rfl rfl) znJ) fun j => ?_)
     refine zB hO (i := 0) rfl (off := 0) rfl rfl rfl rfl (Nat.le_of_ble_eq_true rfl) rfl fun σ hO => ?_
     have hO : Obs _ _ [_, _] := hO
     refine za hO [] [(4, znY b3), (5, znX c5.2.1), (6, znX 0)] znJ fun j => ?_
     refine zo ?_
     injection hF with hF
     subst hF
     have hV0 := hO.val (i := 0) rfl (off := 0) (agg := true) (n := 7) rfl
     have hO := hO.sel [] (by decide)
     exact hQ _ _ _ _ _ (z8 rfl (hV0) (zcu (zcu rfl))) hO hL ⟨rfl, rfl⟩
theorem zbk {τ : Hp} {p0 : Int}  {rr : Except (Value) (Unit)} (hF : zbJ p0 = some rr) :
  zbj Try.prog 21 #[.int .u8 p0] τ [] (fun v τ' vs' => match rr with | .ok rr => v = .tuple #[] ∧ vs' = [] | .error _ => False) (fun ch τ' vs' => match rr with | .ok _ => False | .error ee => ch = [{ v := ee, recovered := false }] ∧ vs' = []) := by
 refine zbW (args := [.int .u8 p0]) hm Try.func21 s21 rfl fun w0 σ hP hO Q hQ => ?_
 unfold zbJ at hF
 have hL := Hp.le.refl τ
 show wpn _ _ a21.body _ _ _
 unfold a21
 dsimp only
 refine zT (zc hO 2 [] [(3, .iface 58 (.int .u8 p0))] znH fun j => ?_)
 refine zms rfl ?_
 injection hF with hF
 subst hF
 exact hP _ _ _ _ hO hL ⟨rfl, rfl⟩
theorem zgy {τ : Hp} {q0 : ze} {bm0 : Nat} {vm0_0 : Value} {vm0_18 : Value} {om0_18 : Ob} {vm0_19 : Value} {vm0_20 : Value} {om0_20 : Ob} {p1 : Int} (rm0_0 : RdT Ty.u8 τ vm0_0 q0.code) (wm0_18 : zd (Ty.int .i64) 2 τ vm0_18 q0.words om0_18) (rm0_19 : RdT (Ty.int .i64) τ vm0_19 q0.input) (wm0_20 : zd (Ty.int .i64) 2 τ vm0_20 q0.out om0_20) {rr : Except (Value) (Int)} (hF : zdX q0 p1 = some rr) :
  zbj Try.prog 70 #[.pointer (some ⟨bm0, 0, none⟩), .int .i64 p1] τ [some (bm0, ⟨[vm0_0, .int .i64 q0.pc, .int .i64 (q0.regs 0), .int .i64 (q0.regs 1), .int .i64 (q0.regs 2), .int .i64 (q0.regs 3), .int .i64 (q0.regs 4), .int .i64 (q0.regs 5), .int .i64 (q0.regs 6), .int .i64 (q0.regs 7), .int .i64 (q0.regs 8), .int .i64 (q0.regs 9), .int .i64 (q0.regs 10), .int .i64 (q0.regs 11), .int .i64 (q0.regs 12), .int .i64 (q0.regs 13), .int .i64 (q0.regs 14), .int .i64 (q0.regs 15), vm0_18, vm0_19, vm0_20, .int .u8 q0.how.toNat, .int .i64 q0.halting], 45, 23, true⟩), om0_18, om0_20] (fun v τ' vs' => match rr with | .ok rr => v = .int .i64 rr ∧ vs' = [some (bm0, ⟨[vm0_0, .int .i64 q0.pc, .int .i64 (q0.regs 0), .int .i64 (q0.regs 1), .int .i64 (q0.regs 2), .int .i64 (q0.regs 3), .int .i64 (q0.regs 4), .int .i64 (q0.regs 5), .int .i64 (q0.regs 6), .int .i64 (q0.regs 7), .int .i64 (q0.regs 8), .int .i64 (q0.regs 9), .int .i64 (q0.regs 10), .int .i64 (q0.regs 11), .int .i64 (q0.regs 12), .int .i64 (q0.regs 13), .int .i64 (q0.regs 14), .int .i64 (q0.regs 15), vm0_18, vm0_19, vm0_20, .int .u8 q0.how.toNat, .int .i64 q0.halting], 45, 23, true⟩), om0_18, om0_20] | .error _ => False) (fun ch τ' vs' => match rr with | .ok _ => False | .error ee => ch = [{ v := ee, recovered := false }] ∧ vs' = [some (bm0, ⟨[vm0_0, .int .i64 q0.pc, .int .i64 (q0.regs 0), .int .i64 (q0.regs 1), .int .i64 (q0.regs 2), .int .i64 (q0.regs 3), .int .i64 (q0.regs 4), .int .i64 (q0.regs 5), .int .i64 (q0.regs 6), .int .i64 (q0.regs 7), .int .i64 (q0.regs 8), .int .i64 (q0.regs 9), .int .i64 (q0.regs 10), .int .i64 (q0.regs 11), .int .i64 (q0.regs 12), .int .i64 (q0.regs 13), .int .i64 (q0.regs 14), .int .i64 (q0.regs 15), vm0_18, vm0_19, vm0_20, .int .u8 q0.how.toNat, .int .i64 q0.halting], 45, 23, true⟩), om0_18, om0_20]) := by
 obtain ⟨Am0_0, cm0_0, rfl, -⟩ := rm0_0.form
 obtain ⟨Am0_18, cm0_18, rfl, -⟩ := wm0_18.form
 obtain ⟨Am0_19, cm0_19, rfl, -⟩ := rm0_19.form
 obtain ⟨Am0_20, cm0_20, rfl, -⟩ := wm0_20.form
 refine zbW (args := [.pointer (some ⟨bm0, 0, none⟩), .int .i64 p1]) hm Try.func70 s70 rfl fun w0 σ hP hO Q hQ => ?_
 unfold zdX at hF
 have hL := Hp.le.refl τ
 show wpn _ _ a70.body _ _ _
 unfold a70
 dsimp only
 refine za hO [] [(0, znY bm0), (1, znX p1)] znI fun j => ?_
 refine za hO [0] [(0, znY bm0), (5, znX (IntKind.i64.wrap ((q0.regs 15) - p1)))] (And.intro (And.intro rfl rfl) znI) fun j => ?_
 refine zf (za hO [] [(0, znY bm0), (5, znX (IntKind.i64.wrap ((q0.regs 15) - p1))), (14, .bool (decide ((IntKind.i64.wrap ((q0.regs 15) - p1)) < 0)))] znJ fun j => ?_)
 rcases zi hF with ⟨hb3, hF⟩ | ⟨hb3, hF⟩
 ·refine zm (congrArg Value.bool hb3) ?_
  rcases zU hF with ⟨x8, h9, hF⟩ | ⟨c4, h5, hF⟩
  ·refine zbT hO (zbk h9) (fun _ _ _ h => False.elim h) rfl fun _ σ _ _ hO h10 h11 => ?_
   have hL := hL.trans h10
   have rm0_0 := rm0_0.le h10
   have wm0_18 := wm0_18.le h10
   have rm0_19 := rm0_19.le h10
   have wm0_20 := wm0_20.le h10
   obtain ⟨rfl, rfl⟩ := h11
   have hO : Obs _ _ [_, _, _] := hO
   injection hF with hF
   subst hF
   exact hP _ _ _ _ hO hL ⟨rfl, rfl⟩
  ·refine zb5 hO (zbk h5) (fun _ _ _ h => False.elim h) rfl fun _ σ _ _ hO h6 h7 => ?_
   have hL := hL.trans h6
   have rm0_0 := rm0_0.le h6
   have wm0_18 := wm0_18.le h6
   have rm0_19 := rm0_19.le h6
   have wm0_20 := wm0_20.le h6
   obtain ⟨rfl, rfl⟩ := h7
   have hO : Obs _ _ [_, _, _] := hO
   refine zg (za hO [] [(0, znY bm0), (4, znX (IntKind.i64.wrap ((q0.regs 15) - p1)))] znI fun j => ?_)
   refine zo ?_
   injection hF with hF
   subst hF
   exact (hQ _ _ _ _ _ rfl hO hL ⟨rfl, rfl⟩).1
 ·refine zj (congrArg Value.bool hb3) ?_
  refine zv (za hO [] [(0, znY bm0), (4, znX (IntKind.i64.wrap ((q0.regs 15) - p1)))] znI fun j => ?_)
  refine zo ?_
  injection hF with hF
  subst hF
  exact (hQ _ _ _ _ _ rfl hO hL ⟨rfl, rfl⟩).1
theorem zcU {τ : Hp} {q0 : ze} {bm0 : Nat} {vm0_0 : Value} {vm0_18 : Value} {om0_18 : Ob} {vm0_19 : Value} {vm0_20 : Value} {om0_20 : Ob} {p1 : Int} (rm0_0 : RdT Ty.u8 τ vm0_0 q0.code) (wm0_18 : zd (Ty.int .i64) 2 τ vm0_18 q0.words om0_18) (rm0_19 : RdT (Ty.int .i64) τ vm0_19 q0.input) (wm0_20 : zd (Ty.int .i64) 2 τ vm0_20 q0.out om0_20) {rr : Except (Value) (Int)} (hF : zcN q0 p1 = some rr) :
  zbj Try.prog 71 #[.pointer (some ⟨bm0, 0, none⟩), .int .i64 p1] τ [some (bm0, ⟨[vm0_0, .int .i64 q0.pc, .int .i64 (q0.regs 0), .int .i64 (q0.regs 1), .int .i64 (q0.regs 2), .int .i64 (q0.regs 3), .int .i64 (q0.regs 4), .int .i64 (q0.regs 5), .int .i64 (q0.regs 6), .int .i64 (q0.regs 7), .int .i64 (q0.regs 8), .int .i64 (q0.regs 9), .int .i64 (q0.regs 10), .int .i64 (q0.regs 11), .int .i64 (q0.regs 12), .int .i64 (q0.regs 13), .int .i64 (q0.regs 14), .int .i64 (q0.regs 15), vm0_18, vm0_19, vm0_20, .int .u8 q0.how.toNat, .int .i64 q0.halting], 45, 23, true⟩), om0_18, om0_20] (fun v τ' vs' => match rr with | .ok rr => v = .pointer ((slA vm0_18).map (fun x => x.add (Int.toNat rr * 1))) ∧ vs' = [some (bm0, ⟨[vm0_0, .int .i64 q0.pc, .int .i64 (q0.regs 0), .int .i64 (q0.regs 1), .int .i64 (q0.regs 2), .int .i64 (q0.regs 3), .int .i64 (q0.regs 4), .int .i64 (q0.regs 5), .int .i64 (q0.regs 6), .int .i64 (q0.regs 7), .int .i64 (q0.regs 8), .int .i64 (q0.regs 9), .int .i64 (q0.regs 10), .int .i64 (q0.regs 11), .int .i64 (q0.regs 12), .int .i64 (q0.regs 13), .int .i64 (q0.regs 14), .int .i64 (q0.regs 15), vm0_18, vm0_19, vm0_20, .int .u8 q0.how.toNat, .int .i64 q0.halting], 45, 23, true⟩), om0_18, om0_20] | .error _ => False) (fun ch τ' vs' => match rr with | .ok _ => False | .error ee => ch = [{ v := ee, recovered := false }] ∧ vs' = [some (bm0, ⟨[vm0_0, .int .i64 q0.pc, .int .i64 (q0.regs 0), .int .i64 (q0.regs 1), .int .i64 (q0.regs 2), .int .i64 (q0.regs 3), .int .i64 (q0.regs 4), .int .i64 (q0.regs 5), .int .i64 (q0.regs 6), .int .i64 (q0.regs 7), .int .i64 (q0.regs 8), .int .i64 (q0.regs 9), .int .i64 (q0.regs 10), .int .i64 (q0.regs 11), .int .i64 (q0.regs 12), .int .i64 (q0.regs 13), .int .i64 (q0.regs 14), .int .i64 (q0.regs 15), vm0_18, vm0_19, vm0_20, .int .u8 q0.how.toNat, .int .i64 q0.halting], 45, 23, true⟩), om0_18, om0_20]) := by
 obtain ⟨Am0_0, cm0_0, rfl, -⟩ := rm0_0.form
 obtain ⟨Am0_18, cm0_18, rfl, -⟩ := wm0_18.form
 obtain ⟨Am0_19, cm0_19, rfl, -⟩ := rm0_19.form
 obtain ⟨Am0_20, cm0_20, rfl, -⟩ := wm0_20.form
 refine zbW (args := [.pointer (some ⟨bm0, 0, none⟩), .int .i64 p1]) hm Try.func71 s71 rfl fun w0 σ hP hO Q hQ => ?_
 unfold zcN at hF
 have hL := Hp.le.refl τ
 show wpn _ _ a71.body _ _ _
 unfold a71
 dsimp only
 refine za hO [] [(0, znY bm0), (1, znX p1)] znI fun j => ?_
 refine zf (za hO [0] [(0, znY bm0), (1, znX p1), (15, .bool ((decide (p1 < 0)) || (decide (p1 ≥ (q0.words.length : Int)))))] (And.intro (And.intro rfl rfl) (And.intro (And.intro rfl rfl) (fun _ => znW znI))) fun j => ?_)
 rcases zi hF with ⟨hb3, hF⟩ | ⟨hb3, hF⟩
 ·refine zm (congrArg Value.bool hb3) ?_
  rcases zU hF with ⟨x8, h9, hF⟩ | ⟨c4, h5, hF⟩
  ·refine zbT hO (zbk h9) (fun _ _ _ h => False.elim h) rfl fun _ σ _ _ hO h10 h11 => ?_
   have hL := hL.trans h10
   have rm0_0 := rm0_0.le h10
   have wm0_18 := wm0_18.le h10
   have rm0_19 := rm0_19.le h10
   have wm0_20 := wm0_20.le h10
   obtain ⟨rfl, rfl⟩ := h11
   have hO : Obs _ _ [_, _, _] := hO
   injection hF with hF
   subst hF
   exact hP _ _ _ _ hO hL ⟨rfl, rfl⟩
  ·refine zb5 hO (zbk h5) (fun _ _ _ h => False.elim h) rfl fun _ σ _ _ hO h6 h7 => ?_
   have hL := hL.trans h6
   have rm0_0 := rm0_0.le h6
   have wm0_18 := wm0_18.le h6
   have rm0_19 := rm0_19.le h6
   have wm0_20 := wm0_20.le h6
   obtain ⟨rfl, rfl⟩ := h7
   have hO : Obs _ _ [_, _, _] := hO
   refine zg (zc hO 5 [0] [(0, znY bm0), (20, .slice Am0_18 q0.words.length cm0_18), (21, znX p1)] (And.intro (And.intro rfl rfl) znJ) fun j => ?_)
   obtain ⟨y12, g13, hF⟩ := bind_some hF
   refine zdu (T := (Ty.int .i64)) hO wm0_18 (i := 1) rfl rfl rfl g13 (by decide) fun a14 _ k15 m16 i17 => ?_
   have k18 := k15
   obtain rfl : _ = ([.int .i64 y12] : List Value) := k18
   refine za hO [] [(0, znY bm0), (4, .pointer (some a14))] znI fun j => ?_
   refine zo ?_
   injection hF with hF
   subst hF
   refine (hQ _ _ _ _ _ rfl hO hL ?_).1
   exact ⟨(congrArg Value.pointer (zd.ptr wm0_18 i17 rfl)), rfl⟩
 ·refine zj (congrArg Value.bool hb3) ?_
  refine zv (zc hO 5 [0] [(0, znY bm0), (20, .slice Am0_18 q0.words.length cm0_18), (21, znX p1)] (And.intro (And.intro rfl rfl) znJ) fun j => ?_)
  obtain ⟨y19, g20, hF⟩ := bind_some hF
  refine zdu (T := (Ty.int .i64)) hO wm0_18 (i := 1) rfl rfl rfl g20 (by decide) fun a21 _ k22 m23 i24 => ?_
  have k25 := k22
  obtain rfl : _ = ([.int .i64 y19] : List Value) := k25
  refine za hO [] [(0, znY bm0), (4, .pointer (some a21))] znI fun j => ?_
  refine zo ?_
  injection hF with hF
  subst hF
  refine (hQ _ _ _ _ _ rfl hO hL ?_).1
  exact ⟨(congrArg Value.pointer (zd.ptr wm0_18 i24 rfl)), rfl⟩
theorem zin {τ : Hp} {q0 : ze} {bm0 : Nat} {vm0_0 : Value} {vm0_18 : Value} {om0_18 : Ob} {vm0_19 : Value} {vm0_20 : Value} {om0_20 : Ob} {p1 : Int} {p2 : Int} (rm0_0 : RdT Ty.u8 τ vm0_0 q0.code) (wm0_18 : zd (Ty.int .i64) 2 τ vm0_18 q0.words om0_18) (rm0_19 : RdT (Ty.int .i64) τ vm0_19 q0.input) (wm0_20 : zd (Ty.int .i64) 2 τ vm0_20 q0.out om0_20) {rr : Except (Value × ze) (Int × ze)} (hF : zgD q0 p1 p2 = some rr) :
  zbj Try.prog 34 #[.pointer (some ⟨bm0, 0, none⟩), .int .i64 p1, .int .i64 p2] τ [some (bm0, ⟨[vm0_0, .int .i64 q0.pc, .int .i64 (q0.regs 0), .int .i64 (q0.regs 1), .int .i64 (q0.regs 2), .int .i64 (q0.regs 3), .int .i64 (q0.regs 4), .int .i64 (q0.regs 5), .int .i64 (q0.regs 6), .int .i64 (q0.regs 7), .int .i64 (q0.regs 8), .int .i64 (q0.regs 9), .int .i64 (q0.regs 10), .int .i64 (q0.regs 11), .int .i64 (q0.regs 12), .int .i64 (q0.regs 13), .int .i64 (q0.regs 14), .int .i64 (q0.regs 15), vm0_18, vm0_19, vm0_20, .int .u8 q0.how.toNat, .int .i64 q0.halting], 45, 23, true⟩), om0_18, om0_20] (fun v τ' vs' => match rr with | .ok rr => ∃ (u0_0 : Value) (u0_18 : Value) (y0_18 : Ob) (u0_19 : Value) (u0_20 : Value) (y0_20 : Ob), v = .int .i64 rr.1 ∧ vs' = [some (bm0, ⟨[u0_0, .int .i64 rr.2.pc, .int .i64 (rr.2.regs 0), .int .i64 (rr.2.regs 1), .int .i64 (rr.2.regs 2), .int .i64 (rr.2.regs 3), .int .i64 (rr.2.regs 4), .int .i64 (rr.2.regs 5), .int .i64 (rr.2.regs 6), .int .i64 (rr.2.regs 7), .int .i64 (rr.2.regs 8), .int .i64 (rr.2.regs 9), .int .i64 (rr.2.regs 10), .int .i64 (rr.2.regs 11), .int .i64 (rr.2.regs 12), .int .i64 (rr.2.regs 13), .int .i64 (rr.2.regs 14), .int .i64 (rr.2.regs 15), u0_18, u0_19, u0_20, .int .u8 rr.2.how.toNat, .int .i64 rr.2.halting], 45, 23, true⟩), y0_18, y0_20] ∧ RdT Ty.u8 τ' u0_0 rr.2.code ∧ zd (Ty.int .i64) 2 τ' u0_18 rr.2.words y0_18 ∧ RdT (Ty.int .i64) τ' u0_19 rr.2.input ∧ zd (Ty.int .i64) 2 τ' u0_20 rr.2.out y0_20 | .error _ => False) (fun ch τ' vs' => match rr with | .ok _ => False | .error ee => ∃ (u0_0 : Value) (u0_18 : Value) (y0_18 : Ob) (u0_19 : Value) (u0_20 : Value) (y0_20 : Ob), ch = [{ v := ee.1, recovered := false }] ∧ vs' = [some (bm0, ⟨[u0_0, .int .i64 ee.2.pc, .int .i64 (ee.2.regs 0), .int .i64 (ee.2.regs 1), .int .i64 (ee.2.regs 2), .int .i64 (ee.2.regs 3), .int .i64 (ee.2.regs 4), .int .i64 (ee.2.regs 5), .int .i64 (ee.2.regs 6), .int .i64 (ee.2.regs 7), .int .i64 (ee.2.regs 8), .int .i64 (ee.2.regs 9), .int .i64 (ee.2.regs 10), .int .i64 (ee.2.regs 11), .int .i64 (ee.2.regs 12), .int .i64 (ee.2.regs 13), .int .i64 (ee.2.regs 14), .int .i64 (ee.2.regs 15), u0_18, u0_19, u0_20, .int .u8 ee.2.how.toNat, .int .i64 ee.2.halting], 45, 23, true⟩), y0_18, y0_20] ∧ RdT Ty.u8 τ' u0_0 ee.2.code ∧ zd (Ty.int .i64) 2 τ' u0_18 ee.2.words y0_18 ∧ RdT (Ty.int .i64) τ' u0_19 ee.2.input ∧ zd (Ty.int .i64) 2 τ' u0_20 ee.2.out y0_20) := by
 obtain ⟨Am0_0, cm0_0, rfl, -⟩ := rm0_0.form
 obtain ⟨Am0_18, cm0_18, rfl, -⟩ := wm0_18.form
 obtain ⟨Am0_19, cm0_19, rfl, -⟩ := rm0_19.form
 obtain ⟨Am0_20, cm0_20, rfl, -⟩ := wm0_20.form
 refine zbW (args := [.pointer (some ⟨bm0, 0, none⟩), .int .i64 p1, .int .i64 p2]) hm Try.func34 s34 rfl fun w0 σ hP hO Q hQ => ?_
 unfold zgD at hF
 have hL := Hp.le.refl τ
 show wpn _ _ a34.body _ _ _
 unfold a34
 dsimp only
 refine za hO [] [(0, znY bm0), (1, znX p1), (2, znX p2)] znJ fun j => ?_
 refine zc hO 1 [] [(0, znY bm0), (1, znX p1), (2, znX p2), (8, znY bm0)] znK fun j => ?_
 rcases zU hF with ⟨x8, h9, hF⟩ | ⟨c4, h5, hF⟩
 ·refine zbE (hs := []) (vs := [_, _, _]) hO (zgy (q0 := (⟨q0.code, q0.pc, q0.regs, q0.words, q0.input, q0.out, q0.how, q0.halting⟩ : ze)) rm0_0 wm0_18 rm0_19 wm0_20 h9) (fun _ _ _ h => False.elim h) rfl fun _ σ _ _ hO h10 h11 => ?_
  have hL := hL.trans h10
  have rm0_0 := rm0_0.le h10
  have wm0_18 := wm0_18.le h10
  have rm0_19 := rm0_19.le h10
  have wm0_20 := wm0_20.le h10
  obtain ⟨rfl, rfl⟩ := h11
  have hO : Obs _ _ [_, _, _] := hO
  injection hF with hF
  subst hF
  exact hP _ _ _ _ hO hL ⟨_, _, _, _, _, _, rfl, rfl, rm0_0, wm0_18, rm0_19, wm0_20⟩
 ·refine zbD (hs := []) (vs := [_, _, _]) hO (zgy (q0 := (⟨q0.code, q0.pc, q0.regs, q0.words, q0.input, q0.out, q0.how, q0.halting⟩ : ze)) rm0_0 wm0_18 rm0_19 wm0_20 h5) (fun _ _ _ h => False.elim h) rfl fun _ σ _ _ hO h6 h7 => ?_
  have hL := hL.trans h6
  have rm0_0 := rm0_0.le h6
  have wm0_18 := wm0_18.le h6
  have rm0_19 := rm0_19.le h6
  have wm0_20 := wm0_20.le h6
  obtain ⟨rfl, rfl⟩ := h7
  have hO : Obs _ _ [_, _, _] := hO
  refine za hO [] [(0, znY bm0), (1, znX p1), (2, znX p2), (7, znX c4)] znK fun j => ?_
  refine zc hO 2 [] [(0, znY bm0), (1, znX p1), (2, znX p2), (7, znX c4), (10, znY bm0), (11, znX c4)] znM fun j => ?_
  rcases zU hF with ⟨x16, h17, hF⟩ | ⟨c12, h13, hF⟩
  ·refine zbE (hs := []) (vs := [_, _, _]) hO (zcU (q0 := (⟨q0.code, q0.pc, q0.regs, q0.words, q0.input, q0.out, q0.how, q0.halting⟩ : ze)) rm0_0 wm0_18 rm0_19 wm0_20 h17) (fun _ _ _ h => False.elim h) rfl fun _ σ _ _ hO h18 h19 => ?_
   have hL := hL.trans h18
   have rm0_0 := rm0_0.le h18
   have wm0_18 := wm0_18.le h18
   have rm0_19 := rm0_19.le h18
   have wm0_20 := wm0_20.le h18
   obtain ⟨rfl, rfl⟩ := h19
   have hO : Obs _ _ [_, _, _] := hO
   injection hF with hF
   subst hF
   exact hP _ _ _ _ hO hL ⟨_, _, _, _, _, _, rfl, rfl, rm0_0, wm0_18, rm0_19, wm0_20⟩
  ·refine zbD (hs := []) (vs := [_, _, _]) hO (zcU (q0 := (⟨q0.code, q0.pc, q0.regs, q0.words, q0.input, q0.out, q0.how, q0.halting⟩ : ze)) rm0_0 wm0_18 rm0_19 wm0_20 h13) (fun _ _ _ h => False.elim h) rfl fun _ σ _ _ hO h14 h15 => ?_
   have hL := hL.trans h14
   have rm0_0 := rm0_0.le h14
   have wm0_18 := wm0_18.le h14
   have rm0_19 := rm0_19.le h14
   have wm0_20 := wm0_20.le h14
   obtain ⟨h20, rfl⟩ := h15
   have hO : Obs _ _ [_, _, _] := hO
   obtain ⟨y21, g22, hF⟩ := bind_some hF
   obtain ⟨a23, _, h25, k24, m26, i27⟩ := zd.at_ hO wm0_18 (i := 1) rfl g22 (n := 1) rfl
   have h20 : _ = Value.pointer (some a23) := h20.trans (congrArg Value.pointer h25)
   subst h20
   have k28 := k24
   obtain rfl : _ = ([.int .i64 y21] : List Value) := k28
   refine zc hO 2 [] [(0, znY bm0), (1, znX p1), (7, znX c4), (13, znX p2), (14, .pointer (some a23))] znL fun j => ?_
   refine zhR (T := (Ty.int .i64)) (z' := p2) (off := 0) (vs := [.int .i64 p2]) hO wm0_18 (i := 1) rfl (by rw [add_zero]; rfl) i27 g22 k24 m26 rfl rfl rfl rfl (by decide) (show _ = _ from rfl) fun σ o29 w30 hO => ?_
   have hO : Obs _ _ [_, _, _] := hO
   refine zg (zc hO 5 [] [(0, znY bm0), (1, znX p1), (16, znX c4), (19, .pointer (some ⟨bm0, 17, none⟩))] znK fun j => ?_)
   refine zB hO (i := 0) rfl (off := 17) rfl rfl rfl rfl (Nat.le_of_ble_eq_true rfl) rfl fun σ hO => ?_
   have hO : Obs _ _ [_, _, _] := hO
   refine zg (za hO [] [(0, znY bm0), (6, znX p1)] znI fun j => ?_)
   refine zo ?_
   injection hF with hF
   subst hF
   exact (hQ _ _ _ _ _ rfl hO hL ⟨_, _, _, _, _, _, rfl, rfl, rm0_0, w30, rm0_19, wm0_20⟩).1
theorem zjo {τ : Hp} {q0 : ze} {bm0 : Nat} {vm0_0 : Value} {vm0_18 : Value} {om0_18 : Ob} {vm0_19 : Value} {vm0_20 : Value} {om0_20 : Ob} (rm0_0 : RdT Ty.u8 τ vm0_0 q0.code) (wm0_18 : zd (Ty.int .i64) 2 τ vm0_18 q0.words om0_18) (rm0_19 : RdT (Ty.int .i64) τ vm0_19 q0.input) (wm0_20 : zd (Ty.int .i64) 2 τ vm0_20 q0.out om0_20) {rr : Except (Value × ze) (Int × ze)} (hF : zgK q0 = some rr) :
  zbj Try.prog 35 #[.pointer (some ⟨bm0, 0, none⟩)] τ [some (bm0, ⟨[vm0_0, .int .i64 q0.pc, .int .i64 (q0.regs 0), .int .i64 (q0.regs 1), .int .i64 (q0.regs 2), .int .i64 (q0.regs 3), .int .i64 (q0.regs 4), .int .i64 (q0.regs 5), .int .i64 (q0.regs 6), .int .i64 (q0.regs 7), .int .i64 (q0.regs 8), .int .i64 (q0.regs 9), .int .i64 (q0.regs 10), .int .i64 (q0.regs 11), .int .i64 (q0.regs 12), .int .i64 (q0.regs 13), .int .i64 (q0.regs 14), .int .i64 (q0.regs 15), vm0_18, vm0_19, vm0_20, .int .u8 q0.how.toNat, .int .i64 q0.halting], 45, 23, true⟩), om0_18, om0_20] (fun v τ' vs' => match rr with | .ok rr => ∃ (u0_0 : Value) (u0_18 : Value) (y0_18 : Ob) (u0_19 : Value) (u0_20 : Value) (y0_20 : Ob), v = .int .i64 rr.1 ∧ vs' = [some (bm0, ⟨[u0_0, .int .i64 rr.2.pc, .int .i64 (rr.2.regs 0), .int .i64 (rr.2.regs 1), .int .i64 (rr.2.regs 2), .int .i64 (rr.2.regs 3), .int .i64 (rr.2.regs 4), .int .i64 (rr.2.regs 5), .int .i64 (rr.2.regs 6), .int .i64 (rr.2.regs 7), .int .i64 (rr.2.regs 8), .int .i64 (rr.2.regs 9), .int .i64 (rr.2.regs 10), .int .i64 (rr.2.regs 11), .int .i64 (rr.2.regs 12), .int .i64 (rr.2.regs 13), .int .i64 (rr.2.regs 14), .int .i64 (rr.2.regs 15), u0_18, u0_19, u0_20, .int .u8 rr.2.how.toNat, .int .i64 rr.2.halting], 45, 23, true⟩), y0_18, y0_20] ∧ RdT Ty.u8 τ' u0_0 rr.2.code ∧ zd (Ty.int .i64) 2 τ' u0_18 rr.2.words y0_18 ∧ RdT (Ty.int .i64) τ' u0_19 rr.2.input ∧ zd (Ty.int .i64) 2 τ' u0_20 rr.2.out y0_20 | .error _ => False) (fun ch τ' vs' => match rr with | .ok _ => False | .error ee => ∃ (u0_0 : Value) (u0_18 : Value) (y0_18 : Ob) (u0_19 : Value) (u0_20 : Value) (y0_20 : Ob), ch = [{ v := ee.1, recovered := false }] ∧ vs' = [some (bm0, ⟨[u0_0, .int .i64 ee.2.pc, .int .i64 (ee.2.regs 0), .int .i64 (ee.2.regs 1), .int .i64 (ee.2.regs 2), .int .i64 (ee.2.regs 3), .int .i64 (ee.2.regs 4), .int .i64 (ee.2.regs 5), .int .i64 (ee.2.regs 6), .int .i64 (ee.2.regs 7), .int .i64 (ee.2.regs 8), .int .i64 (ee.2.regs 9), .int .i64 (ee.2.regs 10), .int .i64 (ee.2.regs 11), .int .i64 (ee.2.regs 12), .int .i64 (ee.2.regs 13), .int .i64 (ee.2.regs 14), .int .i64 (ee.2.regs 15), u0_18, u0_19, u0_20, .int .u8 ee.2.how.toNat, .int .i64 ee.2.halting], 45, 23, true⟩), y0_18, y0_20] ∧ RdT Ty.u8 τ' u0_0 ee.2.code ∧ zd (Ty.int .i64) 2 τ' u0_18 ee.2.words y0_18 ∧ RdT (Ty.int .i64) τ' u0_19 ee.2.input ∧ zd (Ty.int .i64) 2 τ' u0_20 ee.2.out y0_20) := by
 obtain ⟨Am0_0, cm0_0, rfl, -⟩ := rm0_0.form
 obtain ⟨Am0_18, cm0_18, rfl, -⟩ := wm0_18.form
 obtain ⟨Am0_19, cm0_19, rfl, -⟩ := rm0_19.form
 obtain ⟨Am0_20, cm0_20, rfl, -⟩ := wm0_20.form
 refine zbW (args := [.pointer (some ⟨bm0, 0, none⟩)]) hm Try.func35 s35 rfl fun w0 σ hP hO Q hQ => ?_
 unfold zgK at hF
 have hL := Hp.le.refl τ
 show wpn _ _ a35.body _ _ _
 unfold a35
 dsimp only
 refine za hO [] [(0, znY bm0)] znH fun j => ?_
 refine zc hO 6 [0] [(0, znY bm0), (4, znY bm0), (9, znX (q0.regs 15))] (And.intro (And.intro rfl rfl) znJ) fun j => ?_
 rcases zU hF with ⟨x6, h7, hF⟩ | ⟨c2, h3, hF⟩
 ·refine zbE (hs := []) (vs := [_, _, _]) hO (zcU (q0 := (⟨q0.code, q0.pc, q0.regs, q0.words, q0.input, q0.out, q0.how, q0.halting⟩ : ze)) rm0_0 wm0_18 rm0_19 wm0_20 h7) (fun _ _ _ h => False.elim h) rfl fun _ σ _ _ hO h8 h9 => ?_
  have hL := hL.trans h8
  have rm0_0 := rm0_0.le h8
  have wm0_18 := wm0_18.le h8
  have rm0_19 := rm0_19.le h8
  have wm0_20 := wm0_20.le h8
  obtain ⟨rfl, rfl⟩ := h9
  have hO : Obs _ _ [_, _, _] := hO
  injection hF with hF
  subst hF
  exact hP _ _ _ _ hO hL ⟨_, _, _, _, _, _, rfl, rfl, rm0_0, wm0_18, rm0_19, wm0_20⟩
 ·refine zbD (hs := []) (vs := [_, _, _]) hO (zcU (q0 := (⟨q0.code, q0.pc, q0.regs, q0.words, q0.input, q0.out, q0.how, q0.halting⟩ : ze)) rm0_0 wm0_18 rm0_19 wm0_20 h3) (fun _ _ _ h => False.elim h) rfl fun _ σ _ _ hO h4 h5 => ?_
  have hL := hL.trans h4
  have rm0_0 := rm0_0.le h4
  have wm0_18 := wm0_18.le h4
  have rm0_19 := rm0_19.le h4
  have wm0_20 := wm0_20.le h4
  obtain ⟨h10, rfl⟩ := h5
  have hO : Obs _ _ [_, _, _] := hO
  obtain ⟨y11, g12, hF⟩ := bind_some hF
  obtain ⟨a13, _, h15, k14, m16, i17⟩ := zd.at_ hO wm0_18 (i := 1) rfl g12 (n := 1) rfl
  have h10 : _ = Value.pointer (some a13) := h10.trans (congrArg Value.pointer h15)
  subst h10
  have k18 := k14
  obtain rfl : _ = ([.int .i64 y11] : List Value) := k18
  refine zc hO 1 [] [(0, znY bm0), (11, .pointer (some a13))] znI fun j => ?_
  refine zO rfl m16.fst ?_
  refine za hO [] [(0, znY bm0), (3, znX y11)] znI fun j => ?_
  refine zf (za hO [] [(0, znY bm0), (3, znX y11), (18, .bool ((decide (y11 < 0)) || (decide (y11 ≥ 16777216))))] (And.intro (And.intro rfl rfl) (fun _ => znW znI)) fun j => ?_)
  refine zbx (fun e' σ' => ∃ (τ' : Hp), agr [(0, znY bm0), (3, znX y11)] e' ∧ Obs τ' σ' [some (bm0, ⟨[.slice Am0_0 q0.code.length cm0_0, .int .i64 q0.pc, .int .i64 (q0.regs 0), .int .i64 (q0.regs 1), .int .i64 (q0.regs 2), .int .i64 (q0.regs 3), .int .i64 (q0.regs 4), .int .i64 (q0.regs 5), .int .i64 (q0.regs 6), .int .i64 (q0.regs 7), .int .i64 (q0.regs 8), .int .i64 (q0.regs 9), .int .i64 (q0.regs 10), .int .i64 (q0.regs 11), .int .i64 (q0.regs 12), .int .i64 (q0.regs 13), .int .i64 (q0.regs 14), .int .i64 (q0.regs 15), .slice Am0_18 q0.words.length cm0_18, .slice Am0_19 q0.input.length cm0_19, .slice Am0_20 q0.out.length cm0_20, .int .u8 (q0.how.toNat : Int), .int .i64 q0.halting], 45, 23, true⟩), om0_18, om0_20] ∧ Hp.le τ τ' ∧ RdT Ty.u8 τ' (.slice Am0_0 q0.code.length cm0_0) q0.code ∧ zd (Ty.int .i64) 2 τ' (.slice Am0_18 q0.words.length cm0_18) q0.words om0_18 ∧ RdT (Ty.int .i64) τ' (.slice Am0_19 q0.input.length cm0_19) q0.input ∧ zd (Ty.int .i64) 2 τ' (.slice Am0_20 q0.out.length cm0_20) q0.out om0_20 ∧ zeD q0 y11 = some rr) ?_ ?_
  ·refine z0 ?_
   rcases zi hF with ⟨hb32, hF⟩ | ⟨hb32, hF⟩
   ·refine zm (congrArg Value.bool hb32) ?_
    rcases zU hF with ⟨x37, h38, hF⟩ | ⟨c33, h34, hF⟩
    ·refine zbT hO (zbk h38) (fun _ _ _ h => False.elim h) rfl fun _ σ _ _ hO h39 h40 => ?_
     have hL := hL.trans h39
     have rm0_0 := rm0_0.le h39
     have wm0_18 := wm0_18.le h39
     have rm0_19 := rm0_19.le h39
     have wm0_20 := wm0_20.le h39
     obtain ⟨rfl, rfl⟩ := h40
     have hO : Obs _ _ [_, _, _] := hO
     injection hF with hF
     subst hF
     exact hP _ _ _ _ hO hL ⟨_, _, _, _, _, _, rfl, rfl, rm0_0, wm0_18, rm0_19, wm0_20⟩
    ·refine zb5 hO (zbk h34) (fun _ _ _ h => False.elim h) rfl fun _ σ _ _ hO h35 h36 => ?_
     have hL := hL.trans h35
     have rm0_0 := rm0_0.le h35
     have wm0_18 := wm0_18.le h35
     have rm0_19 := rm0_19.le h35
     have wm0_20 := wm0_20.le h35
     obtain ⟨rfl, rfl⟩ := h36
     have hO : Obs _ _ [_, _, _] := hO
     refine zg (zk (zs ?_))
     exact ⟨_, znW znH, hO, hL, rm0_0, wm0_18, rm0_19, wm0_20, hF⟩
   ·refine zj (congrArg Value.bool hb32) ?_
    refine zv (zk (zs ?_))
    exact ⟨_, znW znH, hO, hL, rm0_0, wm0_18, rm0_19, wm0_20, hF⟩
  ·rintro e σ ⟨_, hA, hO, hL, r28, w29, r30, w31, hF⟩
   rw [← zG _ _ hA]
   unfold zeD at hF
   refine zbB (zc hO 9 [0] [(0, znY bm0), (3, znX y11), (25, znX (IntKind.i64.wrap ((q0.regs 15) + 1))), (28, .pointer (some ⟨bm0, 17, none⟩))] (And.intro (And.intro rfl rfl) znK) fun j => ?_)
   refine zB hO (i := 0) rfl (off := 17) rfl rfl rfl rfl (Nat.le_of_ble_eq_true rfl) rfl fun σ hO => ?_
   have hO : Obs _ _ [_, _, _] := hO
   refine zg (za hO [] [(0, znY bm0), (2, znX y11)] znI fun j => ?_)
   refine zo ?_
   injection hF with hF
   subst hF
   exact (hQ _ _ _ _ _ rfl hO hL ⟨_, _, _, _, _, _, rfl, rfl, r28, w29, r30, w31⟩).1
theorem zdj {τ : Hp} {p0 : Bool}  {rr : Int} (hF : zco p0 = some rr) :
  Ctr Try.prog 73 #[.bool p0] τ [] (fun v τ' vs' => v = .int .i64 rr ∧ vs' = []) := by
 refine zu (args := [.bool p0]) hm Try.func73 s73 rfl fun w0 σ hO Q hQ => ?_
 unfold zco at hF
 have hL := Hp.le.refl τ
 show wpn _ _ a73.body _ _ _
 unfold a73
 dsimp only
 refine za hO [] [(0, .bool p0)] znH fun j => ?_
 refine zf (za hO [] [(3, .bool p0)] znH fun j => ?_)
 rcases zi hF with ⟨hb2, hF⟩ | ⟨hb2, hF⟩
 ·refine zm (congrArg Value.bool hb2) ?_
  refine zf (za hO [] [(2, znX 1)] znH fun j => ?_)
  refine zx ?_
  injection hF with hF
  subst hF
  exact hQ _ _ _ _ _ rfl hO hL ⟨rfl, rfl⟩
 ·refine zj (congrArg Value.bool hb2) ?_
  refine zv (za hO [] [(2, znX 0)] znH fun j => ?_)
  refine zo ?_
  injection hF with hF
  subst hF
  exact hQ _ _ _ _ _ rfl hO hL ⟨rfl, rfl⟩
theorem ziH {τ : Hp} {p0 : Int} {p1 : Int} {p2 : Int}  {rr : Except (Value) (Int)} (hF : zf7 p0 p1 p2 = some rr) :
  zbj Try.prog 86 #[.int .u8 p0, .int .i64 p1, .int .i64 p2] τ [] (fun v τ' vs' => match rr with | .ok rr => v = .int .i64 rr ∧ vs' = [] | .error _ => False) (fun ch τ' vs' => match rr with | .ok _ => False | .error ee => ch = [{ v := ee, recovered := false }] ∧ vs' = []) := by
 refine zbW (args := [.int .u8 p0, .int .i64 p1, .int .i64 p2]) hm Try.func86 s86 rfl fun w0 σ hP hO Q hQ => ?_
 unfold zf7 at hF
 have hL := Hp.le.refl τ
 show wpn _ _ a86.body _ _ _
 unfold a86
 dsimp only
 refine za hO [] [(0, .int .u8 p0), (1, znX p1), (2, znX p2)] znJ fun j => ?_
 refine zf (za hO [] [(0, .int .u8 p0), (1, znX p1), (2, znX p2), (8, .bool (p2 == 0))] znK fun j => ?_)
 refine zbx (fun e' σ' => ∃ (τ' : Hp), agr [(0, .int .u8 p0), (1, znX p1), (2, znX p2)] e' ∧ Obs τ' σ' [] ∧ Hp.le τ τ' ∧ zeh p0 p1 p2 = some rr) ?_ ?_
 ·refine z0 ?_
  rcases zi hF with ⟨hb18, hF⟩ | ⟨hb18, hF⟩
  ·refine zm (congrArg Value.bool hb18) ?_
   rcases zU hF with ⟨x23, h24, hF⟩ | ⟨c19, h20, hF⟩
   ·refine zbT hO (zbk h24) (fun _ _ _ h => False.elim h) rfl fun _ σ _ _ hO h25 h26 => ?_
    have hL := hL.trans h25
    obtain ⟨rfl, rfl⟩ := h26
    have hO : Obs _ _ [] := hO
    injection hF with hF
    subst hF
    exact hP _ _ _ _ hO hL ⟨rfl, rfl⟩
   ·refine zb5 hO (zbk h20) (fun _ _ _ h => False.elim h) rfl fun _ σ _ _ hO h21 h22 => ?_
    have hL := hL.trans h21
    obtain ⟨rfl, rfl⟩ := h22
    have hO : Obs _ _ [] := hO
    refine zg (zk (zs ?_))
    exact ⟨_, znW znI, hO, hL, hF⟩
  ·refine zj (congrArg Value.bool hb18) ?_
   refine zv (zk (zs ?_))
   exact ⟨_, znW znI, hO, hL, hF⟩
 ·rintro e σ ⟨_, hA, hO, hL, hF⟩
  rw [← zG _ _ hA]
  unfold zeh at hF
  refine zf (za hO [] [(1, znX p1), (2, znX p2), (11, .bool (p0 == 4))] znJ fun j => ?_)
  rcases zi hF with ⟨hb13, hF⟩ | ⟨hb13, hF⟩
  ·refine zm (congrArg Value.bool hb13) ?_
   refine zf (zc hO 2 [] [(12, znX p1), (13, znX p2)] znI fun j => ?_)
   obtain ⟨y14, g15, hF⟩ := bind_some hF
   refine zd0 (zkw g15) ?_
   refine za hO [] [(6, znX y14)] znH fun j => ?_
   refine zx ?_
   injection hF with hF
   subst hF
   exact (hQ _ _ _ _ _ rfl hO hL ⟨rfl, rfl⟩).1
  ·refine zj (congrArg Value.bool hb13) ?_
   refine zv (zc hO 2 [] [(15, znX p1), (16, znX p2)] znI fun j => ?_)
   obtain ⟨y16, g17, hF⟩ := bind_some hF
   refine zd0 (zl0 g17) ?_
   refine za hO [] [(6, znX y16)] znH fun j => ?_
   refine zo ?_
   injection hF with hF
   subst hF
   exact (hQ _ _ _ _ _ rfl hO hL ⟨rfl, rfl⟩).1
theorem zi0 {τ : Hp} {p0 : Int} {p1 : Int} {p2 : Int}  {rr : Except (Value) (Int)} (hF : zdK p0 p1 p2 = some rr) :
  zbj Try.prog 72 #[.int .u8 p0, .int .i64 p1, .int .i64 p2] τ [] (fun v τ' vs' => match rr with | .ok rr => v = .int .i64 rr ∧ vs' = [] | .error _ => False) (fun ch τ' vs' => match rr with | .ok _ => False | .error ee => ch = [{ v := ee, recovered := false }] ∧ vs' = []) := by
 refine zbW (args := [.int .u8 p0, .int .i64 p1, .int .i64 p2]) hm Try.func72 s72 rfl fun w0 σ hP hO Q hQ => ?_
 unfold zdK at hF
 have hL := Hp.le.refl τ
 show wpn _ _ a72.body _ _ _
 unfold a72
 dsimp only
 refine za hO [] [(0, .int .u8 p0), (1, znX p1), (2, znX p2)] znJ fun j => ?_
 refine zf (za hO [] [(0, .int .u8 p0), (1, znX p1), (2, znX p2), (7, .int .u8 p0)] znK fun j => ?_)
 refine zX (za hO [] [(0, .int .u8 p0), (1, znX p1), (2, znX p2), (7, .int .u8 p0), (8, .bool (p0 == 1))] znL fun j => ?_)
 refine z0 ?_
 rcases zi hF with ⟨hb4, hF⟩ | ⟨hb4, hF⟩
 ·refine zm (congrArg Value.bool hb4) ?_
  refine zf (za hO [] [(6, znX (IntKind.i64.wrap (p1 + p2)))] znH fun j => ?_)
  refine zx (zP (zM ?_))
  injection hF with hF
  subst hF
  exact (hQ _ _ _ _ _ rfl hO hL ⟨rfl, rfl⟩).1
 ·refine zj (congrArg Value.bool hb4) ?_
  refine zf (za hO [] [(0, .int .u8 p0), (1, znX p1), (2, znX p2), (7, .int .u8 p0), (13, .bool (p0 == 2))] znL fun j => ?_)
  rcases zi hF with ⟨hb5, hF⟩ | ⟨hb5, hF⟩
  ·refine zm (congrArg Value.bool hb5) ?_
   refine zf (za hO [] [(6, znX (IntKind.i64.wrap (p1 - p2)))] znH fun j => ?_)
   refine zx (zP (zM ?_))
   injection hF with hF
   subst hF
   exact (hQ _ _ _ _ _ rfl hO hL ⟨rfl, rfl⟩).1
  ·refine zj (congrArg Value.bool hb5) ?_
   refine zf (za hO [] [(0, .int .u8 p0), (1, znX p1), (2, znX p2), (7, .int .u8 p0), (18, .bool (p0 == 3))] znL fun j => ?_)
   rcases zi hF with ⟨hb6, hF⟩ | ⟨hb6, hF⟩
   ·refine zm (congrArg Value.bool hb6) ?_
    refine zf (za hO [] [(6, znX (IntKind.i64.wrap (p1 * p2)))] znH fun j => ?_)
    refine zx (zP (zM ?_))
    injection hF with hF
    subst hF
    exact (hQ _ _ _ _ _ rfl hO hL ⟨rfl, rfl⟩).1
   ·refine zj (congrArg Value.bool hb6) ?_
    refine zf (zf (za hO [] [(0, .int .u8 p0), (1, znX p1), (2, znX p2), (7, .int .u8 p0), (23, .bool (p0 == 4))] znL fun j => ?_))
    refine zbx (fun e' σ' => ∃ (x8 : Bool) (τ' : Hp), agr [(0, .int .u8 p0), (1, znX p1), (2, znX p2), (7, .int .u8 p0), (23, .bool x8)] e' ∧ Obs τ' σ' [] ∧ Hp.le τ τ' ∧ zdA p0 p1 p2 x8 = some rr) ?_ ?_
    ·refine z0 ?_
     rcases zi hF with ⟨hb49, hF⟩ | ⟨hb49, hF⟩
     ·refine zm (congrArg Value.bool hb49) ?_
      refine zv (zk (zs ?_))
      exact ⟨(p0 == 4), _, znW znK, hO, hL, hF⟩
     ·refine zj (congrArg Value.bool hb49) ?_
      refine za hO [] [(0, .int .u8 p0), (1, znX p1), (2, znX p2), (7, .int .u8 p0), (23, .bool (p0 == 5))] znL fun j => ?_
      refine zk (zs ?_)
      exact ⟨(p0 == 5), _, znW znK, hO, hL, hF⟩
    ·rintro e σ ⟨x8, _, hA, hO, hL, hF⟩
     rw [← zG _ _ hA]
     unfold zdA at hF
     rcases zi hF with ⟨hb9, hF⟩ | ⟨hb9, hF⟩
     ·refine zm (congrArg Value.bool hb9) ?_
      refine zf (zc hO 3 [] [(26, .int .u8 p0), (27, znX p1), (28, znX p2)] znJ fun j => ?_)
      rcases zU hF with ⟨x14, h15, hF⟩ | ⟨c10, h11, hF⟩
      ·refine zbT hO (ziH h15) (fun _ _ _ h => False.elim h) rfl fun _ σ _ _ hO h16 h17 => ?_
       have hL := hL.trans h16
       obtain ⟨rfl, rfl⟩ := h17
       have hO : Obs _ _ [] := hO
       injection hF with hF
       subst hF
       exact hP _ _ _ _ hO hL ⟨rfl, rfl⟩
      ·refine zb5 hO (ziH h11) (fun _ _ _ h => False.elim h) rfl fun _ σ _ _ hO h12 h13 => ?_
       have hL := hL.trans h12
       obtain ⟨rfl, rfl⟩ := h13
       have hO : Obs _ _ [] := hO
       refine za hO [] [(6, znX c10)] znH fun j => ?_
       refine zx (zP (zM ?_))
       injection hF with hF
       subst hF
       exact (hQ _ _ _ _ _ rfl hO hL ⟨rfl, rfl⟩).1
     ·refine zj (congrArg Value.bool hb9) ?_
      refine zf (za hO [] [(1, znX p1), (2, znX p2), (7, .int .u8 p0), (30, .bool (p0 == 6))] znK fun j => ?_)
      rcases zi hF with ⟨hb18, hF⟩ | ⟨hb18, hF⟩
      ·refine zm (congrArg Value.bool hb18) ?_
       refine zf (zc hO 3 [] [(34, .bool (p1 == p2))] znH fun j => ?_)
       obtain ⟨c19, h20, hF⟩ := bind_some hF
       refine zt hO (zdj h20) rfl fun _ σ _ _ hO h21 h22 => ?_
       have hL := hL.trans h21
       obtain ⟨rfl, rfl⟩ := h22
       have hO : Obs _ _ [] := hO
       refine za hO [] [(6, znX c19)] znH fun j => ?_
       refine zx (zP (zM ?_))
       injection hF with hF
       subst hF
       exact (hQ _ _ _ _ _ rfl hO hL ⟨rfl, rfl⟩).1
      ·refine zj (congrArg Value.bool hb18) ?_
       refine zf (za hO [] [(1, znX p1), (2, znX p2), (7, .int .u8 p0), (36, .bool (p0 == 7))] znK fun j => ?_)
       rcases zi hF with ⟨hb23, hF⟩ | ⟨hb23, hF⟩
       ·refine zm (congrArg Value.bool hb23) ?_
        refine zf (zc hO 3 [] [(40, .bool (p1 != p2))] znH fun j => ?_)
        obtain ⟨c24, h25, hF⟩ := bind_some hF
        refine zt hO (zdj h25) rfl fun _ σ _ _ hO h26 h27 => ?_
        have hL := hL.trans h26
        obtain ⟨rfl, rfl⟩ := h27
        have hO : Obs _ _ [] := hO
        refine za hO [] [(6, znX c24)] znH fun j => ?_
        refine zx (zP (zM ?_))
        injection hF with hF
        subst hF
        exact (hQ _ _ _ _ _ rfl hO hL ⟨rfl, rfl⟩).1
       ·refine zj (congrArg Value.bool hb23) ?_
        refine zf (za hO [] [(1, znX p1), (2, znX p2), (7, .int .u8 p0), (42, .bool (p0 == 8))] znK fun j => ?_)
        rcases zi hF with ⟨hb28, hF⟩ | ⟨hb28, hF⟩
        ·refine zm (congrArg Value.bool hb28) ?_
         refine zf (zc hO 3 [] [(46, .bool (decide (p1 < p2)))] znH fun j => ?_)
         obtain ⟨c29, h30, hF⟩ := bind_some hF
         refine zt hO (zdj h30) rfl fun _ σ _ _ hO h31 h32 => ?_
         have hL := hL.trans h31
         obtain ⟨rfl, rfl⟩ := h32
         have hO : Obs _ _ [] := hO
         refine za hO [] [(6, znX c29)] znH fun j => ?_
         refine zx (zP (zM ?_))
         injection hF with hF
         subst hF
         exact (hQ _ _ _ _ _ rfl hO hL ⟨rfl, rfl⟩).1
        ·refine zj (congrArg Value.bool hb28) ?_
         refine zf (za hO [] [(1, znX p1), (2, znX p2), (7, .int .u8 p0), (48, .bool (p0 == 9))] znK fun j => ?_)
         rcases zi hF with ⟨hb33, hF⟩ | ⟨hb33, hF⟩
         ·refine zm (congrArg Value.bool hb33) ?_
          refine zf (zc hO 3 [] [(52, .bool (decide (p1 ≤ p2)))] znH fun j => ?_)
          obtain ⟨c34, h35, hF⟩ := bind_some hF
          refine zt hO (zdj h35) rfl fun _ σ _ _ hO h36 h37 => ?_
          have hL := hL.trans h36
          obtain ⟨rfl, rfl⟩ := h37
          have hO : Obs _ _ [] := hO
          refine za hO [] [(6, znX c34)] znH fun j => ?_
          refine zx (zP (zM ?_))
          injection hF with hF
          subst hF
          exact (hQ _ _ _ _ _ rfl hO hL ⟨rfl, rfl⟩).1
         ·refine zj (congrArg Value.bool hb33) ?_
          refine zf (za hO [] [(1, znX p1), (2, znX p2), (7, .int .u8 p0), (54, .bool (p0 == 10))] znK fun j => ?_)
          rcases zi hF with ⟨hb38, hF⟩ | ⟨hb38, hF⟩
          ·refine zm (congrArg Value.bool hb38) ?_
           refine zf (zc hO 3 [] [(58, .bool (decide (p1 > p2)))] znH fun j => ?_)
           obtain ⟨c39, h40, hF⟩ := bind_some hF
           refine zt hO (zdj h40) rfl fun _ σ _ _ hO h41 h42 => ?_
           have hL := hL.trans h41
           obtain ⟨rfl, rfl⟩ := h42
           have hO : Obs _ _ [] := hO
           refine za hO [] [(6, znX c39)] znH fun j => ?_
           refine zx (zP (zM ?_))
           injection hF with hF
           subst hF
           exact (hQ _ _ _ _ _ rfl hO hL ⟨rfl, rfl⟩).1
          ·refine zj (congrArg Value.bool hb38) ?_
           refine zf (za hO [] [(1, znX p1), (2, znX p2), (7, .int .u8 p0), (60, .bool (p0 == 11))] znK fun j => ?_)
           rcases zi hF with ⟨hb43, hF⟩ | ⟨hb43, hF⟩
           ·refine zm (congrArg Value.bool hb43) ?_
            refine zf (zc hO 3 [] [(64, .bool (decide (p1 ≥ p2)))] znH fun j => ?_)
            obtain ⟨c44, h45, hF⟩ := bind_some hF
            refine zt hO (zdj h45) rfl fun _ σ _ _ hO h46 h47 => ?_
            have hL := hL.trans h46
            obtain ⟨rfl, rfl⟩ := h47
            have hO : Obs _ _ [] := hO
            refine za hO [] [(6, znX c44)] znH fun j => ?_
            refine zx (zP (zM ?_))
            injection hF with hF
            subst hF
            exact (hQ _ _ _ _ _ rfl hO hL ⟨rfl, rfl⟩).1
           ·refine zj (congrArg Value.bool hb43) ?_
            refine zf (za hO [] [(1, znX p1), (2, znX p2), (66, .bool (p0 == 12))] znJ fun j => ?_)
            rcases zi hF with ⟨hb48, hF⟩ | ⟨hb48, hF⟩
            ·refine zm (congrArg Value.bool hb48) ?_
             refine zf (za hO [] [(6, znX (zbS .i64 p1 p2))] znH fun j => ?_)
             refine zx (zP (zM ?_))
             injection hF with hF
             subst hF
             exact (hQ _ _ _ _ _ rfl hO hL ⟨rfl, rfl⟩).1
            ·refine zj (congrArg Value.bool hb48) ?_
             refine zv (zk (zV (zs (za hO [] [(6, znX (orI .i64 p1 p2))] znH fun j => ?_))))
             refine zo ?_
             injection hF with hF
             subst hF
             exact (hQ _ _ _ _ _ rfl hO hL ⟨rfl, rfl⟩).1
theorem zgx {τ : Hp} {q0 : ze} {bm0 : Nat} {vm0_0 : Value} {vm0_18 : Value} {om0_18 : Ob} {vm0_19 : Value} {vm0_20 : Value} {om0_20 : Ob} {p1 : zb} (rm0_0 : RdT Ty.u8 τ vm0_0 q0.code) (wm0_18 : zd (Ty.int .i64) 2 τ vm0_18 q0.words om0_18) (rm0_19 : RdT (Ty.int .i64) τ vm0_19 q0.input) (wm0_20 : zd (Ty.int .i64) 2 τ vm0_20 q0.out om0_20) {rr : Except (Value) (Int)} (hF : zdE q0 p1 = some rr) :
  zbj Try.prog 74 #[.pointer (some ⟨bm0, 0, none⟩), .agg #[.int .u8 p1.Kind.toNat, .int .u8 p1.Op.toNat, .int .i64 p1.R, .int .i64 p1.S, .int .i64 p1.T, .int .i64 p1.N, .int .i64 p1.M]] τ [some (bm0, ⟨[vm0_0, .int .i64 q0.pc, .int .i64 (q0.regs 0), .int .i64 (q0.regs 1), .int .i64 (q0.regs 2), .int .i64 (q0.regs 3), .int .i64 (q0.regs 4), .int .i64 (q0.regs 5), .int .i64 (q0.regs 6), .int .i64 (q0.regs 7), .int .i64 (q0.regs 8), .int .i64 (q0.regs 9), .int .i64 (q0.regs 10), .int .i64 (q0.regs 11), .int .i64 (q0.regs 12), .int .i64 (q0.regs 13), .int .i64 (q0.regs 14), .int .i64 (q0.regs 15), vm0_18, vm0_19, vm0_20, .int .u8 q0.how.toNat, .int .i64 q0.halting], 45, 23, true⟩), om0_18, om0_20] (fun v τ' vs' => match rr with | .ok rr => v = .pointer ((slA vm0_18).map (fun x => x.add (Int.toNat rr * 1))) ∧ vs' = [some (bm0, ⟨[vm0_0, .int .i64 q0.pc, .int .i64 (q0.regs 0), .int .i64 (q0.regs 1), .int .i64 (q0.regs 2), .int .i64 (q0.regs 3), .int .i64 (q0.regs 4), .int .i64 (q0.regs 5), .int .i64 (q0.regs 6), .int .i64 (q0.regs 7), .int .i64 (q0.regs 8), .int .i64 (q0.regs 9), .int .i64 (q0.regs 10), .int .i64 (q0.regs 11), .int .i64 (q0.regs 12), .int .i64 (q0.regs 13), .int .i64 (q0.regs 14), .int .i64 (q0.regs 15), vm0_18, vm0_19, vm0_20, .int .u8 q0.how.toNat, .int .i64 q0.halting], 45, 23, true⟩), om0_18, om0_20] | .error _ => False) (fun ch τ' vs' => match rr with | .ok _ => False | .error ee => ch = [{ v := ee, recovered := false }] ∧ vs' = [some (bm0, ⟨[vm0_0, .int .i64 q0.pc, .int .i64 (q0.regs 0), .int .i64 (q0.regs 1), .int .i64 (q0.regs 2), .int .i64 (q0.regs 3), .int .i64 (q0.regs 4), .int .i64 (q0.regs 5), .int .i64 (q0.regs 6), .int .i64 (q0.regs 7), .int .i64 (q0.regs 8), .int .i64 (q0.regs 9), .int .i64 (q0.regs 10), .int .i64 (q0.regs 11), .int .i64 (q0.regs 12), .int .i64 (q0.regs 13), .int .i64 (q0.regs 14), .int .i64 (q0.regs 15), vm0_18, vm0_19, vm0_20, .int .u8 q0.how.toNat, .int .i64 q0.halting], 45, 23, true⟩), om0_18, om0_20]) := by
 obtain ⟨Am0_0, cm0_0, rfl, -⟩ := rm0_0.form
 obtain ⟨Am0_18, cm0_18, rfl, -⟩ := wm0_18.form
 obtain ⟨Am0_19, cm0_19, rfl, -⟩ := rm0_19.form
 obtain ⟨Am0_20, cm0_20, rfl, -⟩ := wm0_20.form
 refine zbW (args := [.pointer (some ⟨bm0, 0, none⟩), .agg #[.int .u8 p1.Kind.toNat, .int .u8 p1.Op.toNat, .int .i64 p1.R, .int .i64 p1.S, .int .i64 p1.T, .int .i64 p1.N, .int .i64 p1.M]]) hm Try.func74 s74 rfl fun w0 σ hP hO Q hQ => ?_
 unfold zdE at hF
 have hL := Hp.le.refl τ
 show wpn _ _ a74.body _ _ _
 unfold a74
 dsimp only
 refine zbd (n := 7) hO rfl rfl fun b3 σ hO => ?_
 have hO : Obs _ _ [_, _, _, _] := hO
 refine za hO [] [(0, znY bm0), (3, znY b3)] znI fun j => ?_
 refine zbB (zc hO 5 [3] [(0, znY bm0), (3, znY b3), (9, znX p1.S), (11, .pointer (some ⟨bm0, 2, none⟩))] (And.intro (And.intro rfl rfl) znK) fun j => ?_)
 obtain ⟨y4, g5, hF⟩ := bind_some hF
 refine zdr rfl rfl g5 ?_
 refine zcT hO (i := 0) rfl rfl (zcw (f := q0.regs) (n := 16) (zba g5).2.2.2 [_, _] [_, _, _, _, _]) ?_
 refine za hO [3] [(0, znY bm0), (3, znY b3), (5, znX (IntKind.i64.wrap ((q0.regs y4) + p1.N)))] (And.intro (And.intro rfl rfl) znJ) fun j => ?_
 refine zf (za hO [3, 3] [(0, znY bm0), (3, znY b3), (5, znX (IntKind.i64.wrap ((q0.regs y4) + p1.N))), (24, .bool (((p1.Kind.toNat : Int) == 8) || ((p1.Kind.toNat : Int) == 9)))] (And.intro (And.intro rfl rfl) (And.intro (And.intro rfl rfl) (And.intro (And.intro rfl rfl) (fun _ => znW znJ)))) fun j => ?_)
 rcases zi hF with ⟨hb6, hF⟩ | ⟨hb6, hF⟩
 ·refine zm (congrArg Value.bool hb6) ?_
  refine zf (zbB (zc hO 5 [3] [(0, znY bm0), (3, znY b3), (5, znX (IntKind.i64.wrap ((q0.regs y4) + p1.N))), (27, znX p1.T), (29, .pointer (some ⟨bm0, 2, none⟩))] (And.intro (And.intro rfl rfl) znL) fun j => ?_))
  obtain ⟨y7, g8, hF⟩ := bind_some hF
  refine zdr rfl rfl g8 ?_
  refine zcT hO (i := 0) rfl rfl (zcw (f := q0.regs) (n := 16) (zba g8).2.2.2 [_, _] [_, _, _, _, _]) ?_
  refine za hO [] [(0, znY bm0), (3, znY b3), (5, znX (IntKind.i64.wrap ((q0.regs y4) + p1.N))), (6, znX (q0.regs y7))] znK fun j => ?_
  refine zf (zf (za hO [3] [(0, znY bm0), (5, znX (IntKind.i64.wrap ((q0.regs y4) + p1.N))), (6, znX (q0.regs y7)), (39, .bool ((decide ((q0.regs y7) < 0)) || (decide ((q0.regs y7) ≥ p1.M))))] (And.intro (And.intro rfl rfl) (And.intro (And.intro rfl rfl) (fun _ => znW znJ))) fun j => ?_))
  refine zbx (fun e' σ' => ∃ (τ' : Hp), agr [(0, znY bm0), (5, znX (IntKind.i64.wrap ((q0.regs y4) + p1.N))), (6, znX (q0.regs y7))] e' ∧ Obs τ' σ' [some (bm0, ⟨[.slice Am0_0 q0.code.length cm0_0, .int .i64 q0.pc, .int .i64 (q0.regs 0), .int .i64 (q0.regs 1), .int .i64 (q0.regs 2), .int .i64 (q0.regs 3), .int .i64 (q0.regs 4), .int .i64 (q0.regs 5), .int .i64 (q0.regs 6), .int .i64 (q0.regs 7), .int .i64 (q0.regs 8), .int .i64 (q0.regs 9), .int .i64 (q0.regs 10), .int .i64 (q0.regs 11), .int .i64 (q0.regs 12), .int .i64 (q0.regs 13), .int .i64 (q0.regs 14), .int .i64 (q0.regs 15), .slice Am0_18 q0.words.length cm0_18, .slice Am0_19 q0.input.length cm0_19, .slice Am0_20 q0.out.length cm0_20, .int .u8 (q0.how.toNat : Int), .int .i64 q0.halting], 45, 23, true⟩), om0_18, om0_20] ∧ Hp.le τ τ' ∧ RdT Ty.u8 τ' (.slice Am0_0 q0.code.length cm0_0) q0.code ∧ zd (Ty.int .i64) 2 τ' (.slice Am0_18 q0.words.length cm0_18) q0.words om0_18 ∧ RdT (Ty.int .i64) τ' (.slice Am0_19 q0.input.length cm0_19) q0.input ∧ zd (Ty.int .i64) 2 τ' (.slice Am0_20 q0.out.length cm0_20) q0.out om0_20 ∧ zfl q0 p1 y4 y7 = some rr) ?_ ?_
  ·refine z0 ?_
   rcases zi hF with ⟨hb39, hF⟩ | ⟨hb39, hF⟩
   ·refine zm (congrArg Value.bool hb39) ?_
    rcases zU hF with ⟨x44, h45, hF⟩ | ⟨c40, h41, hF⟩
    ·refine zbT hO (zbk h45) (fun _ _ _ h => False.elim h) rfl fun _ σ _ _ hO h46 h47 => ?_
     have hL := hL.trans h46
     have rm0_0 := rm0_0.le h46
     have wm0_18 := wm0_18.le h46
     have rm0_19 := rm0_19.le h46
     have wm0_20 := wm0_20.le h46
     obtain ⟨rfl, rfl⟩ := h47
     have hO : Obs _ _ [_, _, _, _] := hO
     injection hF with hF
     subst hF
     have hO := hO.sel [0, 1, 2] (by decide)
     exact hP _ _ _ _ hO hL ⟨rfl, rfl⟩
    ·refine zb5 hO (zbk h41) (fun _ _ _ h => False.elim h) rfl fun _ σ _ _ hO h42 h43 => ?_
     have hL := hL.trans h42
     have rm0_0 := rm0_0.le h42
     have wm0_18 := wm0_18.le h42
     have rm0_19 := rm0_19.le h42
     have wm0_20 := wm0_20.le h42
     obtain ⟨rfl, rfl⟩ := h43
     have hO : Obs _ _ [_, _, _, _] := hO
     refine zg (zk (zs ?_))
     have hO := hO.sel [0, 1, 2] (by decide)
     exact ⟨_, znW znI, hO, hL, rm0_0, wm0_18, rm0_19, wm0_20, hF⟩
   ·refine zj (congrArg Value.bool hb39) ?_
    refine zv (zk (zs ?_))
    have hO := hO.sel [0, 1, 2] (by decide)
    exact ⟨_, znW znI, hO, hL, rm0_0, wm0_18, rm0_19, wm0_20, hF⟩
  ·rintro e σ ⟨_, hA, hO, hL, r18, w19, r20, w21, hF⟩
   rw [← zG _ _ hA]
   unfold zfl at hF
   refine za hO [] [(0, znY bm0), (5, znX (IntKind.i64.wrap ((IntKind.i64.wrap ((q0.regs y4) + p1.N)) + (q0.regs y7))))] znI fun j => ?_
   refine zc hO 2 [] [(0, znY bm0), (44, znY bm0), (45, znX (IntKind.i64.wrap ((IntKind.i64.wrap ((q0.regs y4) + p1.N)) + (q0.regs y7))))] znJ fun j => ?_
   rcases zU hF with ⟨x26, h27, hF⟩ | ⟨c22, h23, hF⟩
   ·refine zbE (hs := []) (vs := [_, _, _]) hO (zcU (q0 := (⟨q0.code, q0.pc, q0.regs, q0.words, q0.input, q0.out, q0.how, q0.halting⟩ : ze)) r18 w19 r20 w21 h27) (fun _ _ _ h => False.elim h) rfl fun _ σ _ _ hO h28 h29 => ?_
    have hL := hL.trans h28
    have r18 := r18.le h28
    have w19 := w19.le h28
    have r20 := r20.le h28
    have w21 := w21.le h28
    obtain ⟨rfl, rfl⟩ := h29
    have hO : Obs _ _ [_, _, _] := hO
    injection hF with hF
    subst hF
    exact hP _ _ _ _ hO hL ⟨rfl, rfl⟩
   ·refine zbD (hs := []) (vs := [_, _, _]) hO (zcU (q0 := (⟨q0.code, q0.pc, q0.regs, q0.words, q0.input, q0.out, q0.how, q0.halting⟩ : ze)) r18 w19 r20 w21 h23) (fun _ _ _ h => False.elim h) rfl fun _ σ _ _ hO h24 h25 => ?_
    have hL := hL.trans h24
    have r18 := r18.le h24
    have w19 := w19.le h24
    have r20 := r20.le h24
    have w21 := w21.le h24
    obtain ⟨h30, rfl⟩ := h25
    have hO : Obs _ _ [_, _, _] := hO
    obtain ⟨y31, g32, hF⟩ := bind_some hF
    obtain ⟨a33, _, h35, k34, m36, i37⟩ := zd.at_ hO w19 (i := 1) rfl g32 (n := 1) rfl
    have h30 : _ = Value.pointer (some a33) := h30.trans (congrArg Value.pointer h35)
    subst h30
    have k38 := k34
    obtain rfl : _ = ([.int .i64 y31] : List Value) := k38
    refine za hO [] [(0, znY bm0), (4, .pointer (some a33))] znI fun j => ?_
    refine zo ?_
    injection hF with hF
    subst hF
    refine (hQ _ _ _ _ _ rfl hO hL ?_).1
    exact ⟨(congrArg Value.pointer (zd.ptr w19 i37 rfl)), rfl⟩
 ·refine zj (congrArg Value.bool hb6) ?_
  refine zv (zc hO 2 [] [(0, znY bm0), (44, znY bm0), (45, znX (IntKind.i64.wrap ((q0.regs y4) + p1.N)))] znJ fun j => ?_)
  have hO := hO.sel [3, 0, 1, 2] (by decide)
  rcases zU hF with ⟨x52, h53, hF⟩ | ⟨c48, h49, hF⟩
  ·refine zbE (hs := [_]) (vs := [_, _, _]) hO (zcU (q0 := (⟨q0.code, q0.pc, q0.regs, q0.words, q0.input, q0.out, q0.how, q0.halting⟩ : ze)) rm0_0 wm0_18 rm0_19 wm0_20 h53) (fun _ _ _ h => False.elim h) rfl fun _ σ _ _ hO h54 h55 => ?_
   have hL := hL.trans h54
   have rm0_0 := rm0_0.le h54
   have wm0_18 := wm0_18.le h54
   have rm0_19 := rm0_19.le h54
   have wm0_20 := wm0_20.le h54
   obtain ⟨rfl, rfl⟩ := h55
   have hO : Obs _ _ [_, _, _, _] := hO
   injection hF with hF
   subst hF
   have hO := hO.sel [1, 2, 3] (by decide)
   exact hP _ _ _ _ hO hL ⟨rfl, rfl⟩
  ·refine zbD (hs := [_]) (vs := [_, _, _]) hO (zcU (q0 := (⟨q0.code, q0.pc, q0.regs, q0.words, q0.input, q0.out, q0.how, q0.halting⟩ : ze)) rm0_0 wm0_18 rm0_19 wm0_20 h49) (fun _ _ _ h => False.elim h) rfl fun _ σ _ _ hO h50 h51 => ?_
   have hL := hL.trans h50
   have rm0_0 := rm0_0.le h50
   have wm0_18 := wm0_18.le h50
   have rm0_19 := rm0_19.le h50
   have wm0_20 := wm0_20.le h50
   obtain ⟨h56, rfl⟩ := h51
   have hO : Obs _ _ [_, _, _, _] := hO
   have hO := hO.sel [1, 2, 3, 0] (by decide)
   have hO : Obs _ _ [_, _, _, _] := hO
   obtain ⟨y57, g58, hF⟩ := bind_some hF
   obtain ⟨a59, _, h61, k60, m62, i63⟩ := zd.at_ hO wm0_18 (i := 1) rfl g58 (n := 1) rfl
   have h56 : _ = Value.pointer (some a59) := h56.trans (congrArg Value.pointer h61)
   subst h56
   have k64 := k60
   obtain rfl : _ = ([.int .i64 y57] : List Value) := k64
   refine za hO [] [(0, znY bm0), (4, .pointer (some a59))] znI fun j => ?_
   refine zo ?_
   injection hF with hF
   subst hF
   have hO := hO.sel [0, 1, 2] (by decide)
   refine (hQ _ _ _ _ _ rfl hO hL ?_).1
   exact ⟨(congrArg Value.pointer (zd.ptr wm0_18 i63 rfl)), rfl⟩
theorem ziU {τ : Hp} {q0 : ze} {bm0 : Nat} {vm0_0 : Value} {vm0_18 : Value} {om0_18 : Ob} {vm0_19 : Value} {vm0_20 : Value} {om0_20 : Ob} {p1 : Int} (rm0_0 : RdT Ty.u8 τ vm0_0 q0.code) (wm0_18 : zd (Ty.int .i64) 2 τ vm0_18 q0.words om0_18) (rm0_19 : RdT (Ty.int .i64) τ vm0_19 q0.input) (wm0_20 : zd (Ty.int .i64) 2 τ vm0_20 q0.out om0_20) {rr : Except (Value × ze) (ze)} (hF : zfB q0 p1 = some rr) :
  zbj Try.prog 75 #[.pointer (some ⟨bm0, 0, none⟩), .int .i64 p1] τ [some (bm0, ⟨[vm0_0, .int .i64 q0.pc, .int .i64 (q0.regs 0), .int .i64 (q0.regs 1), .int .i64 (q0.regs 2), .int .i64 (q0.regs 3), .int .i64 (q0.regs 4), .int .i64 (q0.regs 5), .int .i64 (q0.regs 6), .int .i64 (q0.regs 7), .int .i64 (q0.regs 8), .int .i64 (q0.regs 9), .int .i64 (q0.regs 10), .int .i64 (q0.regs 11), .int .i64 (q0.regs 12), .int .i64 (q0.regs 13), .int .i64 (q0.regs 14), .int .i64 (q0.regs 15), vm0_18, vm0_19, vm0_20, .int .u8 q0.how.toNat, .int .i64 q0.halting], 45, 23, true⟩), om0_18, om0_20] (fun v τ' vs' => match rr with | .ok rr => ∃ (u0_0 : Value) (u0_18 : Value) (y0_18 : Ob) (u0_19 : Value) (u0_20 : Value) (y0_20 : Ob), v = .tuple #[] ∧ vs' = [some (bm0, ⟨[u0_0, .int .i64 rr.pc, .int .i64 (rr.regs 0), .int .i64 (rr.regs 1), .int .i64 (rr.regs 2), .int .i64 (rr.regs 3), .int .i64 (rr.regs 4), .int .i64 (rr.regs 5), .int .i64 (rr.regs 6), .int .i64 (rr.regs 7), .int .i64 (rr.regs 8), .int .i64 (rr.regs 9), .int .i64 (rr.regs 10), .int .i64 (rr.regs 11), .int .i64 (rr.regs 12), .int .i64 (rr.regs 13), .int .i64 (rr.regs 14), .int .i64 (rr.regs 15), u0_18, u0_19, u0_20, .int .u8 rr.how.toNat, .int .i64 rr.halting], 45, 23, true⟩), y0_18, y0_20] ∧ RdT Ty.u8 τ' u0_0 rr.code ∧ zd (Ty.int .i64) 2 τ' u0_18 rr.words y0_18 ∧ RdT (Ty.int .i64) τ' u0_19 rr.input ∧ zd (Ty.int .i64) 2 τ' u0_20 rr.out y0_20 | .error _ => False) (fun ch τ' vs' => match rr with | .ok _ => False | .error ee => ∃ (u0_0 : Value) (u0_18 : Value) (y0_18 : Ob) (u0_19 : Value) (u0_20 : Value) (y0_20 : Ob), ch = [{ v := ee.1, recovered := false }] ∧ vs' = [some (bm0, ⟨[u0_0, .int .i64 ee.2.pc, .int .i64 (ee.2.regs 0), .int .i64 (ee.2.regs 1), .int .i64 (ee.2.regs 2), .int .i64 (ee.2.regs 3), .int .i64 (ee.2.regs 4), .int .i64 (ee.2.regs 5), .int .i64 (ee.2.regs 6), .int .i64 (ee.2.regs 7), .int .i64 (ee.2.regs 8), .int .i64 (ee.2.regs 9), .int .i64 (ee.2.regs 10), .int .i64 (ee.2.regs 11), .int .i64 (ee.2.regs 12), .int .i64 (ee.2.regs 13), .int .i64 (ee.2.regs 14), .int .i64 (ee.2.regs 15), u0_18, u0_19, u0_20, .int .u8 ee.2.how.toNat, .int .i64 ee.2.halting], 45, 23, true⟩), y0_18, y0_20] ∧ RdT Ty.u8 τ' u0_0 ee.2.code ∧ zd (Ty.int .i64) 2 τ' u0_18 ee.2.words y0_18 ∧ RdT (Ty.int .i64) τ' u0_19 ee.2.input ∧ zd (Ty.int .i64) 2 τ' u0_20 ee.2.out y0_20) := by
 obtain ⟨Am0_0, cm0_0, rfl, -⟩ := rm0_0.form
 obtain ⟨Am0_18, cm0_18, rfl, -⟩ := wm0_18.form
 obtain ⟨Am0_19, cm0_19, rfl, -⟩ := rm0_19.form
 obtain ⟨Am0_20, cm0_20, rfl, -⟩ := wm0_20.form
 refine zbW (args := [.pointer (some ⟨bm0, 0, none⟩), .int .i64 p1]) hm Try.func75 s75 rfl fun w0 σ hP hO Q hQ => ?_
 unfold zfB at hF
 have hL := Hp.le.refl τ
 show wpn _ _ a75.body _ _ _
 unfold a75
 dsimp only
 refine zc hO 2 [] [(0, znY bm0), (5, znY bm0), (6, znX p1)] znJ fun j => ?_
 rcases zU hF with ⟨x7, h8, hF⟩ | ⟨c3, h4, hF⟩
 ·refine zbE (hs := []) (vs := [_, _, _]) hO (zgy (q0 := (⟨q0.code, q0.pc, q0.regs, q0.words, q0.input, q0.out, q0.how, q0.halting⟩ : ze)) rm0_0 wm0_18 rm0_19 wm0_20 h8) (fun _ _ _ h => False.elim h) rfl fun _ σ _ _ hO h9 h10 => ?_
  have hL := hL.trans h9
  have rm0_0 := rm0_0.le h9
  have wm0_18 := wm0_18.le h9
  have rm0_19 := rm0_19.le h9
  have wm0_20 := wm0_20.le h9
  obtain ⟨rfl, rfl⟩ := h10
  have hO : Obs _ _ [_, _, _] := hO
  injection hF with hF
  subst hF
  exact hP _ _ _ _ hO hL ⟨_, _, _, _, _, _, rfl, rfl, rm0_0, wm0_18, rm0_19, wm0_20⟩
 ·refine zbD (hs := []) (vs := [_, _, _]) hO (zgy (q0 := (⟨q0.code, q0.pc, q0.regs, q0.words, q0.input, q0.out, q0.how, q0.halting⟩ : ze)) rm0_0 wm0_18 rm0_19 wm0_20 h4) (fun _ _ _ h => False.elim h) rfl fun _ σ _ _ hO h5 h6 => ?_
  have hL := hL.trans h5
  have rm0_0 := rm0_0.le h5
  have wm0_18 := wm0_18.le h5
  have rm0_19 := rm0_19.le h5
  have wm0_20 := wm0_20.le h5
  obtain ⟨rfl, rfl⟩ := h6
  have hO : Obs _ _ [_, _, _] := hO
  refine za hO [] [(0, znY bm0), (4, znX c3)] znI fun j => ?_
  refine zf (za hO [0] [(0, znY bm0), (4, znX c3), (14, .bool (decide (c3 > (q0.words.length : Int))))] (And.intro (And.intro rfl rfl) znJ) fun j => ?_)
  rcases zi hF with ⟨hb11, hF⟩ | ⟨hb11, hF⟩
  ·refine zm (congrArg Value.bool hb11) ?_
   rcases zU hF with ⟨x16, h17, hF⟩ | ⟨c12, h13, hF⟩
   ·refine zbT hO (zbk h17) (fun _ _ _ h => False.elim h) rfl fun _ σ _ _ hO h18 h19 => ?_
    have hL := hL.trans h18
    have rm0_0 := rm0_0.le h18
    have wm0_18 := wm0_18.le h18
    have rm0_19 := rm0_19.le h18
    have wm0_20 := wm0_20.le h18
    obtain ⟨rfl, rfl⟩ := h19
    have hO : Obs _ _ [_, _, _] := hO
    injection hF with hF
    subst hF
    exact hP _ _ _ _ hO hL ⟨_, _, _, _, _, _, rfl, rfl, rm0_0, wm0_18, rm0_19, wm0_20⟩
   ·refine zb5 hO (zbk h13) (fun _ _ _ h => False.elim h) rfl fun _ σ _ _ hO h14 h15 => ?_
    have hL := hL.trans h14
    have rm0_0 := rm0_0.le h14
    have wm0_18 := wm0_18.le h14
    have rm0_19 := rm0_19.le h14
    have wm0_20 := wm0_20.le h14
    obtain ⟨rfl, rfl⟩ := h15
    have hO : Obs _ _ [_, _, _] := hO
    refine zg (zT (zc hO 5 [] [(0, znY bm0), (17, znX c3), (20, .pointer (some ⟨bm0, 17, none⟩))] znJ fun j => ?_))
    refine zB hO (i := 0) rfl (off := 17) rfl rfl rfl rfl (Nat.le_of_ble_eq_true rfl) rfl fun σ hO => ?_
    have hO : Obs _ _ [_, _, _] := hO
    refine zg (zk ?_)
    injection hF with hF
    subst hF
    exact (hQ _ _ _ _ _ rfl hO hL ⟨_, _, _, _, _, _, rfl, rfl, rm0_0, wm0_18, rm0_19, wm0_20⟩).2
  ·refine zj (congrArg Value.bool hb11) ?_
   refine zv (zT (zc hO 5 [] [(0, znY bm0), (17, znX c3), (20, .pointer (some ⟨bm0, 17, none⟩))] znJ fun j => ?_))
   refine zB hO (i := 0) rfl (off := 17) rfl rfl rfl rfl (Nat.le_of_ble_eq_true rfl) rfl fun σ hO => ?_
   have hO : Obs _ _ [_, _, _] := hO
   refine zg (zk ?_)
   injection hF with hF
   subst hF
   exact (hQ _ _ _ _ _ rfl hO hL ⟨_, _, _, _, _, _, rfl, rfl, rm0_0, wm0_18, rm0_19, wm0_20⟩).2
theorem zjh {τ : Hp} {q0 : ze} {bm0 : Nat} {vm0_0 : Value} {vm0_18 : Value} {om0_18 : Ob} {vm0_19 : Value} {vm0_20 : Value} {om0_20 : Ob} (rm0_0 : RdT Ty.u8 τ vm0_0 q0.code) (wm0_18 : zd (Ty.int .i64) 2 τ vm0_18 q0.words om0_18) (rm0_19 : RdT (Ty.int .i64) τ vm0_19 q0.input) (wm0_20 : zd (Ty.int .i64) 2 τ vm0_20 q0.out om0_20) {rr : Except (Value × ze) (Int × ze)} (hF : zfT q0 = some rr) :
  zbj Try.prog 76 #[.pointer (some ⟨bm0, 0, none⟩)] τ [some (bm0, ⟨[vm0_0, .int .i64 q0.pc, .int .i64 (q0.regs 0), .int .i64 (q0.regs 1), .int .i64 (q0.regs 2), .int .i64 (q0.regs 3), .int .i64 (q0.regs 4), .int .i64 (q0.regs 5), .int .i64 (q0.regs 6), .int .i64 (q0.regs 7), .int .i64 (q0.regs 8), .int .i64 (q0.regs 9), .int .i64 (q0.regs 10), .int .i64 (q0.regs 11), .int .i64 (q0.regs 12), .int .i64 (q0.regs 13), .int .i64 (q0.regs 14), .int .i64 (q0.regs 15), vm0_18, vm0_19, vm0_20, .int .u8 q0.how.toNat, .int .i64 q0.halting], 45, 23, true⟩), om0_18, om0_20] (fun v τ' vs' => match rr with | .ok rr => ∃ (u0_0 : Value) (u0_18 : Value) (y0_18 : Ob) (u0_19 : Value) (u0_20 : Value) (y0_20 : Ob), v = .int .i64 rr.1 ∧ vs' = [some (bm0, ⟨[u0_0, .int .i64 rr.2.pc, .int .i64 (rr.2.regs 0), .int .i64 (rr.2.regs 1), .int .i64 (rr.2.regs 2), .int .i64 (rr.2.regs 3), .int .i64 (rr.2.regs 4), .int .i64 (rr.2.regs 5), .int .i64 (rr.2.regs 6), .int .i64 (rr.2.regs 7), .int .i64 (rr.2.regs 8), .int .i64 (rr.2.regs 9), .int .i64 (rr.2.regs 10), .int .i64 (rr.2.regs 11), .int .i64 (rr.2.regs 12), .int .i64 (rr.2.regs 13), .int .i64 (rr.2.regs 14), .int .i64 (rr.2.regs 15), u0_18, u0_19, u0_20, .int .u8 rr.2.how.toNat, .int .i64 rr.2.halting], 45, 23, true⟩), y0_18, y0_20] ∧ RdT Ty.u8 τ' u0_0 rr.2.code ∧ zd (Ty.int .i64) 2 τ' u0_18 rr.2.words y0_18 ∧ RdT (Ty.int .i64) τ' u0_19 rr.2.input ∧ zd (Ty.int .i64) 2 τ' u0_20 rr.2.out y0_20 | .error _ => False) (fun ch τ' vs' => match rr with | .ok _ => False | .error ee => ∃ (u0_0 : Value) (u0_18 : Value) (y0_18 : Ob) (u0_19 : Value) (u0_20 : Value) (y0_20 : Ob), ch = [{ v := ee.1, recovered := false }] ∧ vs' = [some (bm0, ⟨[u0_0, .int .i64 ee.2.pc, .int .i64 (ee.2.regs 0), .int .i64 (ee.2.regs 1), .int .i64 (ee.2.regs 2), .int .i64 (ee.2.regs 3), .int .i64 (ee.2.regs 4), .int .i64 (ee.2.regs 5), .int .i64 (ee.2.regs 6), .int .i64 (ee.2.regs 7), .int .i64 (ee.2.regs 8), .int .i64 (ee.2.regs 9), .int .i64 (ee.2.regs 10), .int .i64 (ee.2.regs 11), .int .i64 (ee.2.regs 12), .int .i64 (ee.2.regs 13), .int .i64 (ee.2.regs 14), .int .i64 (ee.2.regs 15), u0_18, u0_19, u0_20, .int .u8 ee.2.how.toNat, .int .i64 ee.2.halting], 45, 23, true⟩), y0_18, y0_20] ∧ RdT Ty.u8 τ' u0_0 ee.2.code ∧ zd (Ty.int .i64) 2 τ' u0_18 ee.2.words y0_18 ∧ RdT (Ty.int .i64) τ' u0_19 ee.2.input ∧ zd (Ty.int .i64) 2 τ' u0_20 ee.2.out y0_20) := by
 obtain ⟨Am0_0, cm0_0, rfl, -⟩ := rm0_0.form
 obtain ⟨Am0_18, cm0_18, rfl, -⟩ := wm0_18.form
 obtain ⟨Am0_19, cm0_19, rfl, -⟩ := rm0_19.form
 obtain ⟨Am0_20, cm0_20, rfl, -⟩ := wm0_20.form
 refine zbW (args := [.pointer (some ⟨bm0, 0, none⟩)]) hm Try.func76 s76 rfl fun w0 σ hP hO Q hQ => ?_
 unfold zfT at hF
 have hL := Hp.le.refl τ
 show wpn _ _ a76.body _ _ _
 unfold a76
 dsimp only
 refine za hO [] [(0, znY bm0)] znH fun j => ?_
 refine zf (za hO [0] [(0, znY bm0), (9, .bool ((q0.input.length : Int) == 0))] (And.intro (And.intro rfl rfl) znI) fun j => ?_)
 refine zbx (fun e' σ' => ∃ (τ' : Hp), agr [(0, znY bm0)] e' ∧ Obs τ' σ' [some (bm0, ⟨[.slice Am0_0 q0.code.length cm0_0, .int .i64 q0.pc, .int .i64 (q0.regs 0), .int .i64 (q0.regs 1), .int .i64 (q0.regs 2), .int .i64 (q0.regs 3), .int .i64 (q0.regs 4), .int .i64 (q0.regs 5), .int .i64 (q0.regs 6), .int .i64 (q0.regs 7), .int .i64 (q0.regs 8), .int .i64 (q0.regs 9), .int .i64 (q0.regs 10), .int .i64 (q0.regs 11), .int .i64 (q0.regs 12), .int .i64 (q0.regs 13), .int .i64 (q0.regs 14), .int .i64 (q0.regs 15), .slice Am0_18 q0.words.length cm0_18, .slice Am0_19 q0.input.length cm0_19, .slice Am0_20 q0.out.length cm0_20, .int .u8 (q0.how.toNat : Int), .int .i64 q0.halting], 45, 23, true⟩), om0_18, om0_20] ∧ Hp.le τ τ' ∧ RdT Ty.u8 τ' (.slice Am0_0 q0.code.length cm0_0) q0.code ∧ zd (Ty.int .i64) 2 τ' (.slice Am0_18 q0.words.length cm0_18) q0.words om0_18 ∧ RdT (Ty.int .i64) τ' (.slice Am0_19 q0.input.length cm0_19) q0.input ∧ zd (Ty.int .i64) 2 τ' (.slice Am0_20 q0.out.length cm0_20) q0.out om0_20 ∧ zfc q0 = some rr) ?_ ?_
 ·refine z0 ?_
  rcases zi hF with ⟨hb25, hF⟩ | ⟨hb25, hF⟩
  ·refine zm (congrArg Value.bool hb25) ?_
   rcases zU hF with ⟨x30, h31, hF⟩ | ⟨c26, h27, hF⟩
   ·refine zbT hO (zbk h31) (fun _ _ _ h => False.elim h) rfl fun _ σ _ _ hO h32 h33 => ?_
    have hL := hL.trans h32
    have rm0_0 := rm0_0.le h32
    have wm0_18 := wm0_18.le h32
    have rm0_19 := rm0_19.le h32
    have wm0_20 := wm0_20.le h32
    obtain ⟨rfl, rfl⟩ := h33
    have hO : Obs _ _ [_, _, _] := hO
    injection hF with hF
    subst hF
    exact hP _ _ _ _ hO hL ⟨_, _, _, _, _, _, rfl, rfl, rm0_0, wm0_18, rm0_19, wm0_20⟩
   ·refine zb5 hO (zbk h27) (fun _ _ _ h => False.elim h) rfl fun _ σ _ _ hO h28 h29 => ?_
    have hL := hL.trans h28
    have rm0_0 := rm0_0.le h28
    have wm0_18 := wm0_18.le h28
    have rm0_19 := rm0_19.le h28
    have wm0_20 := wm0_20.le h28
    obtain ⟨rfl, rfl⟩ := h29
    have hO : Obs _ _ [_, _, _] := hO
    refine zg (zk (zs ?_))
    exact ⟨_, znW trivial, hO, hL, rm0_0, wm0_18, rm0_19, wm0_20, hF⟩
  ·refine zj (congrArg Value.bool hb25) ?_
   refine zv (zk (zs ?_))
   exact ⟨_, znW trivial, hO, hL, rm0_0, wm0_18, rm0_19, wm0_20, hF⟩
 ·rintro e σ ⟨_, hA, hO, hL, r11, w12, r13, w14, hF⟩
  rw [← zG _ _ hA]
  unfold zfc at hF
  refine zc hO 4 [0] [(0, znY bm0), (14, .slice Am0_19 q0.input.length cm0_19)] (And.intro (And.intro rfl rfl) znI) fun j => ?_
  obtain ⟨y15, g16, hF⟩ := bind_some hF
  refine zct (T := (Ty.int .i64)) r13 hO.base rfl rfl g16 (by decide) fun a17 _ k18 m19 => ?_
  obtain rfl : _ = ([.int .i64 y15] : List Value) := k18
  refine zO rfl (m19.le hO.base).fst ?_
  refine za hO [] [(0, znY bm0), (3, znX y15)] znI fun j => ?_
  refine zc hO 5 [0] [(0, znY bm0), (3, znX y15), (17, znY bm0), (21, .slice Am0_19 q0.input.length cm0_19)] (And.intro (And.intro rfl rfl) znK) fun j => ?_
  obtain ⟨y20, g21, hF⟩ := bind_some hF
  refine zc4 (T := (Ty.int .i64)) r13 rfl rfl rfl g21 fun _ r22 => ?_
  obtain ⟨A23, c24, rfl, -⟩ := r22.form
  refine zc hO 2 [] [(0, znY bm0), (3, znX y15), (22, .slice A23 y20.length c24), (24, .pointer (some ⟨bm0, 19, none⟩))] znK fun j => ?_
  refine zB hO (i := 0) rfl (off := 19) rfl rfl rfl rfl (Nat.le_of_ble_eq_true rfl) rfl fun σ hO => ?_
  have hO : Obs _ _ [_, _, _] := hO
  refine zg (za hO [] [(0, znY bm0), (2, znX y15)] znI fun j => ?_)
  refine zo ?_
  injection hF with hF
  subst hF
  exact (hQ _ _ _ _ _ rfl hO hL ⟨_, _, _, _, _, _, rfl, rfl, r11, w12, r22, w14⟩).1
end Go.Proofs.Ytgkllgoelpfdkaa
