import Derived.Test.YtgkllgoelpfdkaaGreatG0
namespace Go.Proofs.YtgkllgoelpfdkaaGreat
open Go.Ab Go.RowKit
set_option linter.unusedVariables false
set_option linter.unusedSimpArgs false
set_option maxRecDepth 10000
set_option maxHeartbeats 1000000
theorem zpJ {τ : Hp} {v0 : Value} {p0 : (List UInt8)} {o0 : Ob} {q1 : zf} {bm1 : Nat} {af0 : Addr} (wp0 : zd Ty.u8 5 τ v0 p0 o0) (mf0 : At τ af0 [.func (.func 87) #[] #[]]) {rr : (List UInt8) × zf} (hF : zjh p0 q1 = some rr) :
  Ctr Tryz.prog 117 #[v0, .pointer (some ⟨bm1, 0, none⟩), .pointer (some af0)] τ [o0, zy bm1 q1.Kind.toNat q1.Op.toNat q1.R q1.S q1.T q1.N q1.M] (fun v τ' vs' => ∃ (v0 : Value) (o0 : Ob), v = v0 ∧ vs' = [o0, zy bm1 rr.2.Kind.toNat rr.2.Op.toNat rr.2.R rr.2.S rr.2.T rr.2.N rr.2.M] ∧ zd Ty.u8 5 τ' v0 rr.1 o0) := by
 obtain ⟨A0, c0, rfl, -⟩ := wp0.form
 refine zu (args := [.slice A0 p0.length c0, .pointer (some ⟨bm1, 0, none⟩), .pointer (some af0)]) hm Tryz.func117 zhD rfl fun w0 σ hO Q hQ => ?_
 unfold zjh at hF
 have hL := Hp.le.refl τ
 show wpn _ _ zcG.body _ _ _
 unfold zcG
 dsimp only
 refine za hO [] [] [0, 1, 2] zsO fun j => ?_
 refine zc hO 1 [] [(6, zs9 A0 p0 c0)] [1, 2] zsO fun j => ?_
 refine zL rfl ((mf0.le hL).le hO.base).fst ?_
 refine zc hO 1 [] [(8, zs3 bm1)] [1, 6, 7] zsP fun j => ?_
 obtain ⟨c3, h4, hF⟩ := zs8 hF
 refine zdh (hs := [_]) (vs := [_]) rfl (by kernel_rfl) hO (zrn (q0 := (⟨q1.Kind, q1.Op, q1.R, q1.S, q1.T, q1.N, q1.M⟩ : zf)) h4) rfl fun _ σ _ _ hO h5 h6 => ?_
 have hL := hL.trans h5
 obtain ⟨rfl, rfl⟩ := h6
 have hO := zs72 hO
 obtain ⟨z7, hz7, hF⟩ := zs8 hF
 obtain ⟨_, hr12, hF⟩ := zs8 hF
 refine zb8 (T := Ty.u8) (y := z7) hO (wp0.le hL) (i := 0) rfl rfl (fun _ => rfl) rfl (u8R hz7) rfl hr12 (by decide) fun u _ σ o10 w11 hO => ?_
 obtain ⟨A8, c9, rfl, -⟩ := w11.form
 have hO := zs72 hO
 refine za hO [] [(5, zs9 A8 (p0 ++ [z7]) c9)] [1] zsN fun j => ?_
 refine zq ?_
 cases hF
 exact hQ _ _ _ _ _ rfl hO hL ⟨_, _, rfl, rfl, w11⟩
theorem zru {τ : Hp} {v0 : Value} {p0 : (List UInt8)} {o0 : Ob} {q1 : zf} {bm1 : Nat} {af0 : Addr} (wp0 : zd Ty.u8 5 τ v0 p0 o0) (mf0 : At τ af0 [.func (.func 94) #[] #[]]) {rr : (List UInt8) × zf} (hF : zjj p0 q1 = some rr) :
  Ctr Tryz.prog 117 #[v0, .pointer (some ⟨bm1, 0, none⟩), .pointer (some af0)] τ [o0, zy bm1 q1.Kind.toNat q1.Op.toNat q1.R q1.S q1.T q1.N q1.M] (fun v τ' vs' => ∃ (v0 : Value) (o0 : Ob), v = v0 ∧ vs' = [o0, zy bm1 rr.2.Kind.toNat rr.2.Op.toNat rr.2.R rr.2.S rr.2.T rr.2.N rr.2.M] ∧ zd Ty.u8 5 τ' v0 rr.1 o0) := by
 obtain ⟨A0, c0, rfl, -⟩ := wp0.form
 refine zu (args := [.slice A0 p0.length c0, .pointer (some ⟨bm1, 0, none⟩), .pointer (some af0)]) hm Tryz.func117 zhD rfl fun w0 σ hO Q hQ => ?_
 unfold zjj at hF
 have hL := Hp.le.refl τ
 show wpn _ _ zcG.body _ _ _
 unfold zcG
 dsimp only
 refine za hO [] [] [0, 1, 2] zsO fun j => ?_
 refine zc hO 1 [] [(6, zs9 A0 p0 c0)] [1, 2] zsO fun j => ?_
 refine zL rfl ((mf0.le hL).le hO.base).fst ?_
 refine zc hO 1 [] [(8, zs3 bm1)] [1, 6, 7] zsP fun j => ?_
 obtain ⟨c3, h4, hF⟩ := zs8 hF
 refine zdh (hs := [_]) (vs := [_]) rfl (by kernel_rfl) hO (zr3 (q0 := (⟨q1.Kind, q1.Op, q1.R, q1.S, q1.T, q1.N, q1.M⟩ : zf)) h4) rfl fun _ σ _ _ hO h5 h6 => ?_
 have hL := hL.trans h5
 obtain ⟨rfl, rfl⟩ := h6
 have hO := zs72 hO
 obtain ⟨z7, hz7, hF⟩ := zs8 hF
 obtain ⟨_, hr12, hF⟩ := zs8 hF
 refine zb8 (T := Ty.u8) (y := z7) hO (wp0.le hL) (i := 0) rfl rfl (fun _ => rfl) rfl (u8R hz7) rfl hr12 (by decide) fun u _ σ o10 w11 hO => ?_
 obtain ⟨A8, c9, rfl, -⟩ := w11.form
 have hO := zs72 hO
 refine za hO [] [(5, zs9 A8 (p0 ++ [z7]) c9)] [1] zsN fun j => ?_
 refine zq ?_
 cases hF
 exact hQ _ _ _ _ _ rfl hO hL ⟨_, _, rfl, rfl, w11⟩
theorem zr7 {τ : Hp} {v0 : Value} {p0 : (List UInt8)} {o0 : Ob} {q1 : zf} {bm1 : Nat} {af0 : Addr} (wp0 : zd Ty.u8 5 τ v0 p0 o0) (mf0 : At τ af0 [.func (.func 99) #[] #[]]) {rr : (List UInt8) × zf} (hF : ziz p0 q1 = some rr) :
  Ctr Tryz.prog 117 #[v0, .pointer (some ⟨bm1, 0, none⟩), .pointer (some af0)] τ [o0, zy bm1 q1.Kind.toNat q1.Op.toNat q1.R q1.S q1.T q1.N q1.M] (fun v τ' vs' => ∃ (v0 : Value) (o0 : Ob), v = v0 ∧ vs' = [o0, zy bm1 rr.2.Kind.toNat rr.2.Op.toNat rr.2.R rr.2.S rr.2.T rr.2.N rr.2.M] ∧ zd Ty.u8 5 τ' v0 rr.1 o0) := by
 obtain ⟨A0, c0, rfl, -⟩ := wp0.form
 refine zu (args := [.slice A0 p0.length c0, .pointer (some ⟨bm1, 0, none⟩), .pointer (some af0)]) hm Tryz.func117 zhD rfl fun w0 σ hO Q hQ => ?_
 unfold ziz at hF
 have hL := Hp.le.refl τ
 show wpn _ _ zcG.body _ _ _
 unfold zcG
 dsimp only
 refine za hO [] [] [0, 1, 2] zsO fun j => ?_
 refine zc hO 1 [] [(6, zs9 A0 p0 c0)] [1, 2] zsO fun j => ?_
 refine zL rfl ((mf0.le hL).le hO.base).fst ?_
 refine zc hO 1 [] [(8, zs3 bm1)] [1, 6, 7] zsP fun j => ?_
 obtain ⟨c3, h4, hF⟩ := zs8 hF
 refine zdh (hs := [_]) (vs := [_]) rfl (by kernel_rfl) hO (zqo (q0 := (⟨q1.Kind, q1.Op, q1.R, q1.S, q1.T, q1.N, q1.M⟩ : zf)) h4) rfl fun _ σ _ _ hO h5 h6 => ?_
 have hL := hL.trans h5
 obtain ⟨rfl, rfl⟩ := h6
 have hO := zs72 hO
 obtain ⟨z7, hz7, hF⟩ := zs8 hF
 obtain ⟨_, hr12, hF⟩ := zs8 hF
 refine zb8 (T := Ty.u8) (y := z7) hO (wp0.le hL) (i := 0) rfl rfl (fun _ => rfl) rfl (u8R hz7) rfl hr12 (by decide) fun u _ σ o10 w11 hO => ?_
 obtain ⟨A8, c9, rfl, -⟩ := w11.form
 have hO := zs72 hO
 refine za hO [] [(5, zs9 A8 (p0 ++ [z7]) c9)] [1] zsN fun j => ?_
 refine zq ?_
 cases hF
 exact hQ _ _ _ _ _ rfl hO hL ⟨_, _, rfl, rfl, w11⟩
theorem zq2 {τ : Hp} {v0 : Value} {p0 : (List UInt8)} {o0 : Ob} {q1 : zf} {bm1 : Nat} {af0 : Addr} (wp0 : zd Ty.u8 5 τ v0 p0 o0) (mf0 : At τ af0 [.func (.func 102) #[] #[]]) {rr : (List UInt8) × zf} (hF : zix p0 q1 = some rr) :
  Ctr Tryz.prog 117 #[v0, .pointer (some ⟨bm1, 0, none⟩), .pointer (some af0)] τ [o0, zy bm1 q1.Kind.toNat q1.Op.toNat q1.R q1.S q1.T q1.N q1.M] (fun v τ' vs' => ∃ (v0 : Value) (o0 : Ob), v = v0 ∧ vs' = [o0, zy bm1 rr.2.Kind.toNat rr.2.Op.toNat rr.2.R rr.2.S rr.2.T rr.2.N rr.2.M] ∧ zd Ty.u8 5 τ' v0 rr.1 o0) := by
 obtain ⟨A0, c0, rfl, -⟩ := wp0.form
 refine zu (args := [.slice A0 p0.length c0, .pointer (some ⟨bm1, 0, none⟩), .pointer (some af0)]) hm Tryz.func117 zhD rfl fun w0 σ hO Q hQ => ?_
 unfold zix at hF
 have hL := Hp.le.refl τ
 show wpn _ _ zcG.body _ _ _
 unfold zcG
 dsimp only
 refine za hO [] [] [0, 1, 2] zsO fun j => ?_
 refine zc hO 1 [] [(6, zs9 A0 p0 c0)] [1, 2] zsO fun j => ?_
 refine zL rfl ((mf0.le hL).le hO.base).fst ?_
 refine zc hO 1 [] [(8, zs3 bm1)] [1, 6, 7] zsP fun j => ?_
 obtain ⟨c3, h4, hF⟩ := zs8 hF
 refine zdh (hs := [_]) (vs := [_]) rfl (by kernel_rfl) hO (zrS (q0 := (⟨q1.Kind, q1.Op, q1.R, q1.S, q1.T, q1.N, q1.M⟩ : zf)) h4) rfl fun _ σ _ _ hO h5 h6 => ?_
 have hL := hL.trans h5
 obtain ⟨rfl, rfl⟩ := h6
 have hO := zs72 hO
 obtain ⟨z7, hz7, hF⟩ := zs8 hF
 obtain ⟨_, hr12, hF⟩ := zs8 hF
 refine zb8 (T := Ty.u8) (y := z7) hO (wp0.le hL) (i := 0) rfl rfl (fun _ => rfl) rfl (u8R hz7) rfl hr12 (by decide) fun u _ σ o10 w11 hO => ?_
 obtain ⟨A8, c9, rfl, -⟩ := w11.form
 have hO := zs72 hO
 refine za hO [] [(5, zs9 A8 (p0 ++ [z7]) c9)] [1] zsN fun j => ?_
 refine zq ?_
 cases hF
 exact hQ _ _ _ _ _ rfl hO hL ⟨_, _, rfl, rfl, w11⟩
theorem zr5 {τ : Hp} {v0 : Value} {p0 : (List UInt8)} {o0 : Ob} {q1 : zf} {bm1 : Nat} (wp0 : zd Ty.u8 5 τ v0 p0 o0) {rr : (List UInt8) × zf} (hF : ziw p0 q1 = some rr) :
  Ctr Tryz.prog 105 #[v0, .pointer (some ⟨bm1, 0, none⟩)] τ [o0, zy bm1 q1.Kind.toNat q1.Op.toNat q1.R q1.S q1.T q1.N q1.M] (fun v τ' vs' => ∃ (v0 : Value) (o0 : Ob), v = v0 ∧ vs' = [o0, zy bm1 rr.2.Kind.toNat rr.2.Op.toNat rr.2.R rr.2.S rr.2.T rr.2.N rr.2.M] ∧ zd Ty.u8 5 τ' v0 rr.1 o0) := by
 obtain ⟨A0, c0, rfl, -⟩ := wp0.form
 refine zu (args := [.slice A0 p0.length c0, .pointer (some ⟨bm1, 0, none⟩)]) hm Tryz.func105 zrK rfl fun w0 σ hO Q hQ => ?_
 unfold ziw at hF
 have hL := Hp.le.refl τ
 show wpn _ _ zkQ.body _ _ _
 unfold zkQ
 dsimp only
 refine za hO [] [] [0, 1] zsN fun j => ?_
 refine zc hO 6 [1] [(5, zs9 A0 p0 c0), (10, .int .u64 (IntKind.u64.wrap q1.M))] [1] (And.intro (And.intro rfl rfl) zsO) fun j => ?_
 obtain ⟨_, h4, r3, hO⟩ := (wp0.le hL).share hO (i := 0) rfl
 have hL := hL.trans h4
 have hO := zs72 hO
 obtain ⟨c5, h6, hF⟩ := zs8 hF
 refine zo hO (znB r3 h6) rfl fun _ σ _ _ hO h7 h8 => ?_
 have hL := hL.trans h7
 have r3 := r3.le h7
 obtain ⟨v9, o12, rfl, rfl, w13⟩ := h8
 obtain ⟨A10, c11, rfl, -⟩ := w13.form
 have hO := zs73 hO
 refine za hO [] [(4, zs9 A10 c5 c11)] [1] zsN fun j => ?_
 refine zq ?_
 cases hF
 have hO := hO.sel [2, 1]
 exact hQ _ _ _ _ _ rfl hO hL ⟨_, _, rfl, rfl, w13⟩
theorem zo7 {τ : Hp} {v0 : Value} {p0 : (List UInt8)} {o0 : Ob} {q1 : zf} {bm1 : Nat} (wp0 : zd Ty.u8 5 τ v0 p0 o0) {rr : (List UInt8) × zf} (hF : zir p0 q1 = some rr) :
  Ctr Tryz.prog 110 #[v0, .pointer (some ⟨bm1, 0, none⟩)] τ [o0, zy bm1 q1.Kind.toNat q1.Op.toNat q1.R q1.S q1.T q1.N q1.M] (fun v τ' vs' => ∃ (v0 : Value) (o0 : Ob), v = v0 ∧ vs' = [o0, zy bm1 rr.2.Kind.toNat rr.2.Op.toNat rr.2.R rr.2.S rr.2.T rr.2.N rr.2.M] ∧ zd Ty.u8 5 τ' v0 rr.1 o0) := by
 obtain ⟨A0, c0, rfl, -⟩ := wp0.form
 refine zu (args := [.slice A0 p0.length c0, .pointer (some ⟨bm1, 0, none⟩)]) hm Tryz.func110 zpT rfl fun w0 σ hO Q hQ => ?_
 unfold zir at hF
 have hL := Hp.le.refl τ
 show wpn _ _ zj4.body _ _ _
 unfold zj4
 dsimp only
 refine za hO [] [] [0, 1] zsN fun j => ?_
 refine zc hO 5 [1] [(8, zs9 A0 p0 c0), (12, zs2 q1.N)] [1] (And.intro (And.intro rfl rfl) zsO) fun j => ?_
 obtain ⟨_, h4, r3, hO⟩ := (wp0.le hL).share hO (i := 0) rfl
 have hL := hL.trans h4
 have hO := zs72 hO
 obtain ⟨c5, h6, hF⟩ := zs8 hF
 refine zo hO (zrj r3 h6) rfl fun _ σ _ _ hO h7 h8 => ?_
 have hL := hL.trans h7
 have r3 := r3.le h7
 obtain ⟨v9, o12, rfl, rfl, w13⟩ := h8
 obtain ⟨A10, c11, rfl, -⟩ := w13.form
 have hO := zs73 hO
 refine za hO [] [(5, zs9 A10 c5.1 c11)] [1] zsN fun j => ?_
 refine za hO [] [(4, zs9 A10 c5.1 c11)] [1] zsN fun j => ?_
 refine zq ?_
 cases hF
 have hO := hO.sel [2, 1]
 exact hQ _ _ _ _ _ rfl hO hL ⟨_, _, rfl, rfl, w13⟩
theorem zpK {τ : Hp} {v0 : Value} {p0 : (List UInt8)} {o0 : Ob} {q1 : zf} {bm1 : Nat} {af0 : Addr} (wp0 : zd Ty.u8 5 τ v0 p0 o0) (mf0 : At τ af0 [.func (.func 115) #[] #[]]) {rr : (List UInt8) × zf} (hF : ziZ p0 q1 = some rr) :
  Ctr Tryz.prog 117 #[v0, .pointer (some ⟨bm1, 0, none⟩), .pointer (some af0)] τ [o0, zy bm1 q1.Kind.toNat q1.Op.toNat q1.R q1.S q1.T q1.N q1.M] (fun v τ' vs' => ∃ (v0 : Value) (o0 : Ob), v = v0 ∧ vs' = [o0, zy bm1 rr.2.Kind.toNat rr.2.Op.toNat rr.2.R rr.2.S rr.2.T rr.2.N rr.2.M] ∧ zd Ty.u8 5 τ' v0 rr.1 o0) := by
 obtain ⟨A0, c0, rfl, -⟩ := wp0.form
 refine zu (args := [.slice A0 p0.length c0, .pointer (some ⟨bm1, 0, none⟩), .pointer (some af0)]) hm Tryz.func117 zhD rfl fun w0 σ hO Q hQ => ?_
 unfold ziZ at hF
 have hL := Hp.le.refl τ
 show wpn _ _ zcG.body _ _ _
 unfold zcG
 dsimp only
 refine za hO [] [] [0, 1, 2] zsO fun j => ?_
 refine zc hO 1 [] [(6, zs9 A0 p0 c0)] [1, 2] zsO fun j => ?_
 refine zL rfl ((mf0.le hL).le hO.base).fst ?_
 refine zc hO 1 [] [(8, zs3 bm1)] [1, 6, 7] zsP fun j => ?_
 obtain ⟨c3, h4, hF⟩ := zs8 hF
 refine zdh (hs := [_]) (vs := [_]) rfl (by kernel_rfl) hO (zqL (q0 := (⟨q1.Kind, q1.Op, q1.R, q1.S, q1.T, q1.N, q1.M⟩ : zf)) h4) rfl fun _ σ _ _ hO h5 h6 => ?_
 have hL := hL.trans h5
 obtain ⟨rfl, rfl⟩ := h6
 have hO := zs72 hO
 obtain ⟨z7, hz7, hF⟩ := zs8 hF
 obtain ⟨_, hr12, hF⟩ := zs8 hF
 refine zb8 (T := Ty.u8) (y := z7) hO (wp0.le hL) (i := 0) rfl rfl (fun _ => rfl) rfl (u8R hz7) rfl hr12 (by decide) fun u _ σ o10 w11 hO => ?_
 obtain ⟨A8, c9, rfl, -⟩ := w11.form
 have hO := zs72 hO
 refine za hO [] [(5, zs9 A8 (p0 ++ [z7]) c9)] [1] zsN fun j => ?_
 refine zq ?_
 cases hF
 exact hQ _ _ _ _ _ rfl hO hL ⟨_, _, rfl, rfl, w11⟩
theorem zlO {τ : Hp} {v0 : Value} {p0 : (List UInt8)} {o0 : Ob} {q1 : zf} {bm1 : Nat} (wp0 : zd Ty.u8 5 τ v0 p0 o0) {rr : (List UInt8) × zf} (hF : zfF p0 q1 = some rr) :
  Ctr Tryz.prog 89 #[v0, .pointer (some ⟨bm1, 0, none⟩)] τ [o0, zy bm1 q1.Kind.toNat q1.Op.toNat q1.R q1.S q1.T q1.N q1.M] (fun v τ' vs' => ∃ (v0 : Value) (o0 : Ob), v = v0 ∧ vs' = [o0, zy bm1 rr.2.Kind.toNat rr.2.Op.toNat rr.2.R rr.2.S rr.2.T rr.2.N rr.2.M] ∧ zd Ty.u8 5 τ' v0 rr.1 o0) := by
 obtain ⟨A0, c0, rfl, -⟩ := wp0.form
 refine zu (args := [.slice A0 p0.length c0, .pointer (some ⟨bm1, 0, none⟩)]) hm Tryz.func89 s89 rfl fun w0 σ hO Q hQ => ?_
 unfold zfF at hF
 have hL := Hp.le.refl τ
 show wpn _ _ a89.body _ _ _
 unfold a89
 dsimp only
 refine za hO [] [] [0, 1] zsN fun j => ?_
 refine zc hO 5 [1] [(5, zs9 A0 p0 c0), (9, zs2 q1.N)] [1] (And.intro (And.intro rfl rfl) zsO) fun j => ?_
 obtain ⟨_, h4, r3, hO⟩ := (wp0.le hL).share hO (i := 0) rfl
 have hL := hL.trans h4
 have hO := zs72 hO
 obtain ⟨c5, h6, hF⟩ := zs8 hF
 refine zo hO (zlR r3 h6) rfl fun _ σ _ _ hO h7 h8 => ?_
 have hL := hL.trans h7
 have r3 := r3.le h7
 obtain ⟨v9, o12, rfl, rfl, w13⟩ := h8
 obtain ⟨A10, c11, rfl, -⟩ := w13.form
 have hO := zs73 hO
 refine za hO [] [(4, zs9 A10 c5 c11)] [1] zsN fun j => ?_
 refine zq ?_
 cases hF
 have hO := hO.sel [2, 1]
 exact hQ _ _ _ _ _ rfl hO hL ⟨_, _, rfl, rfl, w13⟩
theorem zq3 {τ : Hp} {x : zA} {u0 u1 u2 : Value} (hx : zbX τ x u0 u1 u2) {v0 : Value} {p0 : (List UInt8)} {o0 : Ob} {q1 : zf} {bm1 : Nat} (wp0 : zd Ty.u8 5 τ v0 p0 o0) {rr : (List UInt8) × zf} (hF : zjA x p0 q1 = some rr) :
  FnC Tryz.prog u1 #[v0, .pointer (some ⟨bm1, 0, none⟩)] τ [o0, zy bm1 q1.Kind.toNat q1.Op.toNat q1.R q1.S q1.T q1.N q1.M] (fun v τ' vs' => ∃ (v0 : Value) (o0 : Ob), v = v0 ∧ vs' = [o0, zy bm1 rr.2.Kind.toNat rr.2.Op.toNat rr.2.R rr.2.S rr.2.T rr.2.N rr.2.M] ∧ zd Ty.u8 5 τ' v0 rr.1 o0) := by
 cases x with
 | c_one_1 => obtain ⟨a1_0, a2_0, rfl, rfl, rfl, m0, m1⟩ := hx; exact ⟨117, #[], #[.pointer (some a1_0)], _, rfl, by kernel_rfl, rfl, zpJ wp0 m0 hF⟩
 | c_both_1 => obtain ⟨a1_0, a2_0, rfl, rfl, rfl, m0, m1⟩ := hx; exact ⟨117, #[], #[.pointer (some a1_0)], _, rfl, by kernel_rfl, rfl, zru wp0 m0 hF⟩
 | c_op_1 x0 x1 => obtain ⟨a0_0, a0_1, a1_0, a2_0, rfl, rfl, rfl, m0, m1, m2, m3⟩ := hx; exact ⟨117, #[], #[.pointer (some a1_0)], _, rfl, by kernel_rfl, rfl, zr7 wp0 m2 hF⟩
 | c_third_1 => obtain ⟨a1_0, a2_0, rfl, rfl, rfl, m0, m1⟩ := hx; exact ⟨117, #[], #[.pointer (some a1_0)], _, rfl, by kernel_rfl, rfl, zq2 wp0 m0 hF⟩
 | c_bound_1 => obtain ⟨rfl, rfl, rfl⟩ := hx; exact ⟨105, #[], #[], _, rfl, by kernel_rfl, rfl, zr5 wp0 hF⟩
 | c_to_1 => obtain ⟨rfl, rfl, rfl⟩ := hx; exact ⟨110, #[], #[], _, rfl, by kernel_rfl, rfl, zo7 wp0 hF⟩
 | c_how_1 => obtain ⟨a1_0, a2_0, rfl, rfl, rfl, m0, m1⟩ := hx; exact ⟨117, #[], #[.pointer (some a1_0)], _, rfl, by kernel_rfl, rfl, zpK wp0 m0 hF⟩
 | c_parts_1 => obtain ⟨rfl, rfl, rfl⟩ := hx; exact ⟨89, #[], #[], _, rfl, by kernel_rfl, rfl, zlO wp0 hF⟩
 | c_within => obtain ⟨rfl, rfl, rfl⟩ := hx; exact ⟨89, #[], #[], _, rfl, by kernel_rfl, rfl, zlO wp0 hF⟩
theorem zmq {τ : Hp} {p0 : zf}  {rr : (List UInt8) × Bool} (hF : zd8 p0 = some rr) :
  Ctr Tryz.prog 61 #[.agg #[.int .u8 p0.Kind.toNat, .int .u8 p0.Op.toNat, .int .i64 p0.R, .int .i64 p0.S, .int .i64 p0.T, .int .i64 p0.N, .int .i64 p0.M]] τ [] (fun v τ' vs' => ∃ (v0 : Value) (o0 : Ob), v = .tuple #[v0, .bool rr.2] ∧ vs' = [o0] ∧ zd Ty.u8 5 τ' v0 rr.1 o0) := by
 refine zu (args := [.agg #[.int .u8 p0.Kind.toNat, .int .u8 p0.Op.toNat, .int .i64 p0.R, .int .i64 p0.S, .int .i64 p0.T, .int .i64 p0.N, .int .i64 p0.M]]) hm Tryz.func61 s61 rfl fun w0 σ hO Q hQ => ?_
 unfold zd8 at hF
 have hL := Hp.le.refl τ
 show wpn _ _ a61.body _ _ _
 unfold a61
 dsimp only
 refine zbq (n := 7) hO rfl rfl fun b2 σ hO => ?_
 have hO := zs71 hO
 refine za hO [] [] [1] zsM fun j => ?_
 refine zc hO 2 [0] [(11, .int .u8 (p0.Kind.toNat : Int))] [1] (And.intro (And.intro rfl rfl) zsN) fun j => ?_
 obtain ⟨c3, h4, hF⟩ := zs8 hF
 refine zo hO (zmz h4) rfl fun _ σ _ _ hO h5 h6 => ?_
 have hL := hL.trans h5
 obtain ⟨v7, o10, rfl, rfl, w11⟩ := h6
 obtain ⟨A8, c9, rfl, -⟩ := w11.form
 have hO := zs72 hO
 refine za hO [] [(4, zs9 A8 c3.1 c9), (5, .bool c3.2)] [1] zsO fun j => ?_
 refine zb (za hO [] [(16, .bool (!c3.2))] [1, 4] zsO fun j => ?_)
 refine zi hF rfl (fun hF => ?_) fun hF => ?_
 ·refine zb (zj hO [] [(2, .slice none 0 0), (3, .bool false)] zsN fun j => ?_)
  refine zp ?_
  have hO := hO.no
  have hO := zs73 hO
  cases hF
  have hO := hO.sel [2]
  exact hQ _ _ _ _ _ rfl hO hL ⟨_, _, rfl, rfl, (zd.nil _ _ _)⟩
 refine zl (zc hO 2 [0] [(18, .int .u8 (p0.Kind.toNat : Int))] [1, 4] (And.intro (And.intro rfl rfl) zsO) fun j => ?_)
 refine zbv (T := Ty.u8) (l := ([p0.Kind] : List UInt8)) (cs := [.int .u8 (p0.Kind.toNat : Int)]) hO rfl ⟨[.int .u8 (p0.Kind.toNat : Int)], _, rfl, rfl, rfl⟩ rfl (by decide) fun _ σ o15 w16 hO => ?_
 obtain ⟨A13, c14, rfl, -⟩ := w16.form
 have hO := zs73 hO
 refine za hO [] [(6, zs9 A13 ([p0.Kind] : List UInt8) c14)] [1, 4] zsO fun j => ?_
 refine zb (za hO [] [(20, zs9 A8 c3.1 c9), (21, zs2 (c3.1.length : Int)), (22, zs2 0)] [1, 6] zsQ fun j => ?_)
 refine zW ?_
 have hO := hO.sel [0, 2, 1]
 refine zbG (fun (n : Nat) e' σ' => ∃ (x60 x61 : UInt8) (x62 x63 x64 x65 x66 : Int) (A67 : Option Addr) (c68 : Nat) (o69 : Ob) (x70 : List UInt8) (A72 : Option Addr) (c73 : Nat) (o74 : Ob) (x75 : List zA) (x77 : Int) (τ' : Hp), agr [(1, zs3 b2), (6, zs9 A67 x70 c68), (20, zs9 A72 x75 c73), (21, zs2 (c3.1.length : Int)), (22, zs2 x77)] e' ∧ Obs τ' σ' [zy b2 (x60.toNat : Int) (x61.toNat : Int) x62 x63 x64 x65 x66, o69, o74] ∧ Hp.le τ τ' ∧ zd Ty.u8 5 τ' (zs9 A67 x70 c68) x70 o69 ∧ zd zcu 104 τ' (zs9 A72 x75 c73) x75 o74 ∧ zgy c3 n x60 x61 x62 x63 x64 x65 x66 x70 x75 x77 = some rr) big ⟨p0.Kind, p0.Op, p0.R, p0.S, p0.T, p0.N, p0.M, A13, c14, o15, ([p0.Kind] : List UInt8), A8, c9, o10, c3.1, 0, _, zs1 zsP, hO, hL, w16, w11, hF⟩ ?_
 clear hF hO hL
 rintro n111 e σ ⟨x60, x61, x62, x63, x64, x65, x66, A67, c68, o69, x70, A72, c73, o74, x75, x77, _, hA, hO, hL, w71, w76, hF⟩
 rw [← zD _ _ hA]
 cases n111 with
 | zero => exact nomatch (show none = some rr from hF)
 | succ n111 =>
 replace hF : zh4 (zgy c3 n111) c3 x60 x61 x62 x63 x64 x65 x66 x70 x75 x77 = some rr := hF
 unfold zh4 at hF
 refine za hO [] [(23, .bool (decide (x77 < (c3.1.length : Int))))] [1, 6, 20, 21, 22] zsR fun j => ?_
 refine zi hF rfl (fun hF => ?_) fun hF => ?_
 ·refine zl (zW ?_)
  obtain ⟨y113, g114, hF⟩ := zs8 hF
  refine zbg (T := zcu) hO w76 (i := 2) rfl rfl rfl g114 (by decide) fun zik _ k116 m117 i118 => ?_
  have k119 := k116
  obtain ⟨f121, zgG, c123, f124, zeE, c126, f127, ze2, c129, rfl, r120⟩ := k119
  refine zL rfl (m117.all rfl) ?_
  refine zbE hO fun b130 σ hO => ?_
  have hO := zs74 hO
  refine zH hO (i := 3) rfl (off := 0) rfl rfl rfl rfl (Nat.le_of_ble_eq_true rfl) rfl fun σ hO => ?_
  have hO := zs74 hO
  refine ze (zb (zc hO 2 [3] [(27, .func f121 zgG c123)] [1, 6, 8, 20, 21, 22] (And.intro (And.intro rfl rfl) zsS) fun j => ?_))
  obtain ⟨c131, h132, hF⟩ := zs8 hF
  have hO := hO.sel [1, 2, 3, 0]
  refine zkI (hs := [_, _, _]) (vs := [_]) rfl hO (zqt r120 h132) rfl fun _ σ _ _ hO h133 h134 => ?_
  have hL := hL.trans h133
  have w71 := w71.le h133
  have w76 := w76.le h133
  have r120 := r120.le h133
  obtain ⟨rfl, rfl⟩ := h134
  have hO := zs74 hO
  refine za hO [] [(29, .bool (!c131.1))] [1, 6, 8, 20, 21, 22] zsS fun j => ?_
  refine zi hF rfl (fun hF => ?_) fun hF => ?_
  ·refine zb (zj hO [] [(2, .slice none 0 0), (3, .bool false)] zsN fun j => ?_)
   refine zp (zJ (zB (zB (zJ (zB ?_)))))
   have hO := hO.no
   have hO := zs75 hO
   cases hF
   have hO := hO.sel [4]
   exact hQ _ _ _ _ _ rfl hO hL ⟨_, _, rfl, rfl, (zd.nil _ _ _)⟩
  refine zl (zV (zc hO 3 [2] [(31, .func f124 zeE c126), (32, zs9 A67 x70 c68)] [1, 20, 21, 22] (And.intro (And.intro rfl rfl) zsR) fun j => ?_))
  obtain ⟨c136, h137, hF⟩ := zs8 hF
  have hO := hO.sel [1, 2, 0, 3]
  refine zkI (hs := [_, _]) (vs := [_, _]) rfl hO (zq3 r120 w71 h137) rfl fun _ σ _ _ hO h138 h139 => ?_
  have hL := hL.trans h138
  have w76 := w76.le h138
  have r120 := r120.le h138
  obtain ⟨v140, o143, rfl, rfl, w144⟩ := h139
  obtain ⟨A141, c142, rfl, -⟩ := w144.form
  have hO := zs74 hO
  refine za hO [] [(6, zs9 A141 c136.1 c142)] [1, 20, 21, 22] zsQ fun j => ?_
  refine zg (zF (zk (zV (za hO [] [(22, zs2 (IntKind.i64.wrap (x77 + 1)))] [1, 6, 20, 21] zsQ fun j => ?_))))
  refine zg (zk ?_)
  have hO := hO.sel [3, 2, 0]
  exact ⟨n111, Nat.lt_succ_self _, c136.2.Kind, c136.2.Op, c136.2.R, c136.2.S, c136.2.T, c136.2.N, c136.2.M, A141, c142, o143, c136.1, A72, c73, o74, x75, (IntKind.i64.wrap (x77 + 1)), _, zs1 zsP, hO, hL, w144, w76, hF⟩
 refine zbl (zbw (zbD (zk (zj hO [] [(2, zs9 A67 x70 c68), (3, .bool true)] zsN fun j => ?_))))
 refine zq ?_
 cases hF
 have hO := hO.sel [1]
 exact hQ _ _ _ _ _ rfl hO hL ⟨_, _, rfl, rfl, w71⟩
theorem znu {τ : Hp} {p0 : zf}  {rr : Bool} (hF : zd1 p0 = some rr) :
  Ctr Tryz.prog 42 #[.agg #[.int .u8 p0.Kind.toNat, .int .u8 p0.Op.toNat, .int .i64 p0.R, .int .i64 p0.S, .int .i64 p0.T, .int .i64 p0.N, .int .i64 p0.M]] τ [] (fun v τ' vs' => v = .bool rr ∧ vs' = []) := by
 refine zu (args := [.agg #[.int .u8 p0.Kind.toNat, .int .u8 p0.Op.toNat, .int .i64 p0.R, .int .i64 p0.S, .int .i64 p0.T, .int .i64 p0.N, .int .i64 p0.M]]) hm Tryz.func42 s42 rfl fun w0 σ hO Q hQ => ?_
 unfold zd1 at hF
 have hL := Hp.le.refl τ
 show wpn _ _ a42.body _ _ _
 unfold a42
 dsimp only
 refine zbq (n := 7) hO rfl rfl fun b2 σ hO => ?_
 have hO := zs71 hO
 refine za hO [] [] [1] zsM fun j => ?_
 refine zc hO 1 [0] [(8, .agg #[(.int .u8 (p0.Kind.toNat : Int)), (.int .u8 (p0.Op.toNat : Int)), (.int .i64 p0.R), (.int .i64 p0.S), (.int .i64 p0.T), (.int .i64 p0.N), (.int .i64 p0.M)])] [1] (And.intro (And.intro rfl rfl) zsN) fun j => ?_
 obtain ⟨c3, h4, hF⟩ := zs8 hF
 refine zo hO (zmq (p0 := (⟨p0.Kind, p0.Op, p0.R, p0.S, p0.T, p0.N, p0.M⟩ : zf)) h4) rfl fun _ σ _ _ hO h5 h6 => ?_
 have hL := hL.trans h5
 obtain ⟨v7, o10, rfl, rfl, w11⟩ := h6
 obtain ⟨A8, c9, rfl, -⟩ := w11.form
 have hO := zs72 hO
 refine za hO [] [(3, zs9 A8 c3.1 c9), (4, .bool c3.2)] [1] zsO fun j => ?_
 refine zb (za hO [] [(13, .bool (!c3.2))] [1, 3] zsO fun j => ?_)
 refine zi hF rfl (fun hF => ?_) fun hF => ?_
 ·refine zb (zj hO [] [(2, .bool false)] zsM fun j => ?_)
  refine zp ?_
  cases hF
  have hO := hO.sel []
  exact hQ _ _ _ _ _ rfl hO hL ⟨rfl, rfl⟩
 refine zl (zc hO 1 [] [(15, zs9 A8 c3.1 c9)] [1] zsN fun j => ?_)
 obtain ⟨_, h14, r13, hO⟩ := w11.share hO (i := 1) rfl
 have hL := hL.trans h14
 have hO := zs72 hO
 obtain ⟨c15, h16, hF⟩ := zs8 hF
 refine zo hO (zmI r13 h16) rfl fun _ σ _ _ hO h17 h18 => ?_
 have hL := hL.trans h17
 have r13 := r13.le h17
 obtain ⟨rfl, rfl⟩ := h18
 have hO := zs72 hO
 refine zc hO 4 [] [(17, .agg #[(.int .u8 (c15.1.Kind.toNat : Int)), (.int .u8 (c15.1.Op.toNat : Int)), (.int .i64 c15.1.R), (.int .i64 c15.1.S), (.int .i64 c15.1.T), (.int .i64 c15.1.N), (.int .i64 c15.1.M)]), (18, zs2 c15.2.1), (19, .bool c15.2.2)] [1] zsP fun j => ?_
 refine zbE hO fun b19 σ hO => ?_
 have hO := zs73 hO
 refine zH hO (i := 2) rfl (off := 0) rfl rfl rfl rfl (Nat.le_of_ble_eq_true rfl) rfl fun σ hO => ?_
 have hO := zs73 hO
 refine za hO [] [(4, .bool c15.2.2)] [1, 5] zsO fun j => ?_
 refine zj hO [2, 0] [(2, .bool (c15.2.2 && (( (c15.1.Kind.toNat : Int) == (p0.Kind.toNat : Int)) && (( (c15.1.Op.toNat : Int) == (p0.Op.toNat : Int)) && (( c15.1.R == p0.R) && (( c15.1.S == p0.S) && (( c15.1.T == p0.T) && (( c15.1.N == p0.N) && (( c15.1.M == p0.M) && true)))))))))] (And.intro (And.intro rfl rfl) (And.intro (And.intro rfl rfl) (And.intro (And.intro rfl rfl) (fun _ => zs1 trivial)))) fun j => ?_
 refine zq ?_
 cases hF
 have hO := hO.sel []
 exact hQ _ _ _ _ _ rfl hO hL ⟨rfl, rfl⟩
theorem zr1 {τ : Hp} {v0 : Value} {p0 : (List UInt8)} {v1 : Value} {p1 : (List UInt8)} (r0 : RdT Ty.u8 τ v0 p0) (r1 : RdT Ty.u8 τ v1 p1) {rr : Bool} (hF : zhC p0 p1 = some rr) :
  Ctr Tryz.prog 43 #[v0, v1] τ [] (fun v τ' vs' => v = .bool rr ∧ vs' = []) := by
 obtain ⟨A0, c0, rfl, -⟩ := r0.form
 obtain ⟨A1, c1, rfl, -⟩ := r1.form
 refine zu (args := [.slice A0 p0.length c0, .slice A1 p1.length c1]) hm Tryz.func43 s43 rfl fun w0 σ hO Q hQ => ?_
 unfold zhC at hF
 have hL := Hp.le.refl τ
 show wpn _ _ a43.body _ _ _
 unfold a43
 dsimp only
 refine za hO [] [] [0, 1] zsN fun j => ?_
 refine zc hO 1 [] [(5, zs9 A0 p0 c0)] [1] zsN fun j => ?_
 refine znA (l := p0) ((r0.le hL).le hO.base) rfl ?_
 refine zc hO 1 [] [(7, zs9 A1 p1 c1)] [6] zsN fun j => ?_
 refine znA (l := p1) ((r1.le hL).le hO.base) rfl ?_
 refine zj hO [] [(4, .bool (zjy (⟨p0.toArray⟩ : ByteArray) (⟨p1.toArray⟩ : ByteArray)))] zsM fun j => ?_
 refine zq ?_
 cases hF
 exact hQ _ _ _ _ _ rfl hO hL ⟨rfl, rfl⟩
theorem zrG {τ : Hp} {v0 : Value} {p0 : (List UInt8)} {p1 : zf} (r0 : RdT Ty.u8 τ v0 p0) {rr : (List UInt8)} (hF : zeU p0 p1 = some rr) :
  Ctr Tryz.prog 44 #[v0, .agg #[.int .u8 p1.Kind.toNat, .int .u8 p1.Op.toNat, .int .i64 p1.R, .int .i64 p1.S, .int .i64 p1.T, .int .i64 p1.N, .int .i64 p1.M]] τ [] (fun v τ' vs' => ∃ (v0 : Value) (o0 : Ob), v = v0 ∧ vs' = [o0] ∧ zd Ty.u8 5 τ' v0 rr o0) := by
 obtain ⟨A0, c0, rfl, -⟩ := r0.form
 refine zu (args := [.slice A0 p0.length c0, .agg #[.int .u8 p1.Kind.toNat, .int .u8 p1.Op.toNat, .int .i64 p1.R, .int .i64 p1.S, .int .i64 p1.T, .int .i64 p1.N, .int .i64 p1.M]]) hm Tryz.func44 s44 rfl fun w0 σ hO Q hQ => ?_
 unfold zeU at hF
 have hL := Hp.le.refl τ
 show wpn _ _ a44.body _ _ _
 unfold a44
 dsimp only
 refine zbq (n := 7) hO rfl rfl fun b3 σ hO => ?_
 have hO := zs71 hO
 refine za hO [] [] [0, 3] zsN fun j => ?_
 refine zc hO 1 [] [(8, zs9 A0 p0 c0)] [3] zsN fun j => ?_
 obtain ⟨c4, h5, hF⟩ := zs8 hF
 refine zo hO (zgN (r0.le hL) h5) rfl fun _ σ _ _ hO h6 h7 => ?_
 have hL := hL.trans h6
 obtain ⟨v8, o11, rfl, rfl, w12⟩ := h7
 obtain ⟨A9, c10, rfl, -⟩ := w12.form
 have hO := zs72 hO
 refine za hO [] [(5, zs9 A9 c4 c10)] [3] zsN fun j => ?_
 refine zb (zc hO 1 [0] [(10, .agg #[(.int .u8 (p1.Kind.toNat : Int)), (.int .u8 (p1.Op.toNat : Int)), (.int .i64 p1.R), (.int .i64 p1.S), (.int .i64 p1.T), (.int .i64 p1.N), (.int .i64 p1.M)])] [3, 5] (And.intro (And.intro rfl rfl) zsO) fun j => ?_)
 obtain ⟨c13, h14, hF⟩ := zs8 hF
 refine zo hO (znu (p0 := (⟨p1.Kind, p1.Op, p1.R, p1.S, p1.T, p1.N, p1.M⟩ : zf)) h14) rfl fun _ σ _ _ hO h15 h16 => ?_
 have hL := hL.trans h15
 have w12 := w12.le h15
 obtain ⟨rfl, rfl⟩ := h16
 have hO := zs72 hO
 refine za hO [] [(12, .bool (!c13))] [3, 5] zsO fun j => ?_
 refine zi hF rfl (fun hF => ?_) fun hF => ?_
 ·refine zb (zj hO [] [(4, zs9 A9 c4 c10)] zsM fun j => ?_)
  refine zp ?_
  cases hF
  have hO := hO.sel [1]
  exact hQ _ _ _ _ _ rfl hO hL ⟨_, _, rfl, rfl, w12⟩
 refine zl (zc hO 1 [0] [(15, .agg #[(.int .u8 (p1.Kind.toNat : Int)), (.int .u8 (p1.Op.toNat : Int)), (.int .i64 p1.R), (.int .i64 p1.S), (.int .i64 p1.T), (.int .i64 p1.N), (.int .i64 p1.M)])] [5] (And.intro (And.intro rfl rfl) zsN) fun j => ?_)
 obtain ⟨c18, h19, hF⟩ := zs8 hF
 refine zo hO (zmq (p0 := (⟨p1.Kind, p1.Op, p1.R, p1.S, p1.T, p1.N, p1.M⟩ : zf)) h19) rfl fun _ σ _ _ hO h20 h21 => ?_
 have hL := hL.trans h20
 have w12 := w12.le h20
 obtain ⟨v22, o25, rfl, rfl, w26⟩ := h21
 obtain ⟨A23, c24, rfl, -⟩ := w26.form
 have hO := zs73 hO
 refine za hO [] [(6, zs9 A23 c18.1 c24)] [5] zsN fun j => ?_
 refine zZ hO 2 [] [(19, zs9 A9 c4 c10), (20, zs9 A23 c18.1 c24)] zsN fun j => ?_
 obtain ⟨_, hr31, hF⟩ := zs8 hF
 refine zgk (T := Ty.u8) zl3 hO w12 (i := 1) rfl rfl rfl (w26.rd hO (i := 2) rfl) hr31 (by decide) fun _ σ o29 w30 hO => ?_
 obtain ⟨A27, c28, rfl, -⟩ := w30.form
 have hO := zs73 hO
 refine zj hO [] [(4, zs9 A27 (c4 ++ c18.1) c28)] zsM fun j => ?_
 refine zq ?_
 cases hF
 have hO := hO.sel [1]
 exact hQ _ _ _ _ _ rfl hO hL ⟨_, _, rfl, rfl, w30⟩
theorem zny {τ : Hp} {v0 : Value} {p0 : (List UInt8)} {p1 : Int} (r0 : RdT Ty.u8 τ v0 p0) {rr : zf × Int × Int} (hF : zc2 p0 p1 = some rr) :
  Ctr Tryz.prog 30 #[v0, .int .i64 p1] τ [] (fun v τ' vs' => v = .tuple #[.agg #[.int .u8 rr.1.Kind.toNat, .int .u8 rr.1.Op.toNat, .int .i64 rr.1.R, .int .i64 rr.1.S, .int .i64 rr.1.T, .int .i64 rr.1.N, .int .i64 rr.1.M], .int .i64 rr.2.1, .int .i64 rr.2.2] ∧ vs' = []) := by
 obtain ⟨A0, c0, rfl, -⟩ := r0.form
 refine zu (args := [.slice A0 p0.length c0, .int .i64 p1]) hm Tryz.func30 s30 rfl fun w0 σ hO Q hQ => ?_
 unfold zc2 at hF
 have hL := Hp.le.refl τ
 show wpn _ _ a30.body _ _ _
 unfold a30
 dsimp only
 refine zbE hO fun b3 σ hO => ?_
 have hO := zs71 hO
 refine za hO [] [] [0, 1, 4] zsO fun j => ?_
 refine zb (za hO [] [(17, .bool ((decide (p1 < 0)) || (decide (p1 > (p0.length : Int)))))] [0, 1, 4] (And.intro (And.intro rfl rfl) (fun _ => zs1 zsO)) fun j => ?_)
 refine zi hF rfl (fun hF => ?_) fun hF => ?_
 ·refine zb (zc hO 1 [0] [(18, .agg #[(.int .u8 0), (.int .u8 0), (.int .i64 0), (.int .i64 0), (.int .i64 0), (.int .i64 0), (.int .i64 0)])] [4] (And.intro (And.intro rfl rfl) zsN) fun j => ?_)
  refine zH hO (i := 0) rfl (off := 0) rfl rfl rfl rfl (Nat.le_of_ble_eq_true rfl) rfl fun σ hO => ?_
  have hO := zs71 hO
  refine za hO [] [(5, zs2 0), (6, zs2 1)] [4] zsO fun j => ?_
  refine zp ?_
  cases hF
  have hV0 := hO.val (i := 0) rfl (off := 0) (agg := true) (n := 7) rfl
  have hO := hO.sel []
  exact hQ _ _ _ _ _ (zbH rfl (hV0) (zbZ (zbZ rfl))) hO hL ⟨rfl, rfl⟩
 refine zl (zc hO 2 [] [(20, zs9 A0 p0 c0), (21, zs2 p1)] [0, 1, 4] zsQ fun j => ?_)
 obtain ⟨c5, h6, hF⟩ := zs8 hF
 refine zo hO (zmI (r0.le hL) h6) rfl fun _ σ _ _ hO h7 h8 => ?_
 have hL := hL.trans h7
 obtain ⟨rfl, rfl⟩ := h8
 have hO := zs71 hO
 refine zc hO 4 [] [(23, .agg #[(.int .u8 (c5.1.Kind.toNat : Int)), (.int .u8 (c5.1.Op.toNat : Int)), (.int .i64 c5.1.R), (.int .i64 c5.1.S), (.int .i64 c5.1.T), (.int .i64 c5.1.N), (.int .i64 c5.1.M)]), (24, zs2 c5.2.1), (25, .bool c5.2.2)] [0, 1, 4] zsR fun j => ?_
 refine zbE hO fun b9 σ hO => ?_
 have hO := zs72 hO
 refine zH hO (i := 1) rfl (off := 0) rfl rfl rfl rfl (Nat.le_of_ble_eq_true rfl) rfl fun σ hO => ?_
 have hO := zs72 hO
 refine za hO [] [(8, zs2 c5.2.1), (9, .bool c5.2.2)] [0, 1, 4, 7] zsR fun j => ?_
 refine zb (z8 (zc hO 3 [] [(28, .bool (!c5.2.2))] [0, 1, 4, 7, 8] zsR fun j => ?_))
 obtain ⟨c10, h11, hF⟩ := zs8 hF
 refine zbN 2 (fun e' σ' => ∃ (τ' : Hp), agr [(32, .bool c10), (0, zs9 A0 p0 c0), (1, zs2 p1), (4, zs3 b3), (7, zs3 b9), (8, zs2 c5.2.1)] e' ∧ Obs τ' σ' [zy b3 0 0 0 0 0 0 0, zy b9 (c5.1.Kind.toNat : Int) (c5.1.Op.toNat : Int) c5.1.R c5.1.S c5.1.T c5.1.N c5.1.M] ∧ Hp.le τ τ') ?_ ?_
 ·have hF := h11
  rcases z1 hF with ⟨hb12, hF⟩ | ⟨hb12, hF⟩
  ·refine zP (zs5 hb12) ?_
   refine zw (zs4 hb12) ?_
   refine ze ?_
   cases hF
   refine zg ?_
   exact ⟨rfl, _, zs1 zsQ, hO, hL⟩
  refine zK (zs5 hb12) ?_
  refine zc hO 1 [1] [(29, .agg #[(.int .u8 (c5.1.Kind.toNat : Int)), (.int .u8 (c5.1.Op.toNat : Int)), (.int .i64 c5.1.R), (.int .i64 c5.1.S), (.int .i64 c5.1.T), (.int .i64 c5.1.N), (.int .i64 c5.1.M)])] [0, 1, 4, 7, 8, 28] (And.intro (And.intro rfl rfl) zsS) fun j => ?_
  obtain ⟨c13, h14, hF⟩ := zs8 hF
  refine zo hO (znu (p0 := (⟨c5.1.Kind, c5.1.Op, c5.1.R, c5.1.S, c5.1.T, c5.1.N, c5.1.M⟩ : zf)) h14) rfl fun _ σ _ _ hO h15 h16 => ?_
  have hL := hL.trans h15
  obtain ⟨rfl, rfl⟩ := h16
  have hO := zs72 hO
  refine zc hO 1 [] [(31, .bool (!c13))] [0, 1, 4, 7, 8, 28] zsS fun j => ?_
  refine zw (zs4 hb12) ?_
  refine ze ?_
  cases hF
  refine zg ?_
  exact ⟨rfl, _, zs1 zsQ, hO, hL⟩
 rintro e σ ⟨_, hA, hO, hL⟩
 rw [← zD _ _ hA]
 refine zc hO 1 [] [(33, .bool c10)] [0, 1, 4, 7, 8] zsR fun j => ?_
 obtain ⟨c17, h18, hF⟩ := zs8 hF
 refine zbN 2 (fun e' σ' => ∃ (τ' : Hp), agr [(42, .bool c17), (4, zs3 b3), (7, zs3 b9), (8, zs2 c5.2.1)] e' ∧ Obs τ' σ' [zy b3 0 0 0 0 0 0 0, zy b9 (c5.1.Kind.toNat : Int) (c5.1.Op.toNat : Int) c5.1.R c5.1.S c5.1.T c5.1.N c5.1.M] ∧ Hp.le τ τ') ?_ ?_
 ·have hF := h18
  rcases z1 hF with ⟨hb19, hF⟩ | ⟨hb19, hF⟩
  ·refine zP (zs5 hb19) ?_
   refine zw (zs4 hb19) ?_
   refine ze ?_
   cases hF
   refine zg ?_
   exact ⟨rfl, _, zs1 zsO, hO, hL⟩
  refine zK (zs5 hb19) ?_
  refine zc hO 4 [1] [(34, .agg #[(.int .u8 (c5.1.Kind.toNat : Int)), (.int .u8 (c5.1.Op.toNat : Int)), (.int .i64 c5.1.R), (.int .i64 c5.1.S), (.int .i64 c5.1.T), (.int .i64 c5.1.N), (.int .i64 c5.1.M)]), (36, zs9 A0 p0 c0), (37, zs2 p1), (38, zs2 c5.2.1)] [4, 7, 8, 33] (And.intro (And.intro rfl rfl) zsT) fun j => ?_
  obtain ⟨y20, g21, hF⟩ := zs8 hF
  refine zdB (T := Ty.u8) (r0.le hL) rfl rfl rfl g21 fun _ r22 => ?_
  obtain ⟨A23, c24, rfl, -⟩ := r22.form
  obtain ⟨c25, h26, hF⟩ := zs8 hF
  refine zo hO (zrG (p1 := (⟨c5.1.Kind, c5.1.Op, c5.1.R, c5.1.S, c5.1.T, c5.1.N, c5.1.M⟩ : zf)) (RdT.nil Ty.u8 _) h26) rfl fun _ σ _ _ hO h27 h28 => ?_
  have hL := hL.trans h27
  have r22 := r22.le h27
  obtain ⟨v29, o32, rfl, rfl, w33⟩ := h28
  obtain ⟨A30, c31, rfl, -⟩ := w33.form
  have hO := zs73 hO
  obtain ⟨_, h35, r34, hO⟩ := w33.share hO (i := 2) rfl
  have hL := hL.trans h35
  have r22 := r22.le h35
  have hO := zs73 hO
  obtain ⟨c36, h37, hF⟩ := zs8 hF
  refine zo hO (zr1 r34 r22 h37) rfl fun _ σ _ _ hO h38 h39 => ?_
  have hL := hL.trans h38
  have r34 := r34.le h38
  have r22 := r22.le h38
  obtain ⟨rfl, rfl⟩ := h39
  have hO := zs73 hO
  refine zZ hO 1 [] [(4, zs3 b3), (7, zs3 b9), (8, zs2 c5.2.1), (33, .bool c10), (41, .bool (!c36))] zsQ fun j => ?_
  refine zw (zs4 hb19) ?_
  refine ze ?_
  cases hF
  refine zg ?_
  have hO := hO.sel [0, 1]
  exact ⟨rfl, _, zs1 zsO, hO, hL⟩
 rintro e σ ⟨_, hA, hO, hL⟩
 rw [← zD _ _ hA]
 refine ze (zi hF rfl (fun hF => ?_) fun hF => ?_)
 ·refine zb (zc hO 1 [0] [(43, .agg #[(.int .u8 0), (.int .u8 0), (.int .i64 0), (.int .i64 0), (.int .i64 0), (.int .i64 0), (.int .i64 0)])] [4] (And.intro (And.intro rfl rfl) zsN) fun j => ?_)
  refine zH hO (i := 0) rfl (off := 0) rfl rfl rfl rfl (Nat.le_of_ble_eq_true rfl) rfl fun σ hO => ?_
  have hO := zs72 hO
  refine zj hO [] [(4, zs3 b3), (5, zs2 0), (6, zs2 5)] zsO fun j => ?_
  refine zp ?_
  cases hF
  have hV0 := hO.val (i := 0) rfl (off := 0) (agg := true) (n := 7) rfl
  have hO := hO.sel []
  exact hQ _ _ _ _ _ (zbH rfl (hV0) (zbZ (zbZ rfl))) hO hL ⟨rfl, rfl⟩
 refine zl (zc hO 2 [1] [(44, .agg #[(.int .u8 (c5.1.Kind.toNat : Int)), (.int .u8 (c5.1.Op.toNat : Int)), (.int .i64 c5.1.R), (.int .i64 c5.1.S), (.int .i64 c5.1.T), (.int .i64 c5.1.N), (.int .i64 c5.1.M)]), (45, zs2 c5.2.1)] [4] (And.intro (And.intro rfl rfl) zsO) fun j => ?_)
 refine zH hO (i := 0) rfl (off := 0) rfl rfl rfl rfl (Nat.le_of_ble_eq_true rfl) rfl fun σ hO => ?_
 have hO := zs72 hO
 refine zj hO [] [(4, zs3 b3), (5, zs2 c5.2.1), (6, zs2 0)] zsO fun j => ?_
 refine zq ?_
 cases hF
 have hV0 := hO.val (i := 0) rfl (off := 0) (agg := true) (n := 7) rfl
 have hO := hO.sel []
 exact hQ _ _ _ _ _ (zbH rfl (hV0) (zbZ (zbZ rfl))) hO hL ⟨rfl, rfl⟩
theorem zb3 {τ : Hp} {p0 : Int}  {rr : Except (Value) (Unit)} (hF : zcI p0 = some rr) :
  zb1 Tryz.prog 31 #[.int .u8 p0] τ [] (fun v τ' vs' => match rr with | .ok rr => v = .tuple #[] ∧ vs' = [] | .error _ => False) (fun ch τ' vs' => match rr with | .ok _ => False | .error ee => ch = [{ v := ee, recovered := false }] ∧ vs' = []) := by
 refine zc5 (args := [.int .u8 p0]) hm Tryz.func31 s31 rfl fun w0 σ hP hO Q hQ => ?_
 unfold zcI at hF
 have hL := Hp.le.refl τ
 show wpn _ _ a31.body _ _ _
 unfold a31
 dsimp only
 refine zV (zZ hO 2 [] [(3, .iface 59 (.int .u8 p0))] zsM fun j => ?_)
 refine zsz rfl ?_
 cases hF
 exact hP _ _ _ _ hO hL ⟨rfl, rfl⟩
theorem zit {τ : Hp} {q0 : zh} {bm0 : Nat} {vm0_0 vm0_18 : Value} {om0_18 : Ob} {vm0_19 vm0_20 : Value} {om0_20 : Ob} {p1 : Int} (rm0_0 : RdT Ty.u8 τ vm0_0 q0.code) (wm0_18 : zd (Ty.int .i64) 2 τ vm0_18 q0.words om0_18) (rm0_19 : RdT (Ty.int .i64) τ vm0_19 q0.input) (wm0_20 : zd (Ty.int .i64) 2 τ vm0_20 q0.out om0_20) {rr : Except (Value) (Int)} (hF : zf8 q0 p1 = some rr) :
  zb1 Tryz.prog 62 #[.pointer (some ⟨bm0, 0, none⟩), .int .i64 p1] τ [zI bm0 vm0_0 q0.pc q0.regs vm0_18 vm0_19 vm0_20 q0.how.toNat q0.halting, om0_18, om0_20] (fun v τ' vs' => match rr with | .ok rr => v = .int .i64 rr ∧ vs' = [zI bm0 vm0_0 q0.pc q0.regs vm0_18 vm0_19 vm0_20 q0.how.toNat q0.halting, om0_18, om0_20] | .error _ => False) (fun ch τ' vs' => match rr with | .ok _ => False | .error ee => ch = [{ v := ee, recovered := false }] ∧ vs' = [zI bm0 vm0_0 q0.pc q0.regs vm0_18 vm0_19 vm0_20 q0.how.toNat q0.halting, om0_18, om0_20]) := by
 obtain ⟨Am0_0, cm0_0, rfl, -⟩ := rm0_0.form
 obtain ⟨Am0_18, cm0_18, rfl, -⟩ := wm0_18.form
 obtain ⟨Am0_19, cm0_19, rfl, -⟩ := rm0_19.form
 obtain ⟨Am0_20, cm0_20, rfl, -⟩ := wm0_20.form
 refine zc5 (args := [.pointer (some ⟨bm0, 0, none⟩), .int .i64 p1]) hm Tryz.func62 s62 rfl fun w0 σ hP hO Q hQ => ?_
 unfold zf8 at hF
 have hL := Hp.le.refl τ
 show wpn _ _ a62.body _ _ _
 unfold a62
 dsimp only
 refine za hO [] [] [0, 1] zsN fun j => ?_
 refine za hO [0] [(5, zs2 (IntKind.i64.wrap ((q0.regs 15) - p1)))] [0] (And.intro (And.intro rfl rfl) zsN) fun j => ?_
 refine zb (za hO [] [(14, .bool (decide ((IntKind.i64.wrap ((q0.regs 15) - p1)) < 0)))] [0, 5] zsO fun j => ?_)
 refine zi hF rfl (fun hF => ?_) fun hF => ?_
 ·rcases zbA hF with ⟨x8, h9, hF⟩ | ⟨c4, h5, hF⟩
  ·refine zdg hO (zb3 h9) (fun _ _ _ h => False.elim h) rfl fun _ σ _ _ hO h10 h11 => ?_
   have hL := hL.trans h10
   obtain ⟨rfl, rfl⟩ := h11
   have hO := zs73 hO
   cases hF
   exact hP _ _ _ _ hO hL ⟨rfl, rfl⟩
  refine zc8 hO (zb3 h5) (fun _ _ _ h => False.elim h) rfl fun _ σ _ _ hO h6 h7 => ?_
  have hL := hL.trans h6
  obtain ⟨rfl, rfl⟩ := h7
  have hO := zs73 hO
  refine ze (za hO [] [(4, zs2 (IntKind.i64.wrap ((q0.regs 15) - p1)))] [0] zsN fun j => ?_)
  refine zq ?_
  cases hF
  exact (hQ _ _ _ _ _ rfl hO hL ⟨rfl, rfl⟩).1
 refine zl (za hO [] [(4, zs2 (IntKind.i64.wrap ((q0.regs 15) - p1)))] [0] zsN fun j => ?_)
 refine zq ?_
 cases hF
 exact (hQ _ _ _ _ _ rfl hO hL ⟨rfl, rfl⟩).1
theorem zeB {τ : Hp} {q0 : zh} {bm0 : Nat} {vm0_0 vm0_18 : Value} {om0_18 : Ob} {vm0_19 vm0_20 : Value} {om0_20 : Ob} {p1 : Int} (rm0_0 : RdT Ty.u8 τ vm0_0 q0.code) (wm0_18 : zd (Ty.int .i64) 2 τ vm0_18 q0.words om0_18) (rm0_19 : RdT (Ty.int .i64) τ vm0_19 q0.input) (wm0_20 : zd (Ty.int .i64) 2 τ vm0_20 q0.out om0_20) {rr : Except (Value) (Int)} (hF : zed q0 p1 = some rr) :
  zb1 Tryz.prog 63 #[.pointer (some ⟨bm0, 0, none⟩), .int .i64 p1] τ [zI bm0 vm0_0 q0.pc q0.regs vm0_18 vm0_19 vm0_20 q0.how.toNat q0.halting, om0_18, om0_20] (fun v τ' vs' => match rr with | .ok rr => v = .pointer ((slA vm0_18).map (fun x => x.add (Int.toNat rr * 1))) ∧ vs' = [zI bm0 vm0_0 q0.pc q0.regs vm0_18 vm0_19 vm0_20 q0.how.toNat q0.halting, om0_18, om0_20] | .error _ => False) (fun ch τ' vs' => match rr with | .ok _ => False | .error ee => ch = [{ v := ee, recovered := false }] ∧ vs' = [zI bm0 vm0_0 q0.pc q0.regs vm0_18 vm0_19 vm0_20 q0.how.toNat q0.halting, om0_18, om0_20]) := by
 obtain ⟨Am0_0, cm0_0, rfl, -⟩ := rm0_0.form
 obtain ⟨Am0_18, cm0_18, rfl, -⟩ := wm0_18.form
 obtain ⟨Am0_19, cm0_19, rfl, -⟩ := rm0_19.form
 obtain ⟨Am0_20, cm0_20, rfl, -⟩ := wm0_20.form
 refine zc5 (args := [.pointer (some ⟨bm0, 0, none⟩), .int .i64 p1]) hm Tryz.func63 s63 rfl fun w0 σ hP hO Q hQ => ?_
 unfold zed at hF
 have hL := Hp.le.refl τ
 show wpn _ _ a63.body _ _ _
 unfold a63
 dsimp only
 refine za hO [] [] [0, 1] zsN fun j => ?_
 refine zb (za hO [0] [(15, .bool ((decide (p1 < 0)) || (decide (p1 ≥ (q0.words.length : Int)))))] [0, 1] (And.intro (And.intro rfl rfl) (And.intro (And.intro rfl rfl) (fun _ => zs1 zsN))) fun j => ?_)
 refine zi hF rfl (fun hF => ?_) fun hF => ?_
 ·rcases zbA hF with ⟨x8, h9, hF⟩ | ⟨c4, h5, hF⟩
  ·refine zdg hO (zb3 h9) (fun _ _ _ h => False.elim h) rfl fun _ σ _ _ hO h10 h11 => ?_
   have hL := hL.trans h10
   obtain ⟨rfl, rfl⟩ := h11
   have hO := zs73 hO
   cases hF
   exact hP _ _ _ _ hO hL ⟨rfl, rfl⟩
  refine zc8 hO (zb3 h5) (fun _ _ _ h => False.elim h) rfl fun _ σ _ _ hO h6 h7 => ?_
  have hL := hL.trans h6
  obtain ⟨rfl, rfl⟩ := h7
  have hO := zs73 hO
  refine ze (zc hO 5 [0] [(20, zs9 Am0_18 q0.words cm0_18), (21, zs2 p1)] [0] (And.intro (And.intro rfl rfl) zsO) fun j => ?_)
  obtain ⟨y12, g13, hF⟩ := zs8 hF
  refine zbg (T := (Ty.int .i64)) hO (wm0_18.le hL) (i := 1) rfl rfl rfl g13 (by decide) fun a14 _ k15 m16 i17 => ?_
  have k18 := k15
  obtain rfl : _ = ([.int .i64 y12] : List Value) := k18
  refine za hO [] [(4, .pointer (some a14))] [0] zsN fun j => ?_
  refine zq ?_
  cases hF
  refine (hQ _ _ _ _ _ rfl hO hL ?_).1
  exact ⟨(congrArg Value.pointer (zd.ptr (wm0_18.le hL) i17 rfl)), rfl⟩
 refine zl (zc hO 5 [0] [(20, zs9 Am0_18 q0.words cm0_18), (21, zs2 p1)] [0] (And.intro (And.intro rfl rfl) zsO) fun j => ?_)
 obtain ⟨y19, g20, hF⟩ := zs8 hF
 refine zbg (T := (Ty.int .i64)) hO (wm0_18.le hL) (i := 1) rfl rfl rfl g20 (by decide) fun a21 _ k22 m23 i24 => ?_
 have k25 := k22
 obtain rfl : _ = ([.int .i64 y19] : List Value) := k25
 refine za hO [] [(4, .pointer (some a21))] [0] zsN fun j => ?_
 refine zq ?_
 cases hF
 refine (hQ _ _ _ _ _ rfl hO hL ?_).1
 exact ⟨(congrArg Value.pointer (zd.ptr (wm0_18.le hL) i24 rfl)), rfl⟩
theorem zmj {τ : Hp} {q0 : zh} {bm0 : Nat} {vm0_0 vm0_18 : Value} {om0_18 : Ob} {vm0_19 vm0_20 : Value} {om0_20 : Ob} {p1 p2 : Int} (rm0_0 : RdT Ty.u8 τ vm0_0 q0.code) (wm0_18 : zd (Ty.int .i64) 2 τ vm0_18 q0.words om0_18) (rm0_19 : RdT (Ty.int .i64) τ vm0_19 q0.input) (wm0_20 : zd (Ty.int .i64) 2 τ vm0_20 q0.out om0_20) {rr : Except (Value × zh) (Int × zh)} (hF : zjw q0 p1 p2 = some rr) :
  zb1 Tryz.prog 45 #[.pointer (some ⟨bm0, 0, none⟩), .int .i64 p1, .int .i64 p2] τ [zI bm0 vm0_0 q0.pc q0.regs vm0_18 vm0_19 vm0_20 q0.how.toNat q0.halting, om0_18, om0_20] (fun v τ' vs' => match rr with | .ok rr => ∃ (u0_0 u0_18 : Value) (y0_18 : Ob) (u0_19 u0_20 : Value) (y0_20 : Ob), v = .int .i64 rr.1 ∧ vs' = [zI bm0 u0_0 rr.2.pc rr.2.regs u0_18 u0_19 u0_20 rr.2.how.toNat rr.2.halting, y0_18, y0_20] ∧ RdT Ty.u8 τ' u0_0 rr.2.code ∧ zd (Ty.int .i64) 2 τ' u0_18 rr.2.words y0_18 ∧ RdT (Ty.int .i64) τ' u0_19 rr.2.input ∧ zd (Ty.int .i64) 2 τ' u0_20 rr.2.out y0_20 | .error _ => False) (fun ch τ' vs' => match rr with | .ok _ => False | .error ee => ∃ (u0_0 u0_18 : Value) (y0_18 : Ob) (u0_19 u0_20 : Value) (y0_20 : Ob), ch = [{ v := ee.1, recovered := false }] ∧ vs' = [zI bm0 u0_0 ee.2.pc ee.2.regs u0_18 u0_19 u0_20 ee.2.how.toNat ee.2.halting, y0_18, y0_20] ∧ RdT Ty.u8 τ' u0_0 ee.2.code ∧ zd (Ty.int .i64) 2 τ' u0_18 ee.2.words y0_18 ∧ RdT (Ty.int .i64) τ' u0_19 ee.2.input ∧ zd (Ty.int .i64) 2 τ' u0_20 ee.2.out y0_20) := by
 obtain ⟨Am0_0, cm0_0, rfl, -⟩ := rm0_0.form
 obtain ⟨Am0_18, cm0_18, rfl, -⟩ := wm0_18.form
 obtain ⟨Am0_19, cm0_19, rfl, -⟩ := rm0_19.form
 obtain ⟨Am0_20, cm0_20, rfl, -⟩ := wm0_20.form
 refine zc5 (args := [.pointer (some ⟨bm0, 0, none⟩), .int .i64 p1, .int .i64 p2]) hm Tryz.func45 s45 rfl fun w0 σ hP hO Q hQ => ?_
 unfold zjw at hF
 have hL := Hp.le.refl τ
 show wpn _ _ a45.body _ _ _
 unfold a45
 dsimp only
 refine za hO [] [] [0, 1, 2] zsO fun j => ?_
 refine zc hO 1 [] [(8, zs3 bm0)] [0, 1, 2] zsP fun j => ?_
 rcases zbA hF with ⟨x8, h9, hF⟩ | ⟨c4, h5, hF⟩
 ·refine zcw (hs := []) (vs := [_, _, _]) hO (zit (q0 := (⟨q0.code, q0.pc, q0.regs, q0.words, q0.input, q0.out, q0.how, q0.halting⟩ : zh)) (rm0_0.le hL) (wm0_18.le hL) (rm0_19.le hL) (wm0_20.le hL) h9) (fun _ _ _ h => False.elim h) rfl fun _ σ _ _ hO h10 h11 => ?_
  have hL := hL.trans h10
  obtain ⟨rfl, rfl⟩ := h11
  have hO := zs73 hO
  cases hF
  exact hP _ _ _ _ hO hL ⟨_, _, _, _, _, _, rfl, rfl, (rm0_0.le hL), (wm0_18.le hL), (rm0_19.le hL), (wm0_20.le hL)⟩
 refine zcv (hs := []) (vs := [_, _, _]) hO (zit (q0 := (⟨q0.code, q0.pc, q0.regs, q0.words, q0.input, q0.out, q0.how, q0.halting⟩ : zh)) (rm0_0.le hL) (wm0_18.le hL) (rm0_19.le hL) (wm0_20.le hL) h5) (fun _ _ _ h => False.elim h) rfl fun _ σ _ _ hO h6 h7 => ?_
 have hL := hL.trans h6
 obtain ⟨rfl, rfl⟩ := h7
 have hO := zs73 hO
 refine za hO [] [(7, zs2 c4)] [0, 1, 2] zsP fun j => ?_
 refine zc hO 2 [] [(10, zs3 bm0), (11, zs2 c4)] [0, 1, 2, 7] zsR fun j => ?_
 rcases zbA hF with ⟨x16, h17, hF⟩ | ⟨c12, h13, hF⟩
 ·refine zcw (hs := []) (vs := [_, _, _]) hO (zeB (q0 := (⟨q0.code, q0.pc, q0.regs, q0.words, q0.input, q0.out, q0.how, q0.halting⟩ : zh)) (rm0_0.le hL) (wm0_18.le hL) (rm0_19.le hL) (wm0_20.le hL) h17) (fun _ _ _ h => False.elim h) rfl fun _ σ _ _ hO h18 h19 => ?_
  have hL := hL.trans h18
  obtain ⟨rfl, rfl⟩ := h19
  have hO := zs73 hO
  cases hF
  exact hP _ _ _ _ hO hL ⟨_, _, _, _, _, _, rfl, rfl, (rm0_0.le hL), (wm0_18.le hL), (rm0_19.le hL), (wm0_20.le hL)⟩
 refine zcv (hs := []) (vs := [_, _, _]) hO (zeB (q0 := (⟨q0.code, q0.pc, q0.regs, q0.words, q0.input, q0.out, q0.how, q0.halting⟩ : zh)) (rm0_0.le hL) (wm0_18.le hL) (rm0_19.le hL) (wm0_20.le hL) h13) (fun _ _ _ h => False.elim h) rfl fun _ σ _ _ hO h14 h15 => ?_
 have hL := hL.trans h14
 obtain ⟨h20, rfl⟩ := h15
 have hO := zs73 hO
 obtain ⟨y21, g22, hF⟩ := zs8 hF
 obtain ⟨a23, _, h25, k24, m26, i27⟩ := zd.at_ hO (wm0_18.le hL) (i := 1) rfl g22 (n := 1) rfl
 have h20 : _ = Value.pointer (some a23) := h20.trans (congrArg Value.pointer h25)
 subst h20
 have k28 := k24
 obtain rfl : _ = ([.int .i64 y21] : List Value) := k28
 refine zc hO 2 [] [(13, zs2 p2), (14, .pointer (some a23))] [0, 1, 7] zsQ fun j => ?_
 refine zce (T := (Ty.int .i64)) (z' := p2) (off := 0) (vs := [.int .i64 p2]) hO (wm0_18.le hL) (i := 1) rfl (by rw [add_zero]; rfl) i27 g22 k24 m26 rfl rfl rfl rfl (by decide) (show _ = _ from rfl) fun σ o29 w30 hO => ?_
 have hO := zs73 hO
 refine ze (zc hO 5 [] [(16, zs2 c4), (19, .pointer (some ⟨bm0, 17, none⟩))] [0, 1] zsP fun j => ?_)
 refine zH hO (i := 0) rfl (off := 17) rfl rfl rfl rfl (Nat.le_of_ble_eq_true rfl) rfl fun σ hO => ?_
 have hO := zs73 hO
 refine ze (za hO [] [(6, zs2 p1)] [0] zsN fun j => ?_)
 refine zq ?_
 cases hF
 exact (hQ _ _ _ _ _ rfl hO hL ⟨_, _, _, _, _, _, rfl, rfl, (rm0_0.le hL), w30, (rm0_19.le hL), (wm0_20.le hL)⟩).1
theorem zmu {τ : Hp} {q0 : zh} {bm0 : Nat} {vm0_0 vm0_18 : Value} {om0_18 : Ob} {vm0_19 vm0_20 : Value} {om0_20 : Ob} (rm0_0 : RdT Ty.u8 τ vm0_0 q0.code) (wm0_18 : zd (Ty.int .i64) 2 τ vm0_18 q0.words om0_18) (rm0_19 : RdT (Ty.int .i64) τ vm0_19 q0.input) (wm0_20 : zd (Ty.int .i64) 2 τ vm0_20 q0.out om0_20) {rr : Except (Value × zh) (Int × zh)} (hF : ziQ q0 = some rr) :
  zb1 Tryz.prog 46 #[.pointer (some ⟨bm0, 0, none⟩)] τ [zI bm0 vm0_0 q0.pc q0.regs vm0_18 vm0_19 vm0_20 q0.how.toNat q0.halting, om0_18, om0_20] (fun v τ' vs' => match rr with | .ok rr => ∃ (u0_0 u0_18 : Value) (y0_18 : Ob) (u0_19 u0_20 : Value) (y0_20 : Ob), v = .int .i64 rr.1 ∧ vs' = [zI bm0 u0_0 rr.2.pc rr.2.regs u0_18 u0_19 u0_20 rr.2.how.toNat rr.2.halting, y0_18, y0_20] ∧ RdT Ty.u8 τ' u0_0 rr.2.code ∧ zd (Ty.int .i64) 2 τ' u0_18 rr.2.words y0_18 ∧ RdT (Ty.int .i64) τ' u0_19 rr.2.input ∧ zd (Ty.int .i64) 2 τ' u0_20 rr.2.out y0_20 | .error _ => False) (fun ch τ' vs' => match rr with | .ok _ => False | .error ee => ∃ (u0_0 u0_18 : Value) (y0_18 : Ob) (u0_19 u0_20 : Value) (y0_20 : Ob), ch = [{ v := ee.1, recovered := false }] ∧ vs' = [zI bm0 u0_0 ee.2.pc ee.2.regs u0_18 u0_19 u0_20 ee.2.how.toNat ee.2.halting, y0_18, y0_20] ∧ RdT Ty.u8 τ' u0_0 ee.2.code ∧ zd (Ty.int .i64) 2 τ' u0_18 ee.2.words y0_18 ∧ RdT (Ty.int .i64) τ' u0_19 ee.2.input ∧ zd (Ty.int .i64) 2 τ' u0_20 ee.2.out y0_20) := by
 obtain ⟨Am0_0, cm0_0, rfl, -⟩ := rm0_0.form
 obtain ⟨Am0_18, cm0_18, rfl, -⟩ := wm0_18.form
 obtain ⟨Am0_19, cm0_19, rfl, -⟩ := rm0_19.form
 obtain ⟨Am0_20, cm0_20, rfl, -⟩ := wm0_20.form
 refine zc5 (args := [.pointer (some ⟨bm0, 0, none⟩)]) hm Tryz.func46 s46 rfl fun w0 σ hP hO Q hQ => ?_
 unfold ziQ at hF
 have hL := Hp.le.refl τ
 show wpn _ _ a46.body _ _ _
 unfold a46
 dsimp only
 refine za hO [] [] [0] zsM fun j => ?_
 refine zc hO 6 [0] [(4, zs3 bm0), (9, zs2 (q0.regs 15))] [0] (And.intro (And.intro rfl rfl) zsO) fun j => ?_
 rcases zbA hF with ⟨x6, h7, hF⟩ | ⟨c2, h3, hF⟩
 ·refine zcw (hs := []) (vs := [_, _, _]) hO (zeB (q0 := (⟨q0.code, q0.pc, q0.regs, q0.words, q0.input, q0.out, q0.how, q0.halting⟩ : zh)) (rm0_0.le hL) (wm0_18.le hL) (rm0_19.le hL) (wm0_20.le hL) h7) (fun _ _ _ h => False.elim h) rfl fun _ σ _ _ hO h8 h9 => ?_
  have hL := hL.trans h8
  obtain ⟨rfl, rfl⟩ := h9
  have hO := zs73 hO
  cases hF
  exact hP _ _ _ _ hO hL ⟨_, _, _, _, _, _, rfl, rfl, (rm0_0.le hL), (wm0_18.le hL), (rm0_19.le hL), (wm0_20.le hL)⟩
 refine zcv (hs := []) (vs := [_, _, _]) hO (zeB (q0 := (⟨q0.code, q0.pc, q0.regs, q0.words, q0.input, q0.out, q0.how, q0.halting⟩ : zh)) (rm0_0.le hL) (wm0_18.le hL) (rm0_19.le hL) (wm0_20.le hL) h3) (fun _ _ _ h => False.elim h) rfl fun _ σ _ _ hO h4 h5 => ?_
 have hL := hL.trans h4
 obtain ⟨h10, rfl⟩ := h5
 have hO := zs73 hO
 obtain ⟨y11, g12, hF⟩ := zs8 hF
 obtain ⟨a13, _, h15, k14, m16, i17⟩ := zd.at_ hO (wm0_18.le hL) (i := 1) rfl g12 (n := 1) rfl
 have h10 : _ = Value.pointer (some a13) := h10.trans (congrArg Value.pointer h15)
 subst h10
 have k18 := k14
 obtain rfl : _ = ([.int .i64 y11] : List Value) := k18
 refine zc hO 1 [] [(11, .pointer (some a13))] [0] zsN fun j => ?_
 refine zL rfl m16.fst ?_
 refine za hO [] [(3, zs2 y11)] [0] zsN fun j => ?_
 refine zb (za hO [] [(18, .bool ((decide (y11 < 0)) || (decide (y11 ≥ 16777216))))] [0, 3] (And.intro (And.intro rfl rfl) (fun _ => zs1 zsN)) fun j => ?_)
 refine zbK (fun e' σ' => ∃ (τ' : Hp), agr [(0, zs3 bm0), (3, zs2 y11)] e' ∧ Obs τ' σ' [zI bm0 (zs9 Am0_0 q0.code cm0_0) q0.pc q0.regs (zs9 Am0_18 q0.words cm0_18) (zs9 Am0_19 q0.input cm0_19) (zs9 Am0_20 q0.out cm0_20) (q0.how.toNat : Int) q0.halting, om0_18, om0_20] ∧ Hp.le τ τ' ∧ zgw q0 y11 = some rr) ?_ ?_
 ·refine z5 (zi hF rfl (fun hF => ?_) fun hF => ?_)
  ·rcases zbA hF with ⟨x33, h34, hF⟩ | ⟨c29, h30, hF⟩
   ·refine zdg hO (zb3 h34) (fun _ _ _ h => False.elim h) rfl fun _ σ _ _ hO h35 h36 => ?_
    have hL := hL.trans h35
    obtain ⟨rfl, rfl⟩ := h36
    have hO := zs73 hO
    cases hF
    exact hP _ _ _ _ hO hL ⟨_, _, _, _, _, _, rfl, rfl, (rm0_0.le hL), (wm0_18.le hL), (rm0_19.le hL), (wm0_20.le hL)⟩
   refine zc8 hO (zb3 h30) (fun _ _ _ h => False.elim h) rfl fun _ σ _ _ hO h31 h32 => ?_
   have hL := hL.trans h31
   obtain ⟨rfl, rfl⟩ := h32
   have hO := zs73 hO
   refine ze (zg (zk ?_))
   exact ⟨_, zs1 zsM, hO, hL, hF⟩
  refine zl (zg (zk ?_))
  exact ⟨_, zs1 zsM, hO, hL, hF⟩
 rintro e σ ⟨_, hA, hO, hL, hF⟩
 rw [← zD _ _ hA]
 unfold zgw at hF
 refine z8 (zc hO 9 [0] [(25, zs2 (IntKind.i64.wrap ((q0.regs 15) + 1))), (28, .pointer (some ⟨bm0, 17, none⟩))] [0, 3] (And.intro (And.intro rfl rfl) zsP) fun j => ?_)
 refine zH hO (i := 0) rfl (off := 17) rfl rfl rfl rfl (Nat.le_of_ble_eq_true rfl) rfl fun σ hO => ?_
 have hO := zs73 hO
 refine ze (za hO [] [(2, zs2 y11)] [0] zsN fun j => ?_)
 refine zq ?_
 cases hF
 exact (hQ _ _ _ _ _ rfl hO hL ⟨_, _, _, _, _, _, rfl, rfl, (rm0_0.le hL), (wm0_18.le hL), (rm0_19.le hL), (wm0_20.le hL)⟩).1
theorem zeS {τ : Hp} {p0 : Bool}  {rr : Int} (hF : zdE p0 = some rr) :
  Ctr Tryz.prog 65 #[.bool p0] τ [] (fun v τ' vs' => v = .int .i64 rr ∧ vs' = []) := by
 refine zu (args := [.bool p0]) hm Tryz.func65 s65 rfl fun w0 σ hO Q hQ => ?_
 unfold zdE at hF
 have hL := Hp.le.refl τ
 show wpn _ _ a65.body _ _ _
 unfold a65
 dsimp only
 refine za hO [] [] [0] zsM fun j => ?_
 refine zb (zj hO [] [(3, .bool p0)] zsM fun j => ?_)
 refine zi hF rfl (fun hF => ?_) fun hF => ?_
 ·refine zb (zj hO [] [(2, zs2 1)] zsM fun j => ?_)
  refine zp ?_
  cases hF
  exact hQ _ _ _ _ _ rfl hO hL ⟨rfl, rfl⟩
 refine zl (zj hO [] [(2, zs2 0)] zsM fun j => ?_)
 refine zq ?_
 cases hF
 exact hQ _ _ _ _ _ rfl hO hL ⟨rfl, rfl⟩
theorem zlX {τ : Hp} {p0 p1 p2 : Int}  {rr : Except (Value) (Int)} (hF : zi6 p0 p1 p2 = some rr) :
  zb1 Tryz.prog 83 #[.int .u8 p0, .int .i64 p1, .int .i64 p2] τ [] (fun v τ' vs' => match rr with | .ok rr => v = .int .i64 rr ∧ vs' = [] | .error _ => False) (fun ch τ' vs' => match rr with | .ok _ => False | .error ee => ch = [{ v := ee, recovered := false }] ∧ vs' = []) := by
 refine zc5 (args := [.int .u8 p0, .int .i64 p1, .int .i64 p2]) hm Tryz.func83 s83 rfl fun w0 σ hP hO Q hQ => ?_
 unfold zi6 at hF
 have hL := Hp.le.refl τ
 show wpn _ _ a83.body _ _ _
 unfold a83
 dsimp only
 refine za hO [] [] [0, 1, 2] zsO fun j => ?_
 refine zb (za hO [] [(8, .bool (p2 == 0))] [0, 1, 2] zsP fun j => ?_)
 refine zbK (fun e' σ' => ∃ (τ' : Hp), agr [(0, .int .u8 p0), (1, zs2 p1), (2, zs2 p2)] e' ∧ Obs τ' σ' [] ∧ Hp.le τ τ' ∧ zia p0 p1 p2 = some rr) ?_ ?_
 ·refine z5 (zi hF rfl (fun hF => ?_) fun hF => ?_)
  ·rcases zbA hF with ⟨x23, h24, hF⟩ | ⟨c19, h20, hF⟩
   ·refine zdg hO (zb3 h24) (fun _ _ _ h => False.elim h) rfl fun _ σ _ _ hO h25 h26 => ?_
    have hL := hL.trans h25
    obtain ⟨rfl, rfl⟩ := h26
    have hO : Obs _ _ [] := hO
    cases hF
    exact hP _ _ _ _ hO hL ⟨rfl, rfl⟩
   refine zc8 hO (zb3 h20) (fun _ _ _ h => False.elim h) rfl fun _ σ _ _ hO h21 h22 => ?_
   have hL := hL.trans h21
   obtain ⟨rfl, rfl⟩ := h22
   have hO : Obs _ _ [] := hO
   refine ze (zg (zk ?_))
   exact ⟨_, zs1 zsN, hO, hL, hF⟩
  refine zl (zg (zk ?_))
  exact ⟨_, zs1 zsN, hO, hL, hF⟩
 rintro e σ ⟨_, hA, hO, hL, hF⟩
 rw [← zD _ _ hA]
 unfold zia at hF
 refine zb (za hO [] [(11, .bool (p0 == 4))] [1, 2] zsO fun j => ?_)
 refine zi hF rfl (fun hF => ?_) fun hF => ?_
 ·refine zb (zZ hO 2 [] [(12, zs2 p1), (13, zs2 p2)] zsN fun j => ?_)
  obtain ⟨y14, g15, hF⟩ := zs8 hF
  refine zc7 (znd g15) ?_
  refine zj hO [] [(6, zs2 y14)] zsM fun j => ?_
  refine zp ?_
  cases hF
  exact (hQ _ _ _ _ _ rfl hO hL ⟨rfl, rfl⟩).1
 refine zl (zZ hO 2 [] [(15, zs2 p1), (16, zs2 p2)] zsN fun j => ?_)
 obtain ⟨y16, g17, hF⟩ := zs8 hF
 refine zc7 (zm9 g17) ?_
 refine zj hO [] [(6, zs2 y16)] zsM fun j => ?_
 refine zq ?_
 cases hF
 exact (hQ _ _ _ _ _ rfl hO hL ⟨rfl, rfl⟩).1
theorem zms {τ : Hp} {p0 p1 p2 : Int}  {rr : Except (Value) (Int)} (hF : zfJ p0 p1 p2 = some rr) :
  zb1 Tryz.prog 64 #[.int .u8 p0, .int .i64 p1, .int .i64 p2] τ [] (fun v τ' vs' => match rr with | .ok rr => v = .int .i64 rr ∧ vs' = [] | .error _ => False) (fun ch τ' vs' => match rr with | .ok _ => False | .error ee => ch = [{ v := ee, recovered := false }] ∧ vs' = []) := by
 refine zc5 (args := [.int .u8 p0, .int .i64 p1, .int .i64 p2]) hm Tryz.func64 s64 rfl fun w0 σ hP hO Q hQ => ?_
 unfold zfJ at hF
 have hL := Hp.le.refl τ
 show wpn _ _ a64.body _ _ _
 unfold a64
 dsimp only
 refine za hO [] [] [0, 1, 2] zsO fun j => ?_
 refine zb (za hO [] [(7, .int .u8 p0)] [0, 1, 2] zsP fun j => ?_)
 refine zW (za hO [] [(8, .bool (p0 == 1))] [0, 1, 2, 7] zsQ fun j => ?_)
 refine z5 (zi hF rfl (fun hF => ?_) fun hF => ?_)
 ·refine zb (zj hO [] [(6, zs2 (IntKind.i64.wrap (p1 + p2)))] zsM fun j => ?_)
  refine zp (zJ (zB ?_))
  cases hF
  exact (hQ _ _ _ _ _ rfl hO hL ⟨rfl, rfl⟩).1
 refine zb (za hO [] [(13, .bool (p0 == 2))] [0, 1, 2, 7] zsQ fun j => ?_)
 refine zi hF rfl (fun hF => ?_) fun hF => ?_
 ·refine zb (zj hO [] [(6, zs2 (IntKind.i64.wrap (p1 - p2)))] zsM fun j => ?_)
  refine zp (zJ (zB ?_))
  cases hF
  exact (hQ _ _ _ _ _ rfl hO hL ⟨rfl, rfl⟩).1
 refine zb (za hO [] [(18, .bool (p0 == 3))] [0, 1, 2, 7] zsQ fun j => ?_)
 refine zi hF rfl (fun hF => ?_) fun hF => ?_
 ·refine zb (zj hO [] [(6, zs2 (IntKind.i64.wrap (p1 * p2)))] zsM fun j => ?_)
  refine zp (zJ (zB ?_))
  cases hF
  exact (hQ _ _ _ _ _ rfl hO hL ⟨rfl, rfl⟩).1
 refine zb (zb (za hO [] [(23, .bool (p0 == 4))] [0, 1, 2, 7] zsQ fun j => ?_))
 refine zbK (fun e' σ' => ∃ (x8 : Bool) (τ' : Hp), agr [(0, .int .u8 p0), (1, zs2 p1), (2, zs2 p2), (7, .int .u8 p0), (23, .bool x8)] e' ∧ Obs τ' σ' [] ∧ Hp.le τ τ' ∧ zge p0 p1 p2 x8 = some rr) ?_ ?_
 ·refine z5 (zi hF rfl (fun hF => ?_) fun hF => ?_)
  ·refine zl (zg (zk ?_))
   exact ⟨(p0 == 4), _, zs1 zsP, hO, hL, hF⟩
  refine za hO [] [(23, .bool (p0 == 5))] [0, 1, 2, 7] zsQ fun j => ?_
  refine zg (zk ?_)
  exact ⟨(p0 == 5), _, zs1 zsP, hO, hL, hF⟩
 rintro e σ ⟨x8, _, hA, hO, hL, hF⟩
 rw [← zD _ _ hA]
 unfold zge at hF
 refine zi hF rfl (fun hF => ?_) fun hF => ?_
 ·refine zb (zZ hO 3 [] [(26, .int .u8 p0), (27, zs2 p1), (28, zs2 p2)] zsO fun j => ?_)
  rcases zbA hF with ⟨x14, h15, hF⟩ | ⟨c10, h11, hF⟩
  ·refine zdg hO (zlX h15) (fun _ _ _ h => False.elim h) rfl fun _ σ _ _ hO h16 h17 => ?_
   have hL := hL.trans h16
   obtain ⟨rfl, rfl⟩ := h17
   have hO : Obs _ _ [] := hO
   cases hF
   exact hP _ _ _ _ hO hL ⟨rfl, rfl⟩
  refine zc8 hO (zlX h11) (fun _ _ _ h => False.elim h) rfl fun _ σ _ _ hO h12 h13 => ?_
  have hL := hL.trans h12
  obtain ⟨rfl, rfl⟩ := h13
  have hO : Obs _ _ [] := hO
  refine zj hO [] [(6, zs2 c10)] zsM fun j => ?_
  refine zp (zJ (zB ?_))
  cases hF
  exact (hQ _ _ _ _ _ rfl hO hL ⟨rfl, rfl⟩).1
 refine zb (za hO [] [(30, .bool (p0 == 6))] [1, 2, 7] zsP fun j => ?_)
 refine zi hF rfl (fun hF => ?_) fun hF => ?_
 ·refine zb (zZ hO 3 [] [(34, .bool (p1 == p2))] zsM fun j => ?_)
  obtain ⟨c19, h20, hF⟩ := zs8 hF
  refine zo hO (zeS h20) rfl fun _ σ _ _ hO h21 h22 => ?_
  have hL := hL.trans h21
  obtain ⟨rfl, rfl⟩ := h22
  have hO : Obs _ _ [] := hO
  refine zj hO [] [(6, zs2 c19)] zsM fun j => ?_
  refine zp (zJ (zB ?_))
  cases hF
  exact (hQ _ _ _ _ _ rfl hO hL ⟨rfl, rfl⟩).1
 refine zb (za hO [] [(36, .bool (p0 == 7))] [1, 2, 7] zsP fun j => ?_)
 refine zi hF rfl (fun hF => ?_) fun hF => ?_
 ·refine zb (zZ hO 3 [] [(40, .bool (p1 != p2))] zsM fun j => ?_)
  obtain ⟨c24, h25, hF⟩ := zs8 hF
  refine zo hO (zeS h25) rfl fun _ σ _ _ hO h26 h27 => ?_
  have hL := hL.trans h26
  obtain ⟨rfl, rfl⟩ := h27
  have hO : Obs _ _ [] := hO
  refine zj hO [] [(6, zs2 c24)] zsM fun j => ?_
  refine zp (zJ (zB ?_))
  cases hF
  exact (hQ _ _ _ _ _ rfl hO hL ⟨rfl, rfl⟩).1
 refine zb (za hO [] [(42, .bool (p0 == 8))] [1, 2, 7] zsP fun j => ?_)
 refine zi hF rfl (fun hF => ?_) fun hF => ?_
 ·refine zb (zZ hO 3 [] [(46, .bool (decide (p1 < p2)))] zsM fun j => ?_)
  obtain ⟨c29, h30, hF⟩ := zs8 hF
  refine zo hO (zeS h30) rfl fun _ σ _ _ hO h31 h32 => ?_
  have hL := hL.trans h31
  obtain ⟨rfl, rfl⟩ := h32
  have hO : Obs _ _ [] := hO
  refine zj hO [] [(6, zs2 c29)] zsM fun j => ?_
  refine zp (zJ (zB ?_))
  cases hF
  exact (hQ _ _ _ _ _ rfl hO hL ⟨rfl, rfl⟩).1
 refine zb (za hO [] [(48, .bool (p0 == 9))] [1, 2, 7] zsP fun j => ?_)
 refine zi hF rfl (fun hF => ?_) fun hF => ?_
 ·refine zb (zZ hO 3 [] [(52, .bool (decide (p1 ≤ p2)))] zsM fun j => ?_)
  obtain ⟨c34, h35, hF⟩ := zs8 hF
  refine zo hO (zeS h35) rfl fun _ σ _ _ hO h36 h37 => ?_
  have hL := hL.trans h36
  obtain ⟨rfl, rfl⟩ := h37
  have hO : Obs _ _ [] := hO
  refine zj hO [] [(6, zs2 c34)] zsM fun j => ?_
  refine zp (zJ (zB ?_))
  cases hF
  exact (hQ _ _ _ _ _ rfl hO hL ⟨rfl, rfl⟩).1
 refine zb (za hO [] [(54, .bool (p0 == 10))] [1, 2, 7] zsP fun j => ?_)
 refine zi hF rfl (fun hF => ?_) fun hF => ?_
 ·refine zb (zZ hO 3 [] [(58, .bool (decide (p1 > p2)))] zsM fun j => ?_)
  obtain ⟨c39, h40, hF⟩ := zs8 hF
  refine zo hO (zeS h40) rfl fun _ σ _ _ hO h41 h42 => ?_
  have hL := hL.trans h41
  obtain ⟨rfl, rfl⟩ := h42
  have hO : Obs _ _ [] := hO
  refine zj hO [] [(6, zs2 c39)] zsM fun j => ?_
  refine zp (zJ (zB ?_))
  cases hF
  exact (hQ _ _ _ _ _ rfl hO hL ⟨rfl, rfl⟩).1
 refine zb (za hO [] [(60, .bool (p0 == 11))] [1, 2, 7] zsP fun j => ?_)
 refine zi hF rfl (fun hF => ?_) fun hF => ?_
 ·refine zb (zZ hO 3 [] [(64, .bool (decide (p1 ≥ p2)))] zsM fun j => ?_)
  obtain ⟨c44, h45, hF⟩ := zs8 hF
  refine zo hO (zeS h45) rfl fun _ σ _ _ hO h46 h47 => ?_
  have hL := hL.trans h46
  obtain ⟨rfl, rfl⟩ := h47
  have hO : Obs _ _ [] := hO
  refine zj hO [] [(6, zs2 c44)] zsM fun j => ?_
  refine zp (zJ (zB ?_))
  cases hF
  exact (hQ _ _ _ _ _ rfl hO hL ⟨rfl, rfl⟩).1
 refine zb (za hO [] [(66, .bool (p0 == 12))] [1, 2] zsO fun j => ?_)
 refine zi hF rfl (fun hF => ?_) fun hF => ?_
 ·refine zb (zj hO [] [(6, zs2 (zcz .i64 p1 p2))] zsM fun j => ?_)
  refine zp (zJ (zB ?_))
  cases hF
  exact (hQ _ _ _ _ _ rfl hO hL ⟨rfl, rfl⟩).1
 refine zl (zg (zF (zk (zj hO [] [(6, zs2 (orI .i64 p1 p2))] zsM fun j => ?_))))
 refine zq ?_
 cases hF
 exact (hQ _ _ _ _ _ rfl hO hL ⟨rfl, rfl⟩).1
theorem zjJ {τ : Hp} {q0 : zh} {bm0 : Nat} {vm0_0 vm0_18 : Value} {om0_18 : Ob} {vm0_19 vm0_20 : Value} {om0_20 : Ob} {p1 : zf} (rm0_0 : RdT Ty.u8 τ vm0_0 q0.code) (wm0_18 : zd (Ty.int .i64) 2 τ vm0_18 q0.words om0_18) (rm0_19 : RdT (Ty.int .i64) τ vm0_19 q0.input) (wm0_20 : zd (Ty.int .i64) 2 τ vm0_20 q0.out om0_20) {rr : Except (Value) (Int)} (hF : zfU q0 p1 = some rr) :
  zb1 Tryz.prog 66 #[.pointer (some ⟨bm0, 0, none⟩), .agg #[.int .u8 p1.Kind.toNat, .int .u8 p1.Op.toNat, .int .i64 p1.R, .int .i64 p1.S, .int .i64 p1.T, .int .i64 p1.N, .int .i64 p1.M]] τ [zI bm0 vm0_0 q0.pc q0.regs vm0_18 vm0_19 vm0_20 q0.how.toNat q0.halting, om0_18, om0_20] (fun v τ' vs' => match rr with | .ok rr => v = .pointer ((slA vm0_18).map (fun x => x.add (Int.toNat rr * 1))) ∧ vs' = [zI bm0 vm0_0 q0.pc q0.regs vm0_18 vm0_19 vm0_20 q0.how.toNat q0.halting, om0_18, om0_20] | .error _ => False) (fun ch τ' vs' => match rr with | .ok _ => False | .error ee => ch = [{ v := ee, recovered := false }] ∧ vs' = [zI bm0 vm0_0 q0.pc q0.regs vm0_18 vm0_19 vm0_20 q0.how.toNat q0.halting, om0_18, om0_20]) := by
 obtain ⟨Am0_0, cm0_0, rfl, -⟩ := rm0_0.form
 obtain ⟨Am0_18, cm0_18, rfl, -⟩ := wm0_18.form
 obtain ⟨Am0_19, cm0_19, rfl, -⟩ := rm0_19.form
 obtain ⟨Am0_20, cm0_20, rfl, -⟩ := wm0_20.form
 refine zc5 (args := [.pointer (some ⟨bm0, 0, none⟩), .agg #[.int .u8 p1.Kind.toNat, .int .u8 p1.Op.toNat, .int .i64 p1.R, .int .i64 p1.S, .int .i64 p1.T, .int .i64 p1.N, .int .i64 p1.M]]) hm Tryz.func66 s66 rfl fun w0 σ hP hO Q hQ => ?_
 unfold zfU at hF
 have hL := Hp.le.refl τ
 show wpn _ _ a66.body _ _ _
 unfold a66
 dsimp only
 refine zbq (n := 7) hO rfl rfl fun b3 σ hO => ?_
 have hO := zs74 hO
 refine za hO [] [] [0, 3] zsN fun j => ?_
 refine z8 (zc hO 5 [3] [(9, zs2 p1.S), (11, .pointer (some ⟨bm0, 2, none⟩))] [0, 3] (And.intro (And.intro rfl rfl) zsP) fun j => ?_)
 obtain ⟨y4, g5, hF⟩ := zs8 hF
 refine zeZ rfl rfl g5 ?_
 refine zeh hO (i := 0) rfl rfl (zdN (f := q0.regs) (n := 16) (zbW g5).2.2.2 [_, _] [_, _, _, _, _]) ?_
 refine za hO [3] [(5, zs2 (IntKind.i64.wrap ((q0.regs y4) + p1.N)))] [0, 3] (And.intro (And.intro rfl rfl) zsO) fun j => ?_
 refine zb (za hO [3, 3] [(24, .bool (((p1.Kind.toNat : Int) == 8) || ((p1.Kind.toNat : Int) == 9)))] [0, 3, 5] (And.intro (And.intro rfl rfl) (And.intro (And.intro rfl rfl) (And.intro (And.intro rfl rfl) (fun _ => zs1 zsO)))) fun j => ?_)
 refine zi hF rfl (fun hF => ?_) fun hF => ?_
 ·refine zb (z8 (zc hO 5 [3] [(27, zs2 p1.T), (29, .pointer (some ⟨bm0, 2, none⟩))] [0, 3, 5] (And.intro (And.intro rfl rfl) zsQ) fun j => ?_))
  obtain ⟨y7, g8, hF⟩ := zs8 hF
  refine zeZ rfl rfl g8 ?_
  refine zeh hO (i := 0) rfl rfl (zdN (f := q0.regs) (n := 16) (zbW g8).2.2.2 [_, _] [_, _, _, _, _]) ?_
  refine za hO [] [(6, zs2 (q0.regs y7))] [0, 3, 5] zsP fun j => ?_
  refine zb (zb (za hO [3] [(39, .bool ((decide ((q0.regs y7) < 0)) || (decide ((q0.regs y7) ≥ p1.M))))] [0, 5, 6] (And.intro (And.intro rfl rfl) (And.intro (And.intro rfl rfl) (fun _ => zs1 zsO))) fun j => ?_))
  refine zbK (fun e' σ' => ∃ (τ' : Hp), agr [(0, zs3 bm0), (5, zs2 (IntKind.i64.wrap ((q0.regs y4) + p1.N))), (6, zs2 (q0.regs y7))] e' ∧ Obs τ' σ' [zI bm0 (zs9 Am0_0 q0.code cm0_0) q0.pc q0.regs (zs9 Am0_18 q0.words cm0_18) (zs9 Am0_19 q0.input cm0_19) (zs9 Am0_20 q0.out cm0_20) (q0.how.toNat : Int) q0.halting, om0_18, om0_20] ∧ Hp.le τ τ' ∧ zhP q0 p1 y4 y7 = some rr) ?_ ?_
  ·refine z5 (zi hF rfl (fun hF => ?_) fun hF => ?_)
   ·rcases zbA hF with ⟨x40, h41, hF⟩ | ⟨c36, h37, hF⟩
    ·refine zdg hO (zb3 h41) (fun _ _ _ h => False.elim h) rfl fun _ σ _ _ hO h42 h43 => ?_
     have hL := hL.trans h42
     obtain ⟨rfl, rfl⟩ := h43
     have hO := zs74 hO
     cases hF
     have hO := hO.sel [0, 1, 2]
     exact hP _ _ _ _ hO hL ⟨rfl, rfl⟩
    refine zc8 hO (zb3 h37) (fun _ _ _ h => False.elim h) rfl fun _ σ _ _ hO h38 h39 => ?_
    have hL := hL.trans h38
    obtain ⟨rfl, rfl⟩ := h39
    have hO := zs74 hO
    refine ze (zg (zk ?_))
    have hO := hO.sel [0, 1, 2]
    exact ⟨_, zs1 zsN, hO, hL, hF⟩
   refine zl (zg (zk ?_))
   have hO := hO.sel [0, 1, 2]
   exact ⟨_, zs1 zsN, hO, hL, hF⟩
  rintro e σ ⟨_, hA, hO, hL, hF⟩
  rw [← zD _ _ hA]
  unfold zhP at hF
  refine za hO [] [(5, zs2 (IntKind.i64.wrap ((IntKind.i64.wrap ((q0.regs y4) + p1.N)) + (q0.regs y7))))] [0] zsN fun j => ?_
  refine zc hO 2 [] [(44, zs3 bm0), (45, zs2 (IntKind.i64.wrap ((IntKind.i64.wrap ((q0.regs y4) + p1.N)) + (q0.regs y7))))] [0] zsO fun j => ?_
  rcases zbA hF with ⟨x22, h23, hF⟩ | ⟨c18, h19, hF⟩
  ·refine zcw (hs := []) (vs := [_, _, _]) hO (zeB (q0 := (⟨q0.code, q0.pc, q0.regs, q0.words, q0.input, q0.out, q0.how, q0.halting⟩ : zh)) (rm0_0.le hL) (wm0_18.le hL) (rm0_19.le hL) (wm0_20.le hL) h23) (fun _ _ _ h => False.elim h) rfl fun _ σ _ _ hO h24 h25 => ?_
   have hL := hL.trans h24
   obtain ⟨rfl, rfl⟩ := h25
   have hO := zs73 hO
   cases hF
   exact hP _ _ _ _ hO hL ⟨rfl, rfl⟩
  refine zcv (hs := []) (vs := [_, _, _]) hO (zeB (q0 := (⟨q0.code, q0.pc, q0.regs, q0.words, q0.input, q0.out, q0.how, q0.halting⟩ : zh)) (rm0_0.le hL) (wm0_18.le hL) (rm0_19.le hL) (wm0_20.le hL) h19) (fun _ _ _ h => False.elim h) rfl fun _ σ _ _ hO h20 h21 => ?_
  have hL := hL.trans h20
  obtain ⟨h26, rfl⟩ := h21
  have hO := zs73 hO
  obtain ⟨y27, g28, hF⟩ := zs8 hF
  obtain ⟨a29, _, h31, k30, m32, i33⟩ := zd.at_ hO (wm0_18.le hL) (i := 1) rfl g28 (n := 1) rfl
  have h26 : _ = Value.pointer (some a29) := h26.trans (congrArg Value.pointer h31)
  subst h26
  have k34 := k30
  obtain rfl : _ = ([.int .i64 y27] : List Value) := k34
  refine za hO [] [(4, .pointer (some a29))] [0] zsN fun j => ?_
  refine zq ?_
  cases hF
  refine (hQ _ _ _ _ _ rfl hO hL ?_).1
  exact ⟨(congrArg Value.pointer (zd.ptr (wm0_18.le hL) i33 rfl)), rfl⟩
 refine zl (zc hO 2 [] [(44, zs3 bm0), (45, zs2 (IntKind.i64.wrap ((q0.regs y4) + p1.N)))] [0] zsO fun j => ?_)
 have hO := hO.sel [3, 0, 1, 2]
 rcases zbA hF with ⟨x48, h49, hF⟩ | ⟨c44, h45, hF⟩
 ·refine zcw (hs := [_]) (vs := [_, _, _]) hO (zeB (q0 := (⟨q0.code, q0.pc, q0.regs, q0.words, q0.input, q0.out, q0.how, q0.halting⟩ : zh)) (rm0_0.le hL) (wm0_18.le hL) (rm0_19.le hL) (wm0_20.le hL) h49) (fun _ _ _ h => False.elim h) rfl fun _ σ _ _ hO h50 h51 => ?_
  have hL := hL.trans h50
  obtain ⟨rfl, rfl⟩ := h51
  have hO := zs74 hO
  cases hF
  have hO := hO.sel [1, 2, 3]
  exact hP _ _ _ _ hO hL ⟨rfl, rfl⟩
 refine zcv (hs := [_]) (vs := [_, _, _]) hO (zeB (q0 := (⟨q0.code, q0.pc, q0.regs, q0.words, q0.input, q0.out, q0.how, q0.halting⟩ : zh)) (rm0_0.le hL) (wm0_18.le hL) (rm0_19.le hL) (wm0_20.le hL) h45) (fun _ _ _ h => False.elim h) rfl fun _ σ _ _ hO h46 h47 => ?_
 have hL := hL.trans h46
 obtain ⟨h52, rfl⟩ := h47
 have hO := zs74 hO
 have hO := hO.sel [1, 2, 3, 0]
 have hO := zs74 hO
 obtain ⟨y53, g54, hF⟩ := zs8 hF
 obtain ⟨a55, _, h57, k56, m58, i59⟩ := zd.at_ hO (wm0_18.le hL) (i := 1) rfl g54 (n := 1) rfl
 have h52 : _ = Value.pointer (some a55) := h52.trans (congrArg Value.pointer h57)
 subst h52
 have k60 := k56
 obtain rfl : _ = ([.int .i64 y53] : List Value) := k60
 refine za hO [] [(4, .pointer (some a55))] [0] zsN fun j => ?_
 refine zq ?_
 cases hF
 have hO := hO.sel [0, 1, 2]
 refine (hQ _ _ _ _ _ rfl hO hL ?_).1
 exact ⟨(congrArg Value.pointer (zd.ptr (wm0_18.le hL) i59 rfl)), rfl⟩
theorem zmb {τ : Hp} {q0 : zh} {bm0 : Nat} {vm0_0 vm0_18 : Value} {om0_18 : Ob} {vm0_19 vm0_20 : Value} {om0_20 : Ob} {p1 : Int} (rm0_0 : RdT Ty.u8 τ vm0_0 q0.code) (wm0_18 : zd (Ty.int .i64) 2 τ vm0_18 q0.words om0_18) (rm0_19 : RdT (Ty.int .i64) τ vm0_19 q0.input) (wm0_20 : zd (Ty.int .i64) 2 τ vm0_20 q0.out om0_20) {rr : Except (Value × zh) (zh)} (hF : ziD q0 p1 = some rr) :
  zb1 Tryz.prog 67 #[.pointer (some ⟨bm0, 0, none⟩), .int .i64 p1] τ [zI bm0 vm0_0 q0.pc q0.regs vm0_18 vm0_19 vm0_20 q0.how.toNat q0.halting, om0_18, om0_20] (fun v τ' vs' => match rr with | .ok rr => ∃ (u0_0 u0_18 : Value) (y0_18 : Ob) (u0_19 u0_20 : Value) (y0_20 : Ob), v = .tuple #[] ∧ vs' = [zI bm0 u0_0 rr.pc rr.regs u0_18 u0_19 u0_20 rr.how.toNat rr.halting, y0_18, y0_20] ∧ RdT Ty.u8 τ' u0_0 rr.code ∧ zd (Ty.int .i64) 2 τ' u0_18 rr.words y0_18 ∧ RdT (Ty.int .i64) τ' u0_19 rr.input ∧ zd (Ty.int .i64) 2 τ' u0_20 rr.out y0_20 | .error _ => False) (fun ch τ' vs' => match rr with | .ok _ => False | .error ee => ∃ (u0_0 u0_18 : Value) (y0_18 : Ob) (u0_19 u0_20 : Value) (y0_20 : Ob), ch = [{ v := ee.1, recovered := false }] ∧ vs' = [zI bm0 u0_0 ee.2.pc ee.2.regs u0_18 u0_19 u0_20 ee.2.how.toNat ee.2.halting, y0_18, y0_20] ∧ RdT Ty.u8 τ' u0_0 ee.2.code ∧ zd (Ty.int .i64) 2 τ' u0_18 ee.2.words y0_18 ∧ RdT (Ty.int .i64) τ' u0_19 ee.2.input ∧ zd (Ty.int .i64) 2 τ' u0_20 ee.2.out y0_20) := by
 obtain ⟨Am0_0, cm0_0, rfl, -⟩ := rm0_0.form
 obtain ⟨Am0_18, cm0_18, rfl, -⟩ := wm0_18.form
 obtain ⟨Am0_19, cm0_19, rfl, -⟩ := rm0_19.form
 obtain ⟨Am0_20, cm0_20, rfl, -⟩ := wm0_20.form
 refine zc5 (args := [.pointer (some ⟨bm0, 0, none⟩), .int .i64 p1]) hm Tryz.func67 s67 rfl fun w0 σ hP hO Q hQ => ?_
 unfold ziD at hF
 have hL := Hp.le.refl τ
 show wpn _ _ a67.body _ _ _
 unfold a67
 dsimp only
 refine zc hO 2 [] [(5, zs3 bm0), (6, zs2 p1)] [0] zsO fun j => ?_
 rcases zbA hF with ⟨x7, h8, hF⟩ | ⟨c3, h4, hF⟩
 ·refine zcw (hs := []) (vs := [_, _, _]) hO (zit (q0 := (⟨q0.code, q0.pc, q0.regs, q0.words, q0.input, q0.out, q0.how, q0.halting⟩ : zh)) (rm0_0.le hL) (wm0_18.le hL) (rm0_19.le hL) (wm0_20.le hL) h8) (fun _ _ _ h => False.elim h) rfl fun _ σ _ _ hO h9 h10 => ?_
  have hL := hL.trans h9
  obtain ⟨rfl, rfl⟩ := h10
  have hO := zs73 hO
  cases hF
  exact hP _ _ _ _ hO hL ⟨_, _, _, _, _, _, rfl, rfl, (rm0_0.le hL), (wm0_18.le hL), (rm0_19.le hL), (wm0_20.le hL)⟩
 refine zcv (hs := []) (vs := [_, _, _]) hO (zit (q0 := (⟨q0.code, q0.pc, q0.regs, q0.words, q0.input, q0.out, q0.how, q0.halting⟩ : zh)) (rm0_0.le hL) (wm0_18.le hL) (rm0_19.le hL) (wm0_20.le hL) h4) (fun _ _ _ h => False.elim h) rfl fun _ σ _ _ hO h5 h6 => ?_
 have hL := hL.trans h5
 obtain ⟨rfl, rfl⟩ := h6
 have hO := zs73 hO
 refine za hO [] [(4, zs2 c3)] [0] zsN fun j => ?_
 refine zb (za hO [0] [(14, .bool (decide (c3 > (q0.words.length : Int))))] [0, 4] (And.intro (And.intro rfl rfl) zsO) fun j => ?_)
 refine zi hF rfl (fun hF => ?_) fun hF => ?_
 ·rcases zbA hF with ⟨x16, h17, hF⟩ | ⟨c12, h13, hF⟩
  ·refine zdg hO (zb3 h17) (fun _ _ _ h => False.elim h) rfl fun _ σ _ _ hO h18 h19 => ?_
   have hL := hL.trans h18
   obtain ⟨rfl, rfl⟩ := h19
   have hO := zs73 hO
   cases hF
   exact hP _ _ _ _ hO hL ⟨_, _, _, _, _, _, rfl, rfl, (rm0_0.le hL), (wm0_18.le hL), (rm0_19.le hL), (wm0_20.le hL)⟩
  refine zc8 hO (zb3 h13) (fun _ _ _ h => False.elim h) rfl fun _ σ _ _ hO h14 h15 => ?_
  have hL := hL.trans h14
  obtain ⟨rfl, rfl⟩ := h15
  have hO := zs73 hO
  refine ze (zV (zc hO 5 [] [(17, zs2 c3), (20, .pointer (some ⟨bm0, 17, none⟩))] [0] zsO fun j => ?_))
  refine zH hO (i := 0) rfl (off := 17) rfl rfl rfl rfl (Nat.le_of_ble_eq_true rfl) rfl fun σ hO => ?_
  have hO := zs73 hO
  refine ze (zg ?_)
  cases hF
  exact (hQ _ _ _ _ _ rfl hO hL ⟨_, _, _, _, _, _, rfl, rfl, (rm0_0.le hL), (wm0_18.le hL), (rm0_19.le hL), (wm0_20.le hL)⟩).2
 refine zl (zV (zc hO 5 [] [(17, zs2 c3), (20, .pointer (some ⟨bm0, 17, none⟩))] [0] zsO fun j => ?_))
 refine zH hO (i := 0) rfl (off := 17) rfl rfl rfl rfl (Nat.le_of_ble_eq_true rfl) rfl fun σ hO => ?_
 have hO := zs73 hO
 refine ze (zg ?_)
 cases hF
 exact (hQ _ _ _ _ _ rfl hO hL ⟨_, _, _, _, _, _, rfl, rfl, (rm0_0.le hL), (wm0_18.le hL), (rm0_19.le hL), (wm0_20.le hL)⟩).2
theorem zlW {τ : Hp} {q0 : zh} {bm0 : Nat} {vm0_0 vm0_18 : Value} {om0_18 : Ob} {vm0_19 vm0_20 : Value} {om0_20 : Ob} (rm0_0 : RdT Ty.u8 τ vm0_0 q0.code) (wm0_18 : zd (Ty.int .i64) 2 τ vm0_18 q0.words om0_18) (rm0_19 : RdT (Ty.int .i64) τ vm0_19 q0.input) (wm0_20 : zd (Ty.int .i64) 2 τ vm0_20 q0.out om0_20) {rr : Except (Value × zh) (Int × zh)} (hF : zjl q0 = some rr) :
  zb1 Tryz.prog 68 #[.pointer (some ⟨bm0, 0, none⟩)] τ [zI bm0 vm0_0 q0.pc q0.regs vm0_18 vm0_19 vm0_20 q0.how.toNat q0.halting, om0_18, om0_20] (fun v τ' vs' => match rr with | .ok rr => ∃ (u0_0 u0_18 : Value) (y0_18 : Ob) (u0_19 u0_20 : Value) (y0_20 : Ob), v = .int .i64 rr.1 ∧ vs' = [zI bm0 u0_0 rr.2.pc rr.2.regs u0_18 u0_19 u0_20 rr.2.how.toNat rr.2.halting, y0_18, y0_20] ∧ RdT Ty.u8 τ' u0_0 rr.2.code ∧ zd (Ty.int .i64) 2 τ' u0_18 rr.2.words y0_18 ∧ RdT (Ty.int .i64) τ' u0_19 rr.2.input ∧ zd (Ty.int .i64) 2 τ' u0_20 rr.2.out y0_20 | .error _ => False) (fun ch τ' vs' => match rr with | .ok _ => False | .error ee => ∃ (u0_0 u0_18 : Value) (y0_18 : Ob) (u0_19 u0_20 : Value) (y0_20 : Ob), ch = [{ v := ee.1, recovered := false }] ∧ vs' = [zI bm0 u0_0 ee.2.pc ee.2.regs u0_18 u0_19 u0_20 ee.2.how.toNat ee.2.halting, y0_18, y0_20] ∧ RdT Ty.u8 τ' u0_0 ee.2.code ∧ zd (Ty.int .i64) 2 τ' u0_18 ee.2.words y0_18 ∧ RdT (Ty.int .i64) τ' u0_19 ee.2.input ∧ zd (Ty.int .i64) 2 τ' u0_20 ee.2.out y0_20) := by
 obtain ⟨Am0_0, cm0_0, rfl, -⟩ := rm0_0.form
 obtain ⟨Am0_18, cm0_18, rfl, -⟩ := wm0_18.form
 obtain ⟨Am0_19, cm0_19, rfl, -⟩ := rm0_19.form
 obtain ⟨Am0_20, cm0_20, rfl, -⟩ := wm0_20.form
 refine zc5 (args := [.pointer (some ⟨bm0, 0, none⟩)]) hm Tryz.func68 s68 rfl fun w0 σ hP hO Q hQ => ?_
 unfold zjl at hF
 have hL := Hp.le.refl τ
 show wpn _ _ a68.body _ _ _
 unfold a68
 dsimp only
 refine za hO [] [] [0] zsM fun j => ?_
 refine zb (za hO [0] [(9, .bool ((q0.input.length : Int) == 0))] [0] (And.intro (And.intro rfl rfl) zsN) fun j => ?_)
 refine zbK (fun e' σ' => ∃ (τ' : Hp), agr [(0, zs3 bm0)] e' ∧ Obs τ' σ' [zI bm0 (zs9 Am0_0 q0.code cm0_0) q0.pc q0.regs (zs9 Am0_18 q0.words cm0_18) (zs9 Am0_19 q0.input cm0_19) (zs9 Am0_20 q0.out cm0_20) (q0.how.toNat : Int) q0.halting, om0_18, om0_20] ∧ Hp.le τ τ' ∧ zgP q0 = some rr) ?_ ?_
 ·refine z5 (zi hF rfl (fun hF => ?_) fun hF => ?_)
  ·rcases zbA hF with ⟨x26, h27, hF⟩ | ⟨c22, h23, hF⟩
   ·refine zdg hO (zb3 h27) (fun _ _ _ h => False.elim h) rfl fun _ σ _ _ hO h28 h29 => ?_
    have hL := hL.trans h28
    obtain ⟨rfl, rfl⟩ := h29
    have hO := zs73 hO
    cases hF
    exact hP _ _ _ _ hO hL ⟨_, _, _, _, _, _, rfl, rfl, (rm0_0.le hL), (wm0_18.le hL), (rm0_19.le hL), (wm0_20.le hL)⟩
   refine zc8 hO (zb3 h23) (fun _ _ _ h => False.elim h) rfl fun _ σ _ _ hO h24 h25 => ?_
   have hL := hL.trans h24
   obtain ⟨rfl, rfl⟩ := h25
   have hO := zs73 hO
   refine ze (zg (zk ?_))
   exact ⟨_, zs1 trivial, hO, hL, hF⟩
  refine zl (zg (zk ?_))
  exact ⟨_, zs1 trivial, hO, hL, hF⟩
 rintro e σ ⟨_, hA, hO, hL, hF⟩
 rw [← zD _ _ hA]
 unfold zgP at hF
 refine zc hO 4 [0] [(14, zs9 Am0_19 q0.input cm0_19)] [0] (And.intro (And.intro rfl rfl) zsN) fun j => ?_
 obtain ⟨y11, g12, hF⟩ := zs8 hF
 refine zbJ (T := (Ty.int .i64)) (rm0_19.le hL) hO.base rfl rfl g12 (by decide) fun a13 _ k14 m15 => ?_
 obtain rfl : _ = ([.int .i64 y11] : List Value) := k14
 refine zL rfl (m15.le hO.base).fst ?_
 refine za hO [] [(3, zs2 y11)] [0] zsN fun j => ?_
 refine zc hO 5 [0] [(17, zs3 bm0), (21, zs9 Am0_19 q0.input cm0_19)] [0, 3] (And.intro (And.intro rfl rfl) zsP) fun j => ?_
 obtain ⟨y16, g17, hF⟩ := zs8 hF
 refine zdB (T := (Ty.int .i64)) (rm0_19.le hL) rfl rfl rfl g17 fun _ r18 => ?_
 obtain ⟨A19, c20, rfl, -⟩ := r18.form
 refine zc hO 2 [] [(24, .pointer (some ⟨bm0, 19, none⟩))] [0, 3, 22] zsP fun j => ?_
 refine zH hO (i := 0) rfl (off := 19) rfl rfl rfl rfl (Nat.le_of_ble_eq_true rfl) rfl fun σ hO => ?_
 have hO := zs73 hO
 refine ze (za hO [] [(2, zs2 y11)] [0] zsN fun j => ?_)
 refine zq ?_
 cases hF
 exact (hQ _ _ _ _ _ rfl hO hL ⟨_, _, _, _, _, _, rfl, rfl, (rm0_0.le hL), (wm0_18.le hL), r18, (wm0_20.le hL)⟩).1
theorem zfX {τ : Hp} {q0 : zh} {bm0 : Nat} {vm0_0 vm0_18 : Value} {om0_18 : Ob} {vm0_19 vm0_20 : Value} {om0_20 : Ob} {p1 : zf} (rm0_0 : RdT Ty.u8 τ vm0_0 q0.code) (wm0_18 : zd (Ty.int .i64) 2 τ vm0_18 q0.words om0_18) (rm0_19 : RdT (Ty.int .i64) τ vm0_19 q0.input) (wm0_20 : zd (Ty.int .i64) 2 τ vm0_20 q0.out om0_20) {rr : Except (Value × zh) (zh)} (hF : zfc q0 p1 = some rr) :
  zb1 Tryz.prog 47 #[.pointer (some ⟨bm0, 0, none⟩), .agg #[.int .u8 p1.Kind.toNat, .int .u8 p1.Op.toNat, .int .i64 p1.R, .int .i64 p1.S, .int .i64 p1.T, .int .i64 p1.N, .int .i64 p1.M]] τ [zI bm0 vm0_0 q0.pc q0.regs vm0_18 vm0_19 vm0_20 q0.how.toNat q0.halting, om0_18, om0_20] (fun v τ' vs' => match rr with | .ok rr => ∃ (u0_0 u0_18 : Value) (y0_18 : Ob) (u0_19 u0_20 : Value) (y0_20 : Ob), v = .tuple #[] ∧ vs' = [zI bm0 u0_0 rr.pc rr.regs u0_18 u0_19 u0_20 rr.how.toNat rr.halting, y0_18, y0_20] ∧ RdT Ty.u8 τ' u0_0 rr.code ∧ zd (Ty.int .i64) 2 τ' u0_18 rr.words y0_18 ∧ RdT (Ty.int .i64) τ' u0_19 rr.input ∧ zd (Ty.int .i64) 2 τ' u0_20 rr.out y0_20 | .error _ => False) (fun ch τ' vs' => match rr with | .ok _ => False | .error ee => ∃ (u0_0 u0_18 : Value) (y0_18 : Ob) (u0_19 u0_20 : Value) (y0_20 : Ob), ch = [{ v := ee.1, recovered := false }] ∧ vs' = [zI bm0 u0_0 ee.2.pc ee.2.regs u0_18 u0_19 u0_20 ee.2.how.toNat ee.2.halting, y0_18, y0_20] ∧ RdT Ty.u8 τ' u0_0 ee.2.code ∧ zd (Ty.int .i64) 2 τ' u0_18 ee.2.words y0_18 ∧ RdT (Ty.int .i64) τ' u0_19 ee.2.input ∧ zd (Ty.int .i64) 2 τ' u0_20 ee.2.out y0_20) := by
 obtain ⟨Am0_0, cm0_0, rfl, -⟩ := rm0_0.form
 obtain ⟨Am0_18, cm0_18, rfl, -⟩ := wm0_18.form
 obtain ⟨Am0_19, cm0_19, rfl, -⟩ := rm0_19.form
 obtain ⟨Am0_20, cm0_20, rfl, -⟩ := wm0_20.form
 refine zc5 (args := [.pointer (some ⟨bm0, 0, none⟩), .agg #[.int .u8 p1.Kind.toNat, .int .u8 p1.Op.toNat, .int .i64 p1.R, .int .i64 p1.S, .int .i64 p1.T, .int .i64 p1.N, .int .i64 p1.M]]) hm Tryz.func47 s47 rfl fun w0 σ hP hO Q hQ => ?_
 unfold zfc at hF
 have hL := Hp.le.refl τ
 show wpn _ _ a47.body _ _ _
 unfold a47
 dsimp only
 refine zbq (n := 7) hO rfl rfl fun b3 σ hO => ?_
 have hO := zs74 hO
 refine ze (z8 (zc hO 5 [3] [(8, zs2 p1.R), (10, .pointer (some ⟨bm0, 2, none⟩))] [0, 3] (And.intro (And.intro rfl rfl) zsP) fun j => ?_))
 obtain ⟨y4, g5, hF⟩ := zs8 hF
 refine zeZ rfl rfl g5 ?_
 refine zc hO 5 [3] [(14, zs2 p1.S), (16, .pointer (some ⟨bm0, 2, none⟩))] [0, 3, 11] (And.intro (And.intro rfl rfl) zsQ) fun j => ?_
 obtain ⟨y6, g7, hF⟩ := zs8 hF
 refine zeZ rfl rfl g7 ?_
 refine zeh hO (i := 0) rfl rfl (zdN (f := q0.regs) (n := 16) (zbW g7).2.2.2 [_, _] [_, _, _, _, _]) ?_
 refine za hO [] [(4, .pointer (some ⟨bm0, 2 + y4, none⟩)), (5, zs2 (q0.regs y6))] [0, 3] zsP fun j => ?_
 refine za hO [3] [(20, .int .u8 (p1.Kind.toNat : Int))] [0, 3, 4, 5] (And.intro (And.intro rfl rfl) zsQ) fun j => ?_
 refine zcY (zef (fun e' σ' => ∃ (A170 : Option Addr) (c171 : Nat) (x172 : List UInt8) (x174 : Int) (x175 : (Nat → Int)) (k176 : Nat) (A177 : Option Addr) (c178 : Nat) (o179 : Ob) (x180 : List Int) (A183 : Option Addr) (c184 : Nat) (x185 : List Int) (A187 : Option Addr) (c188 : Nat) (o189 : Ob) (x190 : List Int) (x192 : UInt8) (x193 : Int) (τ' : Hp), agr [(0, zs3 bm0)] e' ∧ Obs τ' σ' [zI bm0 (zs9 A170 x172 c171) x174 x175 (.slice A177 k176 c178) (zs9 A183 x185 c184) (zs9 A187 x190 c188) (x192.toNat : Int) x193, o179, o189] ∧ Hp.le τ τ' ∧ RdT Ty.u8 τ' (zs9 A170 x172 c171) x172 ∧ k176 = x180.length ∧ zd (Ty.int .i64) 2 τ' (.slice A177 k176 c178) x180 o179 ∧ RdT (Ty.int .i64) τ' (zs9 A183 x185 c184) x185 ∧ zd (Ty.int .i64) 2 τ' (zs9 A187 x190 c188) x190 o189 ∧ zbP x172 x174 x175 x180 x185 x190 x192 x193 = some rr) ?_ ?_)
 ·refine za hO [] [(21, .bool ((p1.Kind.toNat : Int) == 2))] [0, 3, 4, 5, 20] zsR fun j => ?_
  refine z5 (zi hF rfl (fun hF => ?_) fun hF => ?_)
  ·refine zc hO 4 [3] [(25, zs2 p1.N), (26, .pointer (some ⟨bm0, 2 + y4, none⟩))] [0] (And.intro (And.intro rfl rfl) zsO) fun j => ?_
   refine zH hO (i := 0) rfl (off := 2 + y4) rfl rfl rfl rfl (by have := (zbW g5).2.2.2; simp only [List.length_cons, List.length_nil]; omega) (cells' := [.slice Am0_0 q0.code.length cm0_0, .int .i64 q0.pc, .int .i64 ((zv q0.regs y4 p1.N) 0), .int .i64 ((zv q0.regs y4 p1.N) 1), .int .i64 ((zv q0.regs y4 p1.N) 2), .int .i64 ((zv q0.regs y4 p1.N) 3), .int .i64 ((zv q0.regs y4 p1.N) 4), .int .i64 ((zv q0.regs y4 p1.N) 5), .int .i64 ((zv q0.regs y4 p1.N) 6), .int .i64 ((zv q0.regs y4 p1.N) 7), .int .i64 ((zv q0.regs y4 p1.N) 8), .int .i64 ((zv q0.regs y4 p1.N) 9), .int .i64 ((zv q0.regs y4 p1.N) 10), .int .i64 ((zv q0.regs y4 p1.N) 11), .int .i64 ((zv q0.regs y4 p1.N) 12), .int .i64 ((zv q0.regs y4 p1.N) 13), .int .i64 ((zv q0.regs y4 p1.N) 14), .int .i64 ((zv q0.regs y4 p1.N) 15), .slice Am0_18 q0.words.length cm0_18, .slice Am0_19 q0.input.length cm0_19, .slice Am0_20 q0.out.length cm0_20, .int .u8 (q0.how.toNat : Int), .int .i64 q0.halting]) (zfV (f := q0.regs) (n := 16) (zbW g5).2.2.2 p1.N [_, _] [_, _, _, _, _]) fun σ hO => ?_
   have hO := zs74 hO
   refine ze (zg (zF (zk ?_)))
   have hO := hO.sel [0, 1, 2]
   exact ⟨Am0_0, cm0_0, q0.code, q0.pc, (zv q0.regs y4 p1.N), q0.words.length, Am0_18, cm0_18, om0_18, q0.words, Am0_19, cm0_19, q0.input, Am0_20, cm0_20, om0_20, q0.out, q0.how, q0.halting, _, zs1 trivial, hO, hL, (rm0_0.le hL), (wm0_18.le hL).len, (wm0_18.le hL), (rm0_19.le hL), (wm0_20.le hL), hF⟩
  refine zb (za hO [] [(27, .bool ((p1.Kind.toNat : Int) == 3))] [0, 3, 4, 5, 20] zsR fun j => ?_)
  refine zi hF rfl (fun hF => ?_) fun hF => ?_
  ·refine zc hO 3 [] [(30, zs2 (q0.regs y6)), (31, .pointer (some ⟨bm0, 2 + y4, none⟩))] [0] zsO fun j => ?_
   refine zH hO (i := 0) rfl (off := 2 + y4) rfl rfl rfl rfl (by have := (zbW g5).2.2.2; simp only [List.length_cons, List.length_nil]; omega) (cells' := [.slice Am0_0 q0.code.length cm0_0, .int .i64 q0.pc, .int .i64 ((zv q0.regs y4 (q0.regs y6)) 0), .int .i64 ((zv q0.regs y4 (q0.regs y6)) 1), .int .i64 ((zv q0.regs y4 (q0.regs y6)) 2), .int .i64 ((zv q0.regs y4 (q0.regs y6)) 3), .int .i64 ((zv q0.regs y4 (q0.regs y6)) 4), .int .i64 ((zv q0.regs y4 (q0.regs y6)) 5), .int .i64 ((zv q0.regs y4 (q0.regs y6)) 6), .int .i64 ((zv q0.regs y4 (q0.regs y6)) 7), .int .i64 ((zv q0.regs y4 (q0.regs y6)) 8), .int .i64 ((zv q0.regs y4 (q0.regs y6)) 9), .int .i64 ((zv q0.regs y4 (q0.regs y6)) 10), .int .i64 ((zv q0.regs y4 (q0.regs y6)) 11), .int .i64 ((zv q0.regs y4 (q0.regs y6)) 12), .int .i64 ((zv q0.regs y4 (q0.regs y6)) 13), .int .i64 ((zv q0.regs y4 (q0.regs y6)) 14), .int .i64 ((zv q0.regs y4 (q0.regs y6)) 15), .slice Am0_18 q0.words.length cm0_18, .slice Am0_19 q0.input.length cm0_19, .slice Am0_20 q0.out.length cm0_20, .int .u8 (q0.how.toNat : Int), .int .i64 q0.halting]) (zfV (f := q0.regs) (n := 16) (zbW g5).2.2.2 (q0.regs y6) [_, _] [_, _, _, _, _]) fun σ hO => ?_
   have hO := zs74 hO
   refine ze (zg (zF (zk ?_)))
   have hO := hO.sel [0, 1, 2]
   exact ⟨Am0_0, cm0_0, q0.code, q0.pc, (zv q0.regs y4 (q0.regs y6)), q0.words.length, Am0_18, cm0_18, om0_18, q0.words, Am0_19, cm0_19, q0.input, Am0_20, cm0_20, om0_20, q0.out, q0.how, q0.halting, _, zs1 trivial, hO, hL, (rm0_0.le hL), (wm0_18.le hL).len, (wm0_18.le hL), (rm0_19.le hL), (wm0_20.le hL), hF⟩
  refine zb (za hO [] [(32, .bool ((p1.Kind.toNat : Int) == 4))] [0, 3, 4, 5, 20] zsR fun j => ?_)
  refine zi hF rfl (fun hF => ?_) fun hF => ?_
  ·refine z8 (zc hO 9 [3, 3] [(34, .pointer (some ⟨bm0, 2 + y4, none⟩)), (36, .int .u8 (p1.Op.toNat : Int)), (37, zs2 (q0.regs y6)), (40, zs2 p1.T), (42, .pointer (some ⟨bm0, 2, none⟩))] [0] (And.intro (And.intro rfl rfl) (And.intro (And.intro rfl rfl) zsR)) fun j => ?_)
   obtain ⟨y197, g198, hF⟩ := zs8 hF
   refine zeZ rfl rfl g198 ?_
   refine zeh hO (i := 0) rfl rfl (zdN (f := q0.regs) (n := 16) (zbW g198).2.2.2 [_, _] [_, _, _, _, _]) ?_
   rcases zbA hF with ⟨x203, h204, hF⟩ | ⟨c199, h200, hF⟩
   ·refine zdg hO (zms h204) (fun _ _ _ h => False.elim h) rfl fun _ σ _ _ hO h205 h206 => ?_
    have hL := hL.trans h205
    obtain ⟨rfl, rfl⟩ := h206
    have hO := zs74 hO
    cases hF
    have hO := hO.sel [0, 1, 2]
    exact hP _ _ _ _ hO hL ⟨_, _, _, _, _, _, rfl, rfl, (rm0_0.le hL), (wm0_18.le hL), (rm0_19.le hL), (wm0_20.le hL)⟩
   refine zc8 hO (zms h200) (fun _ _ _ h => False.elim h) rfl fun _ σ _ _ hO h201 h202 => ?_
   have hL := hL.trans h201
   obtain ⟨rfl, rfl⟩ := h202
   have hO := zs74 hO
   refine zZ hO 1 [] [(0, zs3 bm0), (45, zs2 c199), (46, .pointer (some ⟨bm0, 2 + y4, none⟩))] zsO fun j => ?_
   refine zH hO (i := 0) rfl (off := 2 + y4) rfl rfl rfl rfl (by have := (zbW g5).2.2.2; simp only [List.length_cons, List.length_nil]; omega) (cells' := [.slice Am0_0 q0.code.length cm0_0, .int .i64 q0.pc, .int .i64 ((zv q0.regs y4 c199) 0), .int .i64 ((zv q0.regs y4 c199) 1), .int .i64 ((zv q0.regs y4 c199) 2), .int .i64 ((zv q0.regs y4 c199) 3), .int .i64 ((zv q0.regs y4 c199) 4), .int .i64 ((zv q0.regs y4 c199) 5), .int .i64 ((zv q0.regs y4 c199) 6), .int .i64 ((zv q0.regs y4 c199) 7), .int .i64 ((zv q0.regs y4 c199) 8), .int .i64 ((zv q0.regs y4 c199) 9), .int .i64 ((zv q0.regs y4 c199) 10), .int .i64 ((zv q0.regs y4 c199) 11), .int .i64 ((zv q0.regs y4 c199) 12), .int .i64 ((zv q0.regs y4 c199) 13), .int .i64 ((zv q0.regs y4 c199) 14), .int .i64 ((zv q0.regs y4 c199) 15), .slice Am0_18 q0.words.length cm0_18, .slice Am0_19 q0.input.length cm0_19, .slice Am0_20 q0.out.length cm0_20, .int .u8 (q0.how.toNat : Int), .int .i64 q0.halting]) (zfV (f := q0.regs) (n := 16) (zbW g5).2.2.2 c199 [_, _] [_, _, _, _, _]) fun σ hO => ?_
   have hO := zs74 hO
   refine ze (zg (zF (zk ?_)))
   have hO := hO.sel [0, 1, 2]
   exact ⟨Am0_0, cm0_0, q0.code, q0.pc, (zv q0.regs y4 c199), q0.words.length, Am0_18, cm0_18, om0_18, q0.words, Am0_19, cm0_19, q0.input, Am0_20, cm0_20, om0_20, q0.out, q0.how, q0.halting, _, zs1 trivial, hO, hL, (rm0_0.le hL), (wm0_18.le hL).len, (wm0_18.le hL), (rm0_19.le hL), (wm0_20.le hL), hF⟩
  refine zb (za hO [] [(47, .bool ((p1.Kind.toNat : Int) == 5))] [0, 3, 4, 5, 20] zsR fun j => ?_)
  refine zi hF rfl (fun hF => ?_) fun hF => ?_
  ·refine zZ hO 4 [3] [(0, zs3 bm0), (5, zs2 (q0.regs y6)), (49, .pointer (some ⟨bm0, 2 + y4, none⟩)), (52, .bool ((p1.Op.toNat : Int) == 14))] (And.intro (And.intro rfl rfl) zsP) fun j => ?_
   obtain ⟨c208, h209, hF⟩ := zs8 hF
   refine zo hO (zeS h209) rfl fun _ σ _ _ hO h210 h211 => ?_
   have hL := hL.trans h210
   obtain ⟨rfl, rfl⟩ := h211
   have hO := zs74 hO
   refine zc hO 3 [] [(55, zs2 (IntKind.i64.wrap (c208 - (q0.regs y6)))), (56, .pointer (some ⟨bm0, 2 + y4, none⟩))] [0] zsO fun j => ?_
   refine zH hO (i := 0) rfl (off := 2 + y4) rfl rfl rfl rfl (by have := (zbW g5).2.2.2; simp only [List.length_cons, List.length_nil]; omega) (cells' := [.slice Am0_0 q0.code.length cm0_0, .int .i64 q0.pc, .int .i64 ((zv q0.regs y4 (IntKind.i64.wrap (c208 - (q0.regs y6)))) 0), .int .i64 ((zv q0.regs y4 (IntKind.i64.wrap (c208 - (q0.regs y6)))) 1), .int .i64 ((zv q0.regs y4 (IntKind.i64.wrap (c208 - (q0.regs y6)))) 2), .int .i64 ((zv q0.regs y4 (IntKind.i64.wrap (c208 - (q0.regs y6)))) 3), .int .i64 ((zv q0.regs y4 (IntKind.i64.wrap (c208 - (q0.regs y6)))) 4), .int .i64 ((zv q0.regs y4 (IntKind.i64.wrap (c208 - (q0.regs y6)))) 5), .int .i64 ((zv q0.regs y4 (IntKind.i64.wrap (c208 - (q0.regs y6)))) 6), .int .i64 ((zv q0.regs y4 (IntKind.i64.wrap (c208 - (q0.regs y6)))) 7), .int .i64 ((zv q0.regs y4 (IntKind.i64.wrap (c208 - (q0.regs y6)))) 8), .int .i64 ((zv q0.regs y4 (IntKind.i64.wrap (c208 - (q0.regs y6)))) 9), .int .i64 ((zv q0.regs y4 (IntKind.i64.wrap (c208 - (q0.regs y6)))) 10), .int .i64 ((zv q0.regs y4 (IntKind.i64.wrap (c208 - (q0.regs y6)))) 11), .int .i64 ((zv q0.regs y4 (IntKind.i64.wrap (c208 - (q0.regs y6)))) 12), .int .i64 ((zv q0.regs y4 (IntKind.i64.wrap (c208 - (q0.regs y6)))) 13), .int .i64 ((zv q0.regs y4 (IntKind.i64.wrap (c208 - (q0.regs y6)))) 14), .int .i64 ((zv q0.regs y4 (IntKind.i64.wrap (c208 - (q0.regs y6)))) 15), .slice Am0_18 q0.words.length cm0_18, .slice Am0_19 q0.input.length cm0_19, .slice Am0_20 q0.out.length cm0_20, .int .u8 (q0.how.toNat : Int), .int .i64 q0.halting]) (zfV (f := q0.regs) (n := 16) (zbW g5).2.2.2 (IntKind.i64.wrap (c208 - (q0.regs y6))) [_, _] [_, _, _, _, _]) fun σ hO => ?_
   have hO := zs74 hO
   refine ze (zg (zF (zk ?_)))
   have hO := hO.sel [0, 1, 2]
   exact ⟨Am0_0, cm0_0, q0.code, q0.pc, (zv q0.regs y4 (IntKind.i64.wrap (c208 - (q0.regs y6)))), q0.words.length, Am0_18, cm0_18, om0_18, q0.words, Am0_19, cm0_19, q0.input, Am0_20, cm0_20, om0_20, q0.out, q0.how, q0.halting, _, zs1 trivial, hO, hL, (rm0_0.le hL), (wm0_18.le hL).len, (wm0_18.le hL), (rm0_19.le hL), (wm0_20.le hL), hF⟩
  refine zb (zb (zj hO [] [(0, zs3 bm0), (3, zs3 b3), (4, .pointer (some ⟨bm0, 2 + y4, none⟩)), (20, .int .u8 (p1.Kind.toNat : Int)), (57, .bool ((p1.Kind.toNat : Int) == 6))] zsQ fun j => ?_))
  refine zbK (fun e' σ' => ∃ (x213 : Bool) (τ' : Hp), agr [(0, zs3 bm0), (3, zs3 b3), (4, .pointer (some ⟨bm0, 2 + y4, none⟩)), (20, .int .u8 (p1.Kind.toNat : Int)), (57, .bool x213)] e' ∧ Obs τ' σ' [zI bm0 (zs9 Am0_0 q0.code cm0_0) q0.pc q0.regs (zs9 Am0_18 q0.words cm0_18) (zs9 Am0_19 q0.input cm0_19) (zs9 Am0_20 q0.out cm0_20) (q0.how.toNat : Int) q0.halting, om0_18, om0_20, zy b3 (p1.Kind.toNat : Int) (p1.Op.toNat : Int) p1.R p1.S p1.T p1.N p1.M] ∧ Hp.le τ τ' ∧ zco q0 p1 y4 x213 = some rr) ?_ ?_
  ·refine z5 (zi hF rfl (fun hF => ?_) fun hF => ?_)
   ·refine zl (zg (zk ?_))
    exact ⟨((p1.Kind.toNat : Int) == 6), _, zs1 zsP, hO, hL, hF⟩
   refine za hO [] [(57, .bool ((p1.Kind.toNat : Int) == 8))] [0, 3, 4, 20] zsQ fun j => ?_
   refine zg (zk ?_)
   exact ⟨((p1.Kind.toNat : Int) == 8), _, zs1 zsP, hO, hL, hF⟩
  rintro e σ ⟨x213, _, hA, hO, hL, hF⟩
  rw [← zD _ _ hA]
  unfold zco at hF
  refine zi hF rfl (fun hF => ?_) fun hF => ?_
  ·refine zc hO 3 [3] [(60, .pointer (some ⟨bm0, 2 + y4, none⟩)), (61, zs3 bm0), (62, .agg #[(.int .u8 (p1.Kind.toNat : Int)), (.int .u8 (p1.Op.toNat : Int)), (.int .i64 p1.R), (.int .i64 p1.S), (.int .i64 p1.T), (.int .i64 p1.N), (.int .i64 p1.M)])] [0] (And.intro (And.intro rfl rfl) zsP) fun j => ?_
   have hO := hO.sel [3, 0, 1, 2]
   rcases zbA hF with ⟨x219, h220, hF⟩ | ⟨c215, h216, hF⟩
   ·refine zcw (hs := [_]) (vs := [_, _, _]) hO (zjJ (q0 := (⟨q0.code, q0.pc, q0.regs, q0.words, q0.input, q0.out, q0.how, q0.halting⟩ : zh)) (p1 := (⟨p1.Kind, p1.Op, p1.R, p1.S, p1.T, p1.N, p1.M⟩ : zf)) (rm0_0.le hL) (wm0_18.le hL) (rm0_19.le hL) (wm0_20.le hL) h220) (fun _ _ _ h => False.elim h) rfl fun _ σ _ _ hO h221 h222 => ?_
    have hL := hL.trans h221
    obtain ⟨rfl, rfl⟩ := h222
    have hO := zs74 hO
    cases hF
    have hO := hO.sel [1, 2, 3]
    exact hP _ _ _ _ hO hL ⟨_, _, _, _, _, _, rfl, rfl, (rm0_0.le hL), (wm0_18.le hL), (rm0_19.le hL), (wm0_20.le hL)⟩
   refine zcv (hs := [_]) (vs := [_, _, _]) hO (zjJ (q0 := (⟨q0.code, q0.pc, q0.regs, q0.words, q0.input, q0.out, q0.how, q0.halting⟩ : zh)) (p1 := (⟨p1.Kind, p1.Op, p1.R, p1.S, p1.T, p1.N, p1.M⟩ : zf)) (rm0_0.le hL) (wm0_18.le hL) (rm0_19.le hL) (wm0_20.le hL) h216) (fun _ _ _ h => False.elim h) rfl fun _ σ _ _ hO h217 h218 => ?_
   have hL := hL.trans h217
   obtain ⟨h223, rfl⟩ := h218
   have hO := zs74 hO
   have hO := hO.sel [1, 2, 3, 0]
   have hO := zs74 hO
   obtain ⟨y224, g225, hF⟩ := zs8 hF
   obtain ⟨a226, _, h228, k227, m229, i230⟩ := zd.at_ hO (wm0_18.le hL) (i := 1) rfl g225 (n := 1) rfl
   have h223 : _ = Value.pointer (some a226) := h223.trans (congrArg Value.pointer h228)
   subst h223
   have k231 := k227
   obtain rfl : _ = ([.int .i64 y224] : List Value) := k231
   refine zc hO 1 [] [(64, .pointer (some a226))] [0, 60] zsO fun j => ?_
   refine zL rfl m229.fst ?_
   refine zc hO 1 [] [(66, .pointer (some ⟨bm0, 2 + y4, none⟩))] [0, 65] zsO fun j => ?_
   refine zH hO (i := 0) rfl (off := 2 + y4) rfl rfl rfl rfl (by have := (zbW g5).2.2.2; simp only [List.length_cons, List.length_nil]; omega) (cells' := [.slice Am0_0 q0.code.length cm0_0, .int .i64 q0.pc, .int .i64 ((zv q0.regs y4 y224) 0), .int .i64 ((zv q0.regs y4 y224) 1), .int .i64 ((zv q0.regs y4 y224) 2), .int .i64 ((zv q0.regs y4 y224) 3), .int .i64 ((zv q0.regs y4 y224) 4), .int .i64 ((zv q0.regs y4 y224) 5), .int .i64 ((zv q0.regs y4 y224) 6), .int .i64 ((zv q0.regs y4 y224) 7), .int .i64 ((zv q0.regs y4 y224) 8), .int .i64 ((zv q0.regs y4 y224) 9), .int .i64 ((zv q0.regs y4 y224) 10), .int .i64 ((zv q0.regs y4 y224) 11), .int .i64 ((zv q0.regs y4 y224) 12), .int .i64 ((zv q0.regs y4 y224) 13), .int .i64 ((zv q0.regs y4 y224) 14), .int .i64 ((zv q0.regs y4 y224) 15), .slice Am0_18 q0.words.length cm0_18, .slice Am0_19 q0.input.length cm0_19, .slice Am0_20 q0.out.length cm0_20, .int .u8 (q0.how.toNat : Int), .int .i64 q0.halting]) (zfV (f := q0.regs) (n := 16) (zbW g5).2.2.2 y224 [_, _] [_, _, _, _, _]) fun σ hO => ?_
   have hO := zs74 hO
   refine ze (zg (zF (zk ?_)))
   have hO := hO.sel [0, 1, 2]
   exact ⟨Am0_0, cm0_0, q0.code, q0.pc, (zv q0.regs y4 y224), q0.words.length, Am0_18, cm0_18, om0_18, q0.words, Am0_19, cm0_19, q0.input, Am0_20, cm0_20, om0_20, q0.out, q0.how, q0.halting, _, zs1 trivial, hO, hL, (rm0_0.le hL), (wm0_18.le hL).len, (wm0_18.le hL), (rm0_19.le hL), (wm0_20.le hL), hF⟩
  refine zb (zb (za hO [] [(67, .bool ((p1.Kind.toNat : Int) == 7))] [0, 3, 4, 20] zsQ fun j => ?_))
  refine zbK (fun e' σ' => ∃ (x233 : Bool) (τ' : Hp), agr [(0, zs3 bm0), (3, zs3 b3), (4, .pointer (some ⟨bm0, 2 + y4, none⟩)), (20, .int .u8 (p1.Kind.toNat : Int)), (67, .bool x233)] e' ∧ Obs τ' σ' [zI bm0 (zs9 Am0_0 q0.code cm0_0) q0.pc q0.regs (zs9 Am0_18 q0.words cm0_18) (zs9 Am0_19 q0.input cm0_19) (zs9 Am0_20 q0.out cm0_20) (q0.how.toNat : Int) q0.halting, om0_18, om0_20, zy b3 (p1.Kind.toNat : Int) (p1.Op.toNat : Int) p1.R p1.S p1.T p1.N p1.M] ∧ Hp.le τ τ' ∧ zcp q0 p1 y4 x233 = some rr) ?_ ?_
  ·refine z5 (zi hF rfl (fun hF => ?_) fun hF => ?_)
   ·refine zl (zg (zk ?_))
    exact ⟨((p1.Kind.toNat : Int) == 7), _, zs1 zsP, hO, hL, hF⟩
   refine za hO [] [(67, .bool ((p1.Kind.toNat : Int) == 9))] [0, 3, 4, 20] zsQ fun j => ?_
   refine zg (zk ?_)
   exact ⟨((p1.Kind.toNat : Int) == 9), _, zs1 zsP, hO, hL, hF⟩
  rintro e σ ⟨x233, _, hA, hO, hL, hF⟩
  rw [← zD _ _ hA]
  unfold zcp at hF
  refine zi hF rfl (fun hF => ?_) fun hF => ?_
  ·refine z8 (zc hO 4 [3] [(70, zs3 bm0), (71, .agg #[(.int .u8 (p1.Kind.toNat : Int)), (.int .u8 (p1.Op.toNat : Int)), (.int .i64 p1.R), (.int .i64 p1.S), (.int .i64 p1.T), (.int .i64 p1.N), (.int .i64 p1.M)]), (74, .pointer (some ⟨bm0, 2 + y4, none⟩))] [0] (And.intro (And.intro rfl rfl) zsP) fun j => ?_)
   refine zeh hO (i := 0) rfl rfl (zdN (f := q0.regs) (n := 16) (zbW g5).2.2.2 [_, _] [_, _, _, _, _]) ?_
   refine zbx ?_
   have hO := hO.sel [3, 0, 1, 2]
   rcases zbA hF with ⟨x239, h240, hF⟩ | ⟨c235, h236, hF⟩
   ·refine zcw (hs := [_]) (vs := [_, _, _]) hO (zjJ (q0 := (⟨q0.code, q0.pc, q0.regs, q0.words, q0.input, q0.out, q0.how, q0.halting⟩ : zh)) (p1 := (⟨p1.Kind, p1.Op, p1.R, p1.S, p1.T, p1.N, p1.M⟩ : zf)) (rm0_0.le hL) (wm0_18.le hL) (rm0_19.le hL) (wm0_20.le hL) h240) (fun _ _ _ h => False.elim h) rfl fun _ σ _ _ hO h241 h242 => ?_
    have hL := hL.trans h241
    obtain ⟨rfl, rfl⟩ := h242
    have hO := zs74 hO
    cases hF
    have hO := hO.sel [1, 2, 3]
    exact hP _ _ _ _ hO hL ⟨_, _, _, _, _, _, rfl, rfl, (rm0_0.le hL), (wm0_18.le hL), (rm0_19.le hL), (wm0_20.le hL)⟩
   refine zcv (hs := [_]) (vs := [_, _, _]) hO (zjJ (q0 := (⟨q0.code, q0.pc, q0.regs, q0.words, q0.input, q0.out, q0.how, q0.halting⟩ : zh)) (p1 := (⟨p1.Kind, p1.Op, p1.R, p1.S, p1.T, p1.N, p1.M⟩ : zf)) (rm0_0.le hL) (wm0_18.le hL) (rm0_19.le hL) (wm0_20.le hL) h236) (fun _ _ _ h => False.elim h) rfl fun _ σ _ _ hO h237 h238 => ?_
   have hL := hL.trans h237
   obtain ⟨h243, rfl⟩ := h238
   have hO := zs74 hO
   have hO := hO.sel [1, 2, 3, 0]
   have hO := zs74 hO
   obtain ⟨y244, g245, hF⟩ := zs8 hF
   obtain ⟨a246, _, h248, k247, m249, i250⟩ := zd.at_ hO (wm0_18.le hL) (i := 1) rfl g245 (n := 1) rfl
   have h243 : _ = Value.pointer (some a246) := h243.trans (congrArg Value.pointer h248)
   subst h243
   have k251 := k247
   obtain rfl : _ = ([.int .i64 y244] : List Value) := k251
   refine ze (zby ⟨(zbh rfl (hO.dat (i := 0) rfl (zdN (f := q0.regs) (n := 16) (zbW g5).2.2.2 [_, _] [_, _, _, _, _])) rfl), trivial⟩ ?_)
   refine zc hO 1 [] [(76, .pointer (some a246))] [0, 75] zsO fun j => ?_
   refine zce (T := (Ty.int .i64)) (z' := (q0.regs y4)) (off := 0) (vs := [.int .i64 (q0.regs y4)]) hO (wm0_18.le hL) (i := 1) rfl (by rw [add_zero]; rfl) i250 g245 k247 m249 rfl rfl rfl rfl (by decide) (show _ = _ from rfl) fun σ o252 w253 hO => ?_
   have hO := zs74 hO
   refine ze (zg (zF (zk ?_)))
   have hO := hO.sel [0, 1, 2]
   exact ⟨Am0_0, cm0_0, q0.code, q0.pc, q0.regs, q0.words.length, Am0_18, cm0_18, o252, (q0.words.set (Int.toNat c235) (q0.regs y4)), Am0_19, cm0_19, q0.input, Am0_20, cm0_20, om0_20, q0.out, q0.how, q0.halting, _, zs1 trivial, hO, hL, (rm0_0.le hL), w253.len, w253, (rm0_19.le hL), (wm0_20.le hL), hF⟩
  refine zb (za hO [] [(77, .bool ((p1.Kind.toNat : Int) == 14))] [0, 3, 4, 20] zsQ fun j => ?_)
  refine zi hF rfl (fun hF => ?_) fun hF => ?_
  ·refine zc hO 3 [3] [(79, zs3 bm0), (81, zs2 p1.N)] [0] (And.intro (And.intro rfl rfl) zsO) fun j => ?_
   have hO := hO.sel [3, 0, 1, 2]
   rcases zbA hF with ⟨x259, h260, hF⟩ | ⟨c255, h256, hF⟩
   ·refine zcw (hs := [_]) (vs := [_, _, _]) hO (zmb (q0 := (⟨q0.code, q0.pc, q0.regs, q0.words, q0.input, q0.out, q0.how, q0.halting⟩ : zh)) (rm0_0.le hL) (wm0_18.le hL) (rm0_19.le hL) (wm0_20.le hL) h260) (fun _ _ _ h => False.elim h) rfl fun _ σ _ _ hO h261 h262 => ?_
    have hL := hL.trans h261
    obtain ⟨v263, v267, o270, v272, v276, o279, rfl, rfl, r266, w271, r275, w280⟩ := h262
    obtain ⟨A264, c265, rfl, -⟩ := r266.form
    obtain ⟨A268, c269, rfl, -⟩ := w271.form
    obtain ⟨A273, c274, rfl, -⟩ := r275.form
    obtain ⟨A277, c278, rfl, -⟩ := w280.form
    have hO := zs74 hO
    cases hF
    have hO := hO.sel [1, 2, 3]
    exact hP _ _ _ _ hO hL ⟨_, _, _, _, _, _, rfl, rfl, r266, w271, r275, w280⟩
   refine zcv (hs := [_]) (vs := [_, _, _]) hO (zmb (q0 := (⟨q0.code, q0.pc, q0.regs, q0.words, q0.input, q0.out, q0.how, q0.halting⟩ : zh)) (rm0_0.le hL) (wm0_18.le hL) (rm0_19.le hL) (wm0_20.le hL) h256) (fun _ _ _ h => False.elim h) rfl fun _ σ _ _ hO h257 h258 => ?_
   have hL := hL.trans h257
   obtain ⟨v281, v285, o288, v290, v294, o297, rfl, rfl, r284, w289, r293, w298⟩ := h258
   obtain ⟨A282, c283, rfl, -⟩ := r284.form
   obtain ⟨A286, c287, rfl, -⟩ := w289.form
   obtain ⟨A291, c292, rfl, -⟩ := r293.form
   obtain ⟨A295, c296, rfl, -⟩ := w298.form
   have hO := zs74 hO
   refine ze (zg (zF (zk ?_)))
   have hO := hO.sel [1, 2, 3]
   exact ⟨A282, c283, c255.code, c255.pc, c255.regs, c255.words.length, A286, c287, o288, c255.words, A291, c292, c255.input, A295, c296, o297, c255.out, c255.how, c255.halting, _, zs1 trivial, hO, hL, r284, w289.len, w289, r293, w298, hF⟩
  refine zb (za hO [] [(83, .bool ((p1.Kind.toNat : Int) == 15))] [0, 4, 20] zsP fun j => ?_)
  refine zi hF rfl (fun hF => ?_) fun hF => ?_
  ·refine zc hO 2 [] [(85, .pointer (some ⟨bm0, 2 + y4, none⟩)), (86, zs3 bm0)] [0] zsO fun j => ?_
   have hO := hO.sel [3, 0, 1, 2]
   rcases zbA hF with ⟨x304, h305, hF⟩ | ⟨c300, h301, hF⟩
   ·refine zcw (hs := [_]) (vs := [_, _, _]) hO (zlW (q0 := (⟨q0.code, q0.pc, q0.regs, q0.words, q0.input, q0.out, q0.how, q0.halting⟩ : zh)) (rm0_0.le hL) (wm0_18.le hL) (rm0_19.le hL) (wm0_20.le hL) h305) (fun _ _ _ h => False.elim h) rfl fun _ σ _ _ hO h306 h307 => ?_
    have hL := hL.trans h306
    obtain ⟨v308, v312, o315, v317, v321, o324, rfl, rfl, r311, w316, r320, w325⟩ := h307
    obtain ⟨A309, c310, rfl, -⟩ := r311.form
    obtain ⟨A313, c314, rfl, -⟩ := w316.form
    obtain ⟨A318, c319, rfl, -⟩ := r320.form
    obtain ⟨A322, c323, rfl, -⟩ := w325.form
    have hO := zs74 hO
    cases hF
    have hO := hO.sel [1, 2, 3]
    exact hP _ _ _ _ hO hL ⟨_, _, _, _, _, _, rfl, rfl, r311, w316, r320, w325⟩
   refine zcv (hs := [_]) (vs := [_, _, _]) hO (zlW (q0 := (⟨q0.code, q0.pc, q0.regs, q0.words, q0.input, q0.out, q0.how, q0.halting⟩ : zh)) (rm0_0.le hL) (wm0_18.le hL) (rm0_19.le hL) (wm0_20.le hL) h301) (fun _ _ _ h => False.elim h) rfl fun _ σ _ _ hO h302 h303 => ?_
   have hL := hL.trans h302
   obtain ⟨v326, v330, o333, v335, v339, o342, rfl, rfl, r329, w334, r338, w343⟩ := h303
   obtain ⟨A327, c328, rfl, -⟩ := r329.form
   obtain ⟨A331, c332, rfl, -⟩ := w334.form
   obtain ⟨A336, c337, rfl, -⟩ := r338.form
   obtain ⟨A340, c341, rfl, -⟩ := w343.form
   have hO := zs74 hO
   refine zc hO 1 [] [(88, .pointer (some ⟨bm0, 2 + y4, none⟩))] [0, 87] zsO fun j => ?_
   refine zH hO (i := 1) rfl (off := 2 + y4) rfl rfl rfl rfl (by have := (zbW g5).2.2.2; simp only [List.length_cons, List.length_nil]; omega) (cells' := [.slice A327 c300.2.code.length c328, .int .i64 c300.2.pc, .int .i64 ((zv c300.2.regs y4 c300.1) 0), .int .i64 ((zv c300.2.regs y4 c300.1) 1), .int .i64 ((zv c300.2.regs y4 c300.1) 2), .int .i64 ((zv c300.2.regs y4 c300.1) 3), .int .i64 ((zv c300.2.regs y4 c300.1) 4), .int .i64 ((zv c300.2.regs y4 c300.1) 5), .int .i64 ((zv c300.2.regs y4 c300.1) 6), .int .i64 ((zv c300.2.regs y4 c300.1) 7), .int .i64 ((zv c300.2.regs y4 c300.1) 8), .int .i64 ((zv c300.2.regs y4 c300.1) 9), .int .i64 ((zv c300.2.regs y4 c300.1) 10), .int .i64 ((zv c300.2.regs y4 c300.1) 11), .int .i64 ((zv c300.2.regs y4 c300.1) 12), .int .i64 ((zv c300.2.regs y4 c300.1) 13), .int .i64 ((zv c300.2.regs y4 c300.1) 14), .int .i64 ((zv c300.2.regs y4 c300.1) 15), .slice A331 c300.2.words.length c332, .slice A336 c300.2.input.length c337, .slice A340 c300.2.out.length c341, .int .u8 (c300.2.how.toNat : Int), .int .i64 c300.2.halting]) (zfV (f := c300.2.regs) (n := 16) (zbW g5).2.2.2 c300.1 [_, _] [_, _, _, _, _]) fun σ hO => ?_
   have hO := zs74 hO
   refine ze (zg (zF (zk ?_)))
   have hO := hO.sel [1, 2, 3]
   exact ⟨A327, c328, c300.2.code, c300.2.pc, (zv c300.2.regs y4 c300.1), c300.2.words.length, A331, c332, o333, c300.2.words, A336, c337, c300.2.input, A340, c341, o342, c300.2.out, c300.2.how, c300.2.halting, _, zs1 trivial, hO, hL, r329, w334.len, w334, r338, w343, hF⟩
  refine zb (za hO [] [(89, .bool ((p1.Kind.toNat : Int) == 16))] [0, 4] zsO fun j => ?_)
  refine zi hF rfl (fun hF => ?_) fun hF => ?_
  ·refine z8 (zc hO 7 [0] [(91, zs3 bm0), (94, .pointer (some ⟨bm0, 20, none⟩)), (95, zs9 Am0_20 q0.out cm0_20), (97, .pointer (some ⟨bm0, 2 + y4, none⟩))] [0] (And.intro (And.intro rfl rfl) zsQ) fun j => ?_)
   refine zeh hO (i := 0) rfl rfl (zdN (f := q0.regs) (n := 16) (zbW g5).2.2.2 [_, _] [_, _, _, _, _]) ?_
   refine zbx (zbv (T := (Ty.int .i64)) (l := ([(q0.regs y4)] : List Int)) (cs := [.int .i64 (q0.regs y4)]) hO rfl ⟨[.int .i64 (q0.regs y4)], _, rfl, rfl, rfl⟩ rfl (by decide) fun _ σ o347 w348 hO => ?_)
   obtain ⟨A345, c346, rfl, -⟩ := w348.form
   have hO := zs75 hO
   refine ze (zby ⟨(zbh rfl (hO.val (i := 0) (off := 20) (agg := false) (n := 1) rfl rfl) rfl), trivial⟩ ?_)
   obtain ⟨_, hr353, hF⟩ := zs8 hF
   refine zgk (T := (Ty.int .i64)) (Ty.sc_flat _ _) hO (wm0_20.le hL) (i := 2) rfl rfl rfl (w348.rd hO (i := 4) rfl) hr353 (by decide) fun _ σ o351 w352 hO => ?_
   obtain ⟨A349, c350, rfl, -⟩ := w352.form
   have hO := zs75 hO
   refine zc hO 2 [] [(102, .pointer (some ⟨bm0, 20, none⟩))] [0, 100] zsO fun j => ?_
   refine zH hO (i := 0) rfl (off := 20) rfl rfl rfl rfl (Nat.le_of_ble_eq_true rfl) rfl fun σ hO => ?_
   have hO := zs75 hO
   refine ze (zg (zF (zk ?_)))
   have hO := hO.sel [0, 1, 2]
   exact ⟨Am0_0, cm0_0, q0.code, q0.pc, q0.regs, q0.words.length, Am0_18, cm0_18, om0_18, q0.words, Am0_19, cm0_19, q0.input, A349, c350, o351, (q0.out ++ ([(q0.regs y4)] : List Int)), q0.how, q0.halting, _, zs1 trivial, hO, hL, (rm0_0.le hL), (wm0_18.le hL).len, (wm0_18.le hL), (rm0_19.le hL), w352, hF⟩
  refine zl (zg (zF (zk ?_)))
  have hO := hO.sel [0, 1, 2]
  exact ⟨Am0_0, cm0_0, q0.code, q0.pc, q0.regs, q0.words.length, Am0_18, cm0_18, om0_18, q0.words, Am0_19, cm0_19, q0.input, Am0_20, cm0_20, om0_20, q0.out, q0.how, q0.halting, _, zs1 trivial, hO, hL, (rm0_0.le hL), (wm0_18.le hL).len, (wm0_18.le hL), (rm0_19.le hL), (wm0_20.le hL), hF⟩
 rintro e σ ⟨A170, c171, x172, x174, x175, k176, A177, c178, o179, x180, A183, c184, x185, A187, c188, o189, x190, x192, x193, _, hA, hO, hL, r173, hk181, w182, r186, w191, hF⟩
 rw [← zD _ _ hA]
 unfold zbP at hF
 subst hk181
 refine zg ?_
 cases hF
 exact (hQ _ _ _ _ _ rfl hO hL ⟨_, _, _, _, _, _, rfl, rfl, r173, w182, r186, w191⟩).2
theorem zmR {τ : Hp} {q0 : zh} {bm0 : Nat} {vm0_0 vm0_18 : Value} {om0_18 : Ob} {vm0_19 vm0_20 : Value} {om0_20 : Ob} {p1 : zf} {p2 : Int} (rm0_0 : RdT Ty.u8 τ vm0_0 q0.code) (wm0_18 : zd (Ty.int .i64) 2 τ vm0_18 q0.words om0_18) (rm0_19 : RdT (Ty.int .i64) τ vm0_19 q0.input) (wm0_20 : zd (Ty.int .i64) 2 τ vm0_20 q0.out om0_20) {rr : Except (Value × zh) (Int × zh)} (hF : zgR q0 p1 p2 = some rr) :
  zb1 Tryz.prog 32 #[.pointer (some ⟨bm0, 0, none⟩), .agg #[.int .u8 p1.Kind.toNat, .int .u8 p1.Op.toNat, .int .i64 p1.R, .int .i64 p1.S, .int .i64 p1.T, .int .i64 p1.N, .int .i64 p1.M], .int .i64 p2] τ [zI bm0 vm0_0 q0.pc q0.regs vm0_18 vm0_19 vm0_20 q0.how.toNat q0.halting, om0_18, om0_20] (fun v τ' vs' => match rr with | .ok rr => ∃ (u0_0 u0_18 : Value) (y0_18 : Ob) (u0_19 u0_20 : Value) (y0_20 : Ob), v = .int .i64 rr.1 ∧ vs' = [zI bm0 u0_0 rr.2.pc rr.2.regs u0_18 u0_19 u0_20 rr.2.how.toNat rr.2.halting, y0_18, y0_20] ∧ RdT Ty.u8 τ' u0_0 rr.2.code ∧ zd (Ty.int .i64) 2 τ' u0_18 rr.2.words y0_18 ∧ RdT (Ty.int .i64) τ' u0_19 rr.2.input ∧ zd (Ty.int .i64) 2 τ' u0_20 rr.2.out y0_20 | .error _ => False) (fun ch τ' vs' => match rr with | .ok _ => False | .error ee => ∃ (u0_0 u0_18 : Value) (y0_18 : Ob) (u0_19 u0_20 : Value) (y0_20 : Ob), ch = [{ v := ee.1, recovered := false }] ∧ vs' = [zI bm0 u0_0 ee.2.pc ee.2.regs u0_18 u0_19 u0_20 ee.2.how.toNat ee.2.halting, y0_18, y0_20] ∧ RdT Ty.u8 τ' u0_0 ee.2.code ∧ zd (Ty.int .i64) 2 τ' u0_18 ee.2.words y0_18 ∧ RdT (Ty.int .i64) τ' u0_19 ee.2.input ∧ zd (Ty.int .i64) 2 τ' u0_20 ee.2.out y0_20) := by
 obtain ⟨Am0_0, cm0_0, rfl, -⟩ := rm0_0.form
 obtain ⟨Am0_18, cm0_18, rfl, -⟩ := wm0_18.form
 obtain ⟨Am0_19, cm0_19, rfl, -⟩ := rm0_19.form
 obtain ⟨Am0_20, cm0_20, rfl, -⟩ := wm0_20.form
 refine zc5 (args := [.pointer (some ⟨bm0, 0, none⟩), .agg #[.int .u8 p1.Kind.toNat, .int .u8 p1.Op.toNat, .int .i64 p1.R, .int .i64 p1.S, .int .i64 p1.T, .int .i64 p1.N, .int .i64 p1.M], .int .i64 p2]) hm Tryz.func32 s32 rfl fun w0 σ hP hO Q hQ => ?_
 unfold zgR at hF
 have hL := Hp.le.refl τ
 show wpn _ _ a32.body _ _ _
 unfold a32
 dsimp only
 refine zbq (n := 7) hO rfl rfl fun b4 σ hO => ?_
 have hO := zs74 hO
 refine za hO [] [] [0, 2, 4] zsO fun j => ?_
 refine zb (za hO [3] [(8, .int .u8 (p1.Kind.toNat : Int))] [0, 2, 4] (And.intro (And.intro rfl rfl) zsP) fun j => ?_)
 refine zW (za hO [] [(9, .bool ((p1.Kind.toNat : Int) == 10))] [0, 2, 4, 8] zsQ fun j => ?_)
 refine z5 (zi hF rfl (fun hF => ?_) fun hF => ?_)
 ·refine zb (za hO [3] [(6, zs2 p1.N)] [0] (And.intro (And.intro rfl rfl) zsN) fun j => ?_)
  refine zp (zJ (zB ?_))
  cases hF
  have hO := hO.sel [0, 1, 2]
  exact (hQ _ _ _ _ _ rfl hO hL ⟨_, _, _, _, _, _, rfl, rfl, (rm0_0.le hL), (wm0_18.le hL), (rm0_19.le hL), (wm0_20.le hL)⟩).1
 refine zb (za hO [] [(13, .bool ((p1.Kind.toNat : Int) == 11))] [0, 2, 4, 8] zsQ fun j => ?_)
 refine zi hF rfl (fun hF => ?_) fun hF => ?_
 ·refine zb (zb (z8 (zc hO 5 [3] [(17, zs2 p1.R), (19, .pointer (some ⟨bm0, 2, none⟩))] [0, 2, 4] (And.intro (And.intro rfl rfl) zsQ) fun j => ?_)))
  obtain ⟨y7, g8, hF⟩ := zs8 hF
  refine zeZ rfl rfl g8 ?_
  refine zeh hO (i := 0) rfl rfl (zdN (f := q0.regs) (n := 16) (zbW g8).2.2.2 [_, _] [_, _, _, _, _]) ?_
  refine za hO [] [(22, .bool ((q0.regs y7) == 0))] [0, 2, 4] zsP fun j => ?_
  refine zi hF rfl (fun hF => ?_) fun hF => ?_
  ·refine zb (za hO [3] [(6, zs2 p1.N)] [0] (And.intro (And.intro rfl rfl) zsN) fun j => ?_)
   refine zp (zJ (zB ?_))
   cases hF
   have hO := hO.sel [0, 1, 2]
   exact (hQ _ _ _ _ _ rfl hO hL ⟨_, _, _, _, _, _, rfl, rfl, (rm0_0.le hL), (wm0_18.le hL), (rm0_19.le hL), (wm0_20.le hL)⟩).1
  refine zl (zb (za hO [] [(6, zs2 p2)] [0] zsN fun j => ?_))
  refine zp (zJ (zB ?_))
  cases hF
  have hO := hO.sel [0, 1, 2]
  exact (hQ _ _ _ _ _ rfl hO hL ⟨_, _, _, _, _, _, rfl, rfl, (rm0_0.le hL), (wm0_18.le hL), (rm0_19.le hL), (wm0_20.le hL)⟩).1
 refine zb (za hO [] [(26, .bool ((p1.Kind.toNat : Int) == 12))] [0, 2, 4, 8] zsQ fun j => ?_)
 refine zi hF rfl (fun hF => ?_) fun hF => ?_
 ·refine zb (zc hO 4 [3] [(28, zs3 bm0), (30, zs2 p1.N), (31, zs2 p2)] [0] (And.intro (And.intro rfl rfl) zsP) fun j => ?_)
  have hO := hO.sel [3, 0, 1, 2]
  rcases zbA hF with ⟨x15, h16, hF⟩ | ⟨c11, h12, hF⟩
  ·refine zcw (hs := [_]) (vs := [_, _, _]) hO (zmj (q0 := (⟨q0.code, q0.pc, q0.regs, q0.words, q0.input, q0.out, q0.how, q0.halting⟩ : zh)) (rm0_0.le hL) (wm0_18.le hL) (rm0_19.le hL) (wm0_20.le hL) h16) (fun _ _ _ h => False.elim h) rfl fun _ σ _ _ hO h17 h18 => ?_
   have hL := hL.trans h17
   obtain ⟨v19, v23, o26, v28, v32, o35, rfl, rfl, r22, w27, r31, w36⟩ := h18
   obtain ⟨A20, c21, rfl, -⟩ := r22.form
   obtain ⟨A24, c25, rfl, -⟩ := w27.form
   obtain ⟨A29, c30, rfl, -⟩ := r31.form
   obtain ⟨A33, c34, rfl, -⟩ := w36.form
   have hO := zs74 hO
   cases hF
   have hO := hO.sel [1, 2, 3]
   exact hP _ _ _ _ hO hL ⟨_, _, _, _, _, _, rfl, rfl, r22, w27, r31, w36⟩
  refine zcv (hs := [_]) (vs := [_, _, _]) hO (zmj (q0 := (⟨q0.code, q0.pc, q0.regs, q0.words, q0.input, q0.out, q0.how, q0.halting⟩ : zh)) (rm0_0.le hL) (wm0_18.le hL) (rm0_19.le hL) (wm0_20.le hL) h12) (fun _ _ _ h => False.elim h) rfl fun _ σ _ _ hO h13 h14 => ?_
  have hL := hL.trans h13
  obtain ⟨v37, v41, o44, v46, v50, o53, rfl, rfl, r40, w45, r49, w54⟩ := h14
  obtain ⟨A38, c39, rfl, -⟩ := r40.form
  obtain ⟨A42, c43, rfl, -⟩ := w45.form
  obtain ⟨A47, c48, rfl, -⟩ := r49.form
  obtain ⟨A51, c52, rfl, -⟩ := w54.form
  have hO := zs74 hO
  refine za hO [] [(6, zs2 c11.1)] [0] zsN fun j => ?_
  refine zp (zJ (zB ?_))
  cases hF
  have hO := hO.sel [1, 2, 3]
  exact (hQ _ _ _ _ _ rfl hO hL ⟨_, _, _, _, _, _, rfl, rfl, r40, w45, r49, w54⟩).1
 refine zb (za hO [] [(33, .bool ((p1.Kind.toNat : Int) == 13))] [0, 2, 4, 8] zsQ fun j => ?_)
 refine zi hF rfl (fun hF => ?_) fun hF => ?_
 ·refine zb (zc hO 1 [] [(35, zs3 bm0)] [0] zsN fun j => ?_)
  have hO := hO.sel [3, 0, 1, 2]
  rcases zbA hF with ⟨x60, h61, hF⟩ | ⟨c56, h57, hF⟩
  ·refine zcw (hs := [_]) (vs := [_, _, _]) hO (zmu (q0 := (⟨q0.code, q0.pc, q0.regs, q0.words, q0.input, q0.out, q0.how, q0.halting⟩ : zh)) (rm0_0.le hL) (wm0_18.le hL) (rm0_19.le hL) (wm0_20.le hL) h61) (fun _ _ _ h => False.elim h) rfl fun _ σ _ _ hO h62 h63 => ?_
   have hL := hL.trans h62
   obtain ⟨v64, v68, o71, v73, v77, o80, rfl, rfl, r67, w72, r76, w81⟩ := h63
   obtain ⟨A65, c66, rfl, -⟩ := r67.form
   obtain ⟨A69, c70, rfl, -⟩ := w72.form
   obtain ⟨A74, c75, rfl, -⟩ := r76.form
   obtain ⟨A78, c79, rfl, -⟩ := w81.form
   have hO := zs74 hO
   cases hF
   have hO := hO.sel [1, 2, 3]
   exact hP _ _ _ _ hO hL ⟨_, _, _, _, _, _, rfl, rfl, r67, w72, r76, w81⟩
  refine zcv (hs := [_]) (vs := [_, _, _]) hO (zmu (q0 := (⟨q0.code, q0.pc, q0.regs, q0.words, q0.input, q0.out, q0.how, q0.halting⟩ : zh)) (rm0_0.le hL) (wm0_18.le hL) (rm0_19.le hL) (wm0_20.le hL) h57) (fun _ _ _ h => False.elim h) rfl fun _ σ _ _ hO h58 h59 => ?_
  have hL := hL.trans h58
  obtain ⟨v82, v86, o89, v91, v95, o98, rfl, rfl, r85, w90, r94, w99⟩ := h59
  obtain ⟨A83, c84, rfl, -⟩ := r85.form
  obtain ⟨A87, c88, rfl, -⟩ := w90.form
  obtain ⟨A92, c93, rfl, -⟩ := r94.form
  obtain ⟨A96, c97, rfl, -⟩ := w99.form
  have hO := zs74 hO
  refine za hO [] [(6, zs2 c56.1)] [0] zsN fun j => ?_
  refine zp (zJ (zB ?_))
  cases hF
  have hO := hO.sel [1, 2, 3]
  exact (hQ _ _ _ _ _ rfl hO hL ⟨_, _, _, _, _, _, rfl, rfl, r85, w90, r94, w99⟩).1
 refine zb (za hO [] [(37, .bool ((p1.Kind.toNat : Int) == 17))] [0, 2, 4, 8] zsQ fun j => ?_)
 refine zi hF rfl (fun hF => ?_) fun hF => ?_
 ·refine zb (z8 (zc hO 6 [3] [(39, zs3 bm0), (42, zs2 p1.R), (44, .pointer (some ⟨bm0, 2, none⟩))] [0, 2, 4] (And.intro (And.intro rfl rfl) zsR) fun j => ?_))
  obtain ⟨y101, g102, hF⟩ := zs8 hF
  refine zeZ rfl rfl g102 ?_
  refine zeh hO (i := 0) rfl rfl (zdN (f := q0.regs) (n := 16) (zbW g102).2.2.2 [_, _] [_, _, _, _, _]) ?_
  refine zZ hO 2 [] [(0, zs3 bm0), (2, zs2 p2), (4, zs3 b4), (46, zs2 (q0.regs y101)), (48, .pointer (some ⟨bm0, 22, none⟩))] zsQ fun j => ?_
  refine zH hO (i := 0) rfl (off := 22) rfl rfl rfl rfl (Nat.le_of_ble_eq_true rfl) rfl fun σ hO => ?_
  have hO := zs74 hO
  refine ze ?_
  rcases zbA hF with ⟨x107, h108, hF⟩ | ⟨c103, h104, hF⟩
  ·refine zdg hO (zb3 h108) (fun _ _ _ h => False.elim h) rfl fun _ σ _ _ hO h109 h110 => ?_
   have hL := hL.trans h109
   obtain ⟨rfl, rfl⟩ := h110
   have hO := zs74 hO
   cases hF
   have hO := hO.sel [0, 1, 2]
   exact hP _ _ _ _ hO hL ⟨_, _, _, _, _, _, rfl, rfl, (rm0_0.le hL), (wm0_18.le hL), (rm0_19.le hL), (wm0_20.le hL)⟩
  refine zc8 hO (zb3 h104) (fun _ _ _ h => False.elim h) rfl fun _ σ _ _ hO h105 h106 => ?_
  have hL := hL.trans h105
  obtain ⟨rfl, rfl⟩ := h106
  have hO := zs74 hO
  refine ze (zg (zF (zk (zc hO 2 [3] [(56, zs3 bm0), (57, .agg #[(.int .u8 (p1.Kind.toNat : Int)), (.int .u8 (p1.Op.toNat : Int)), (.int .i64 p1.R), (.int .i64 p1.S), (.int .i64 p1.T), (.int .i64 p1.N), (.int .i64 p1.M)])] [0, 2] (And.intro (And.intro rfl rfl) zsP) fun j => ?_))))
  have hO := hO.sel [3, 0, 1, 2]
  rcases zbA hF with ⟨x115, h116, hF⟩ | ⟨c111, h112, hF⟩
  ·refine zcw (hs := [_]) (vs := [_, _, _]) hO (zfX (q0 := (⟨q0.code, q0.pc, q0.regs, q0.words, q0.input, q0.out, q0.how, (q0.regs y101)⟩ : zh)) (p1 := (⟨p1.Kind, p1.Op, p1.R, p1.S, p1.T, p1.N, p1.M⟩ : zf)) (rm0_0.le hL) (wm0_18.le hL) (rm0_19.le hL) (wm0_20.le hL) h116) (fun _ _ _ h => False.elim h) rfl fun _ σ _ _ hO h117 h118 => ?_
   have hL := hL.trans h117
   obtain ⟨v119, v123, o126, v128, v132, o135, rfl, rfl, r122, w127, r131, w136⟩ := h118
   obtain ⟨A120, c121, rfl, -⟩ := r122.form
   obtain ⟨A124, c125, rfl, -⟩ := w127.form
   obtain ⟨A129, c130, rfl, -⟩ := r131.form
   obtain ⟨A133, c134, rfl, -⟩ := w136.form
   have hO := zs74 hO
   cases hF
   have hO := hO.sel [1, 2, 3]
   exact hP _ _ _ _ hO hL ⟨_, _, _, _, _, _, rfl, rfl, r122, w127, r131, w136⟩
  refine zcv (hs := [_]) (vs := [_, _, _]) hO (zfX (q0 := (⟨q0.code, q0.pc, q0.regs, q0.words, q0.input, q0.out, q0.how, (q0.regs y101)⟩ : zh)) (p1 := (⟨p1.Kind, p1.Op, p1.R, p1.S, p1.T, p1.N, p1.M⟩ : zf)) (rm0_0.le hL) (wm0_18.le hL) (rm0_19.le hL) (wm0_20.le hL) h112) (fun _ _ _ h => False.elim h) rfl fun _ σ _ _ hO h113 h114 => ?_
  have hL := hL.trans h113
  obtain ⟨v137, v141, o144, v146, v150, o153, rfl, rfl, r140, w145, r149, w154⟩ := h114
  obtain ⟨A138, c139, rfl, -⟩ := r140.form
  obtain ⟨A142, c143, rfl, -⟩ := w145.form
  obtain ⟨A147, c148, rfl, -⟩ := r149.form
  obtain ⟨A151, c152, rfl, -⟩ := w154.form
  have hO := zs74 hO
  refine ze (za hO [] [(6, zs2 p2)] [0] zsN fun j => ?_)
  refine zq ?_
  cases hF
  have hO := hO.sel [1, 2, 3]
  exact (hQ _ _ _ _ _ rfl hO hL ⟨_, _, _, _, _, _, rfl, rfl, r140, w145, r149, w154⟩).1
 refine zb (za hO [] [(50, .bool ((p1.Kind.toNat : Int) == 18))] [0, 2, 4] zsP fun j => ?_)
 refine zi hF rfl (fun hF => ?_) fun hF => ?_
 ·refine zZ hO 3 [3] [(0, zs3 bm0), (2, zs2 p2), (4, zs3 b4), (54, .int .u8 (IntKind.u8.wrap p1.N))] (And.intro (And.intro rfl rfl) zsP) fun j => ?_
  rcases zbA hF with ⟨x160, h161, hF⟩ | ⟨c156, h157, hF⟩
  ·refine zdg hO (zb3 h161) (fun _ _ _ h => False.elim h) rfl fun _ σ _ _ hO h162 h163 => ?_
   have hL := hL.trans h162
   obtain ⟨rfl, rfl⟩ := h163
   have hO := zs74 hO
   cases hF
   have hO := hO.sel [0, 1, 2]
   exact hP _ _ _ _ hO hL ⟨_, _, _, _, _, _, rfl, rfl, (rm0_0.le hL), (wm0_18.le hL), (rm0_19.le hL), (wm0_20.le hL)⟩
  refine zc8 hO (zb3 h157) (fun _ _ _ h => False.elim h) rfl fun _ σ _ _ hO h158 h159 => ?_
  have hL := hL.trans h158
  obtain ⟨rfl, rfl⟩ := h159
  have hO := zs74 hO
  refine ze (zg (zF (zk (zc hO 2 [3] [(56, zs3 bm0), (57, .agg #[(.int .u8 (p1.Kind.toNat : Int)), (.int .u8 (p1.Op.toNat : Int)), (.int .i64 p1.R), (.int .i64 p1.S), (.int .i64 p1.T), (.int .i64 p1.N), (.int .i64 p1.M)])] [0, 2] (And.intro (And.intro rfl rfl) zsP) fun j => ?_))))
  have hO := hO.sel [3, 0, 1, 2]
  rcases zbA hF with ⟨x168, h169, hF⟩ | ⟨c164, h165, hF⟩
  ·refine zcw (hs := [_]) (vs := [_, _, _]) hO (zfX (q0 := (⟨q0.code, q0.pc, q0.regs, q0.words, q0.input, q0.out, q0.how, q0.halting⟩ : zh)) (p1 := (⟨p1.Kind, p1.Op, p1.R, p1.S, p1.T, p1.N, p1.M⟩ : zf)) (rm0_0.le hL) (wm0_18.le hL) (rm0_19.le hL) (wm0_20.le hL) h169) (fun _ _ _ h => False.elim h) rfl fun _ σ _ _ hO h170 h171 => ?_
   have hL := hL.trans h170
   obtain ⟨v172, v176, o179, v181, v185, o188, rfl, rfl, r175, w180, r184, w189⟩ := h171
   obtain ⟨A173, c174, rfl, -⟩ := r175.form
   obtain ⟨A177, c178, rfl, -⟩ := w180.form
   obtain ⟨A182, c183, rfl, -⟩ := r184.form
   obtain ⟨A186, c187, rfl, -⟩ := w189.form
   have hO := zs74 hO
   cases hF
   have hO := hO.sel [1, 2, 3]
   exact hP _ _ _ _ hO hL ⟨_, _, _, _, _, _, rfl, rfl, r175, w180, r184, w189⟩
  refine zcv (hs := [_]) (vs := [_, _, _]) hO (zfX (q0 := (⟨q0.code, q0.pc, q0.regs, q0.words, q0.input, q0.out, q0.how, q0.halting⟩ : zh)) (p1 := (⟨p1.Kind, p1.Op, p1.R, p1.S, p1.T, p1.N, p1.M⟩ : zf)) (rm0_0.le hL) (wm0_18.le hL) (rm0_19.le hL) (wm0_20.le hL) h165) (fun _ _ _ h => False.elim h) rfl fun _ σ _ _ hO h166 h167 => ?_
  have hL := hL.trans h166
  obtain ⟨v190, v194, o197, v199, v203, o206, rfl, rfl, r193, w198, r202, w207⟩ := h167
  obtain ⟨A191, c192, rfl, -⟩ := r193.form
  obtain ⟨A195, c196, rfl, -⟩ := w198.form
  obtain ⟨A200, c201, rfl, -⟩ := r202.form
  obtain ⟨A204, c205, rfl, -⟩ := w207.form
  have hO := zs74 hO
  refine ze (za hO [] [(6, zs2 p2)] [0] zsN fun j => ?_)
  refine zq ?_
  cases hF
  have hO := hO.sel [1, 2, 3]
  exact (hQ _ _ _ _ _ rfl hO hL ⟨_, _, _, _, _, _, rfl, rfl, r193, w198, r202, w207⟩).1
 refine zl (zg (zF (zk (zZ hO 2 [3] [(0, zs3 bm0), (2, zs2 p2), (56, zs3 bm0), (57, .agg #[(.int .u8 (p1.Kind.toNat : Int)), (.int .u8 (p1.Op.toNat : Int)), (.int .i64 p1.R), (.int .i64 p1.S), (.int .i64 p1.T), (.int .i64 p1.N), (.int .i64 p1.M)])] (And.intro (And.intro rfl rfl) zsP) fun j => ?_))))
 have hO := hO.sel [3, 0, 1, 2]
 rcases zbA hF with ⟨x212, h213, hF⟩ | ⟨c208, h209, hF⟩
 ·refine zcw (hs := [_]) (vs := [_, _, _]) hO (zfX (q0 := (⟨q0.code, q0.pc, q0.regs, q0.words, q0.input, q0.out, q0.how, q0.halting⟩ : zh)) (p1 := (⟨p1.Kind, p1.Op, p1.R, p1.S, p1.T, p1.N, p1.M⟩ : zf)) (rm0_0.le hL) (wm0_18.le hL) (rm0_19.le hL) (wm0_20.le hL) h213) (fun _ _ _ h => False.elim h) rfl fun _ σ _ _ hO h214 h215 => ?_
  have hL := hL.trans h214
  obtain ⟨v216, v220, o223, v225, v229, o232, rfl, rfl, r219, w224, r228, w233⟩ := h215
  obtain ⟨A217, c218, rfl, -⟩ := r219.form
  obtain ⟨A221, c222, rfl, -⟩ := w224.form
  obtain ⟨A226, c227, rfl, -⟩ := r228.form
  obtain ⟨A230, c231, rfl, -⟩ := w233.form
  have hO := zs74 hO
  cases hF
  have hO := hO.sel [1, 2, 3]
  exact hP _ _ _ _ hO hL ⟨_, _, _, _, _, _, rfl, rfl, r219, w224, r228, w233⟩
 refine zcv (hs := [_]) (vs := [_, _, _]) hO (zfX (q0 := (⟨q0.code, q0.pc, q0.regs, q0.words, q0.input, q0.out, q0.how, q0.halting⟩ : zh)) (p1 := (⟨p1.Kind, p1.Op, p1.R, p1.S, p1.T, p1.N, p1.M⟩ : zf)) (rm0_0.le hL) (wm0_18.le hL) (rm0_19.le hL) (wm0_20.le hL) h209) (fun _ _ _ h => False.elim h) rfl fun _ σ _ _ hO h210 h211 => ?_
 have hL := hL.trans h210
 obtain ⟨v234, v238, o241, v243, v247, o250, rfl, rfl, r237, w242, r246, w251⟩ := h211
 obtain ⟨A235, c236, rfl, -⟩ := r237.form
 obtain ⟨A239, c240, rfl, -⟩ := w242.form
 obtain ⟨A244, c245, rfl, -⟩ := r246.form
 obtain ⟨A248, c249, rfl, -⟩ := w251.form
 have hO := zs74 hO
 refine ze (za hO [] [(6, zs2 p2)] [0] zsN fun j => ?_)
 refine zq ?_
 cases hF
 have hO := hO.sel [1, 2, 3]
 exact (hQ _ _ _ _ _ rfl hO hL ⟨_, _, _, _, _, _, rfl, rfl, r237, w242, r246, w251⟩).1
abbrev znJ (bm0 bmf1 : Nat) (rr : Except (Value × zh × UInt8) (zh × UInt8)) : List PanicEntry → Hp → List Ob → Prop := fun ch τ' vs' => match rr with | .ok _ => False | .error ee => ∃ (u0_0 u0_18 : Value) (y0_18 : Ob) (u0_19 u0_20 : Value) (y0_20 : Ob), ch = [{ v := ee.1, recovered := false }] ∧ vs' = [zI bm0 u0_0 ee.2.1.pc ee.2.1.regs u0_18 u0_19 u0_20 ee.2.1.how.toNat ee.2.1.halting, y0_18, y0_20, some (bmf1, ⟨[.int .u8 ee.2.2.toNat], 5, 1, true⟩)] ∧ RdT Ty.u8 τ' u0_0 ee.2.1.code ∧ zd (Ty.int .i64) 2 τ' u0_18 ee.2.1.words y0_18 ∧ RdT (Ty.int .i64) τ' u0_19 ee.2.1.input ∧ zd (Ty.int .i64) 2 τ' u0_20 ee.2.1.out y0_20
def zkl : zbb := (.seq (.parT (.quiet ⟨none, (some 19), .load false 1 (.t 1)⟩
 (.quiet ⟨none, (some 20), .nilchk (.t 19)⟩
 (.quiet ⟨none, (some 21), .faddr 0 (.t 20)⟩
 (.quiet ⟨none, (some 22), .load false 1 (.t 21)⟩
 (.quiet ⟨none, (some 23), .load false 1 (.t 1)⟩
 (.quiet ⟨none, (some 24), .nilchk (.t 23)⟩
 (.quiet ⟨none, (some 25), .faddr 1 (.t 24)⟩
 (.quiet ⟨none, (some 26), .load false 1 (.t 25)⟩
 (.both (.eff ⟨none, (some 27), .call 30 [(.t 22), (.t 26)]⟩ []
 (.quiet ⟨none, (some 18), .mv (.t 27)⟩
 (.quiet ⟨none, (some 28), .ext 0 (.t 18)⟩
 (.quiet ⟨none, (some 29), .ext 1 (.t 18)⟩
 (.quiet ⟨none, (some 30), .ext 2 (.t 18)⟩
 (.eff ⟨none, (some 3), .alloc 54 [(.int .u8 0), (.int .u8 0), (.int .i64 0), (.int .i64 0), (.int .i64 0), (.int .i64 0), (.int .i64 0)]⟩ [⟨none, (some 26), .load false 1 (.t 25)⟩, ⟨none, (some 23), .load false 1 (.t 1)⟩, ⟨none, (some 22), .load false 1 (.t 21)⟩, ⟨none, (some 19), .load false 1 (.t 1)⟩]
 (.eff ⟨none, none, .store 7 (.t 3) (.t 28)⟩ []
 (.quiet ⟨none, (some 4), .mv (.t 29)⟩
 (.quiet ⟨none, (some 5), .mv (.t 30)⟩
 .done)))))))))
 (.eff ⟨none, (some 3), .alloc 54 [(.int .u8 0), (.int .u8 0), (.int .i64 0), (.int .i64 0), (.int .i64 0), (.int .i64 0), (.int .i64 0)]⟩ [⟨none, (some 26), .load false 1 (.t 25)⟩, ⟨none, (some 23), .load false 1 (.t 1)⟩, ⟨none, (some 22), .load false 1 (.t 21)⟩, ⟨none, (some 19), .load false 1 (.t 1)⟩]
 (.eff ⟨none, (some 27), .call 30 [(.t 22), (.t 26)]⟩ []
 (.quiet ⟨none, (some 18), .mv (.t 27)⟩
 (.quiet ⟨none, (some 28), .ext 0 (.t 18)⟩
 (.quiet ⟨none, (some 29), .ext 1 (.t 18)⟩
 (.quiet ⟨none, (some 30), .ext 2 (.t 18)⟩
 (.eff ⟨none, none, .store 7 (.t 3) (.t 28)⟩ []
 (.quiet ⟨none, (some 4), .mv (.t 29)⟩
 (.quiet ⟨none, (some 5), .mv (.t 30)⟩
 .done)))))))))))))))))))
(.seq (.seq (.reg [.s ⟨(some 31), .mv (.t 5), []⟩,
 .s ⟨(some 32), .bin .neq (.t 31) (.c (.int .i64 0)), []⟩])
(.cond (.t 32) (.reg [.s ⟨(some 33), .call 31 [(.c (.int .u8 5))], []⟩])
.skip))
(.seq (.par [.s ⟨(some 34), .load false 1 (.t 1), []⟩,
 .s ⟨(some 35), .load false 1 (.t 1), []⟩,
 .s ⟨(some 36), .load true 7 (.t 3), []⟩,
 .s ⟨(some 37), .mv (.t 4), []⟩,
 .s ⟨(some 38), .call 32 [(.t 35), (.t 36), (.t 37)], [⟨none, (some 34), .load false 1 (.t 1)⟩]⟩,
 .s ⟨(some 39), .nilchk (.t 34), []⟩,
 .s ⟨(some 40), .faddr 1 (.t 39), []⟩,
 .s ⟨none, .store 1 (.t 40) (.t 38), []⟩])
(.seq (.reg [.s ⟨(some 41), .load false 1 (.t 1), []⟩,
 .s ⟨(some 42), .nilchk (.t 41), []⟩,
 .s ⟨(some 43), .faddr 21 (.t 42), []⟩,
 .s ⟨(some 44), .load false 1 (.t 43), []⟩,
 .s ⟨none, .store 1 (.t 2) (.t 44), []⟩])
.ret))))
theorem zlp {τ : Hp} {q0 : zh} {bm0 : Nat} {vm0_0 vm0_18 : Value} {om0_18 : Ob} {vm0_19 vm0_20 : Value} {om0_20 : Ob} {af0 : Addr} {qf1 : UInt8} {bmf1 : Nat} (rm0_0 : RdT Ty.u8 τ vm0_0 q0.code) (wm0_18 : zd (Ty.int .i64) 2 τ vm0_18 q0.words om0_18) (rm0_19 : RdT (Ty.int .i64) τ vm0_19 q0.input) (wm0_20 : zd (Ty.int .i64) 2 τ vm0_20 q0.out om0_20) (mf0 : At τ af0 [.pointer (some ⟨bm0, 0, none⟩)]) {w0 : Base} {σ : Hp} {Q : Exit → Env → Hp → Prop} {e0 : Env} {rr : Except (Value × zh × UInt8) (zh × UInt8)} (hF : zgY q0 qf1 = some rr) (hP : ∀ ch σ' τ' vs', Obs τ' σ' vs' → Hp.le τ τ' → (znJ bm0 bmf1 rr) ch τ' vs' → w0.pan ch σ') (hO : Obs τ σ [zI bm0 vm0_0 q0.pc q0.regs vm0_18 vm0_19 vm0_20 q0.how.toNat q0.halting, om0_18, om0_20, some (bmf1, ⟨[.int .u8 qf1.toNat], 5, 1, true⟩)]) (hQ : ∀ e σ' rs τ' vs', resvs e σ' [] = some rs → Obs τ' σ' vs' → Hp.le τ τ' → (fun v τ' vs' => match rr with | .ok rr => ∃ (u0_0 u0_18 : Value) (y0_18 : Ob) (u0_19 u0_20 : Value) (y0_20 : Ob), v = .tuple #[] ∧ vs' = [zI bm0 u0_0 rr.1.pc rr.1.regs u0_18 u0_19 u0_20 rr.1.how.toNat rr.1.halting, y0_18, y0_20, some (bmf1, ⟨[.int .u8 rr.2.toNat], 5, 1, true⟩)] ∧ RdT Ty.u8 τ' u0_0 rr.1.code ∧ zd (Ty.int .i64) 2 τ' u0_18 rr.1.words y0_18 ∧ RdT (Ty.int .i64) τ' u0_19 rr.1.input ∧ zd (Ty.int .i64) 2 τ' u0_20 rr.1.out y0_20 | .error _ => False) (zca rs) τ' vs' → Q .ret e σ' ∧ Q .normal e σ') : wpn Tryz.prog w0 zkl Q (sets [(0, .pointer (some ⟨bm0, 0, none⟩)), (1, .pointer (some af0)), (2, .pointer (some ⟨bmf1, 0, none⟩))] e0) σ := by
 obtain ⟨Am0_0, cm0_0, rfl, -⟩ := rm0_0.form
 obtain ⟨Am0_18, cm0_18, rfl, -⟩ := wm0_18.form
 obtain ⟨Am0_19, cm0_19, rfl, -⟩ := rm0_19.form
 obtain ⟨Am0_20, cm0_20, rfl, -⟩ := wm0_20.form
 unfold zkl
 unfold zgY at hF
 have hL := Hp.le.refl τ
 refine zG (zL rfl ((mf0.le hL).le hO.base).fst ?_)
 refine ze (zG (za hO [] [(20, zs3 bm0)] [0, 1, 2, 19] zsQ fun j => ?_))
 refine zG (za hO [] [(21, zs3 bm0)] [0, 1, 2, 19] zsQ fun j => ?_)
 refine zG (za hO [0] [(22, zs9 Am0_0 q0.code cm0_0)] [0, 1, 2, 19, 21] (And.intro (And.intro rfl rfl) zsR) fun j => ?_)
 refine zG (zL rfl ((mf0.le hL).le hO.base).fst ?_)
 refine ze (zG (za hO [] [(24, zs3 bm0)] [0, 1, 2, 19, 21, 22, 23] zsT fun j => ?_))
 refine zG (za hO [] [(25, .pointer (some ⟨bm0, 1, none⟩))] [0, 1, 2, 19, 21, 22, 23] zsT fun j => ?_)
 refine zG (za hO [0] [(26, zs2 q0.pc)] [0, 1, 2, 19, 21, 22, 23, 25] (And.intro (And.intro rfl rfl) zsU) fun j => ?_)
 refine zbK (fun e' σ' => ∃ (b7 : Nat) (x8 x9 : UInt8) (x10 x11 x12 x13 x14 x15 x16 : Int) (τ' : Hp), agr [(0, zs3 bm0), (1, .pointer (some af0)), (2, zs3 bmf1), (3, zs3 b7), (4, zs2 x15), (5, zs2 x16)] e' ∧ Obs τ' σ' [zI bm0 (zs9 Am0_0 q0.code cm0_0) q0.pc q0.regs (zs9 Am0_18 q0.words cm0_18) (zs9 Am0_19 q0.input cm0_19) (zs9 Am0_20 q0.out cm0_20) (q0.how.toNat : Int) q0.halting, om0_18, om0_20, some (bmf1, ⟨[.int .u8 (qf1.toNat : Int)], 5, 1, true⟩), zy b7 (x8.toNat : Int) (x9.toNat : Int) x10 x11 x12 x13 x14] ∧ Hp.le τ τ' ∧ ziO q0 qf1 x8 x9 x10 x11 x12 x13 x14 x15 x16 = some rr) ?_ ?_
 ·refine ziC ?_
  obtain ⟨c79, h80, hF⟩ := zs8 hF
  refine zdr ?_ ?_
  ·refine zU (zo hO (zny (rm0_0.le hL) h80) rfl fun _ σ _ _ hO h81 h82 => ?_)
   have hL := hL.trans h81
   obtain ⟨rfl, rfl⟩ := h82
   have hO := zs74 hO
   refine ze (zG (za hO [] [(18, .tuple #[(.agg #[(.int .u8 (c79.1.Kind.toNat : Int)), (.int .u8 (c79.1.Op.toNat : Int)), (.int .i64 c79.1.R), (.int .i64 c79.1.S), (.int .i64 c79.1.T), (.int .i64 c79.1.N), (.int .i64 c79.1.M)]), (.int .i64 c79.2.1), (.int .i64 c79.2.2)])] [0, 1, 2, 19, 21, 22, 23, 25, 26] zsV fun j => ?_))
   refine zG (za hO [] [(28, .agg #[(.int .u8 (c79.1.Kind.toNat : Int)), (.int .u8 (c79.1.Op.toNat : Int)), (.int .i64 c79.1.R), (.int .i64 c79.1.S), (.int .i64 c79.1.T), (.int .i64 c79.1.N), (.int .i64 c79.1.M)])] [0, 1, 2, 18, 19, 21, 22, 23, 25, 26] zsW fun j => ?_)
   refine zG (zj hO [] [(0, zs3 bm0), (1, .pointer (some af0)), (2, zs3 bmf1), (18, .tuple #[(.agg #[(.int .u8 (c79.1.Kind.toNat : Int)), (.int .u8 (c79.1.Op.toNat : Int)), (.int .i64 c79.1.R), (.int .i64 c79.1.S), (.int .i64 c79.1.T), (.int .i64 c79.1.N), (.int .i64 c79.1.M)]), (.int .i64 c79.2.1), (.int .i64 c79.2.2)]), (19, zs3 bm0), (21, zs3 bm0), (22, zs9 Am0_0 q0.code cm0_0), (23, zs3 bm0), (25, .pointer (some ⟨bm0, 1, none⟩)), (26, zs2 q0.pc), (28, .agg #[(.int .u8 (c79.1.Kind.toNat : Int)), (.int .u8 (c79.1.Op.toNat : Int)), (.int .i64 c79.1.R), (.int .i64 c79.1.S), (.int .i64 c79.1.T), (.int .i64 c79.1.N), (.int .i64 c79.1.M)]), (29, zs2 c79.2.1)] zsX fun j => ?_)
   refine zG (za hO [] [(30, zs2 c79.2.2)] [0, 1, 2, 19, 21, 22, 23, 25, 26, 28, 29] zsX fun j => ?_)
   refine zU (zbx (zbE hO fun b83 σ hO => ?_))
   have hO := zs75 hO
   refine ze (zby ⟨(zbh rfl (hO.val (i := 0) (off := 1) (agg := false) (n := 1) rfl rfl) rfl), (zbh rfl ((mf0.le hL).le hO.base).fst rfl), (zbh rfl (hO.val (i := 0) (off := 0) (agg := false) (n := 1) rfl rfl) rfl), (zbh rfl ((mf0.le hL).le hO.base).fst rfl), trivial⟩ ?_)
   refine ze (zU (zH hO (i := 4) rfl (off := 0) rfl rfl rfl rfl (Nat.le_of_ble_eq_true rfl) rfl fun σ hO => ?_))
   have hO := zs75 hO
   refine ze (zG (za hO [] [(4, zs2 c79.2.1)] [0, 1, 2, 3, 30] zsR fun j => ?_))
   refine zG (za hO [] [(5, zs2 c79.2.2)] [0, 1, 2, 3, 4] zsR fun j => ?_)
   refine zcq (zg (zk ?_))
   exact ⟨b83, c79.1.Kind, c79.1.Op, c79.1.R, c79.1.S, c79.1.T, c79.1.N, c79.1.M, c79.2.1, c79.2.2, _, zs1 zsQ, hO, hL, hF⟩
  refine zU (zbx (zbE hO fun b83 σ hO => ?_))
  have hO := zs75 hO
  refine ze (zby ⟨(zbh rfl (hO.val (i := 0) (off := 1) (agg := false) (n := 1) rfl rfl) rfl), (zbh rfl ((mf0.le hL).le hO.base).fst rfl), (zbh rfl (hO.val (i := 0) (off := 0) (agg := false) (n := 1) rfl rfl) rfl), (zbh rfl ((mf0.le hL).le hO.base).fst rfl), trivial⟩ ?_)
  refine ze (zU (zo hO (zny (rm0_0.le hL) h80) rfl fun _ σ _ _ hO h81 h82 => ?_))
  have hL := hL.trans h81
  obtain ⟨rfl, rfl⟩ := h82
  have hO := zs75 hO
  refine ze (zG (za hO [] [(18, .tuple #[(.agg #[(.int .u8 (c79.1.Kind.toNat : Int)), (.int .u8 (c79.1.Op.toNat : Int)), (.int .i64 c79.1.R), (.int .i64 c79.1.S), (.int .i64 c79.1.T), (.int .i64 c79.1.N), (.int .i64 c79.1.M)]), (.int .i64 c79.2.1), (.int .i64 c79.2.2)])] [0, 1, 2, 3] zsQ fun j => ?_))
  refine zG (za hO [] [(28, .agg #[(.int .u8 (c79.1.Kind.toNat : Int)), (.int .u8 (c79.1.Op.toNat : Int)), (.int .i64 c79.1.R), (.int .i64 c79.1.S), (.int .i64 c79.1.T), (.int .i64 c79.1.N), (.int .i64 c79.1.M)])] [0, 1, 2, 3, 18] zsR fun j => ?_)
  refine zG (zj hO [] [(0, zs3 bm0), (1, .pointer (some af0)), (2, zs3 bmf1), (3, zs3 b83), (18, .tuple #[(.agg #[(.int .u8 (c79.1.Kind.toNat : Int)), (.int .u8 (c79.1.Op.toNat : Int)), (.int .i64 c79.1.R), (.int .i64 c79.1.S), (.int .i64 c79.1.T), (.int .i64 c79.1.N), (.int .i64 c79.1.M)]), (.int .i64 c79.2.1), (.int .i64 c79.2.2)]), (28, .agg #[(.int .u8 (c79.1.Kind.toNat : Int)), (.int .u8 (c79.1.Op.toNat : Int)), (.int .i64 c79.1.R), (.int .i64 c79.1.S), (.int .i64 c79.1.T), (.int .i64 c79.1.N), (.int .i64 c79.1.M)]), (29, zs2 c79.2.1)] zsS fun j => ?_)
  refine zG (za hO [] [(30, zs2 c79.2.2)] [0, 1, 2, 3, 28, 29] zsS fun j => ?_)
  refine zU (zH hO (i := 4) rfl (off := 0) rfl rfl rfl rfl (Nat.le_of_ble_eq_true rfl) rfl fun σ hO => ?_)
  have hO := zs75 hO
  refine ze (zG (za hO [] [(4, zs2 c79.2.1)] [0, 1, 2, 3, 30] zsR fun j => ?_))
  refine zG (za hO [] [(5, zs2 c79.2.2)] [0, 1, 2, 3, 4] zsR fun j => ?_)
  refine zcq (zg (zk ?_))
  exact ⟨b83, c79.1.Kind, c79.1.Op, c79.1.R, c79.1.S, c79.1.T, c79.1.N, c79.1.M, c79.2.1, c79.2.2, _, zs1 zsQ, hO, hL, hF⟩
 rintro e σ ⟨b7, x8, x9, x10, x11, x12, x13, x14, x15, x16, _, hA, hO, hL, hF⟩
 rw [← zD _ _ hA]
 unfold ziO at hF
 refine zb (za hO [] [(32, .bool (x16 != 0))] [0, 1, 2, 3, 4] zsR fun j => ?_)
 refine zbK (fun e' σ' => ∃ (τ' : Hp), agr [(0, zs3 bm0), (1, .pointer (some af0)), (2, zs3 bmf1), (3, zs3 b7), (4, zs2 x15)] e' ∧ Obs τ' σ' [zI bm0 (zs9 Am0_0 q0.code cm0_0) q0.pc q0.regs (zs9 Am0_18 q0.words cm0_18) (zs9 Am0_19 q0.input cm0_19) (zs9 Am0_20 q0.out cm0_20) (q0.how.toNat : Int) q0.halting, om0_18, om0_20, some (bmf1, ⟨[.int .u8 (qf1.toNat : Int)], 5, 1, true⟩), zy b7 (x8.toNat : Int) (x9.toNat : Int) x10 x11 x12 x13 x14] ∧ Hp.le τ τ' ∧ zhN q0 qf1 x8 x9 x10 x11 x12 x13 x14 x15 = some rr) ?_ ?_
 ·refine z5 (zi hF rfl (fun hF => ?_) fun hF => ?_)
  ·rcases zbA hF with ⟨x75, h76, hF⟩ | ⟨c71, h72, hF⟩
   ·refine zdg hO (zb3 h76) (fun _ _ _ h => False.elim h) rfl fun _ σ _ _ hO h77 h78 => ?_
    have hL := hL.trans h77
    obtain ⟨rfl, rfl⟩ := h78
    have hO := zs75 hO
    cases hF
    have hO := hO.sel [0, 1, 2, 3]
    exact hP _ _ _ _ hO hL ⟨_, _, _, _, _, _, rfl, rfl, (rm0_0.le hL), (wm0_18.le hL), (rm0_19.le hL), (wm0_20.le hL)⟩
   refine zc8 hO (zb3 h72) (fun _ _ _ h => False.elim h) rfl fun _ σ _ _ hO h73 h74 => ?_
   have hL := hL.trans h73
   obtain ⟨rfl, rfl⟩ := h74
   have hO := zs75 hO
   refine ze (zg (zk ?_))
   exact ⟨_, zs1 zsP, hO, hL, hF⟩
  refine zl (zg (zk ?_))
  exact ⟨_, zs1 zsP, hO, hL, hF⟩
 rintro e σ ⟨_, hA, hO, hL, hF⟩
 rw [← zD _ _ hA]
 unfold zhN at hF
 refine z8 (zL rfl ((mf0.le hL).le hO.base).fst ?_)
 refine zL rfl ((mf0.le hL).le hO.base).fst ?_
 refine zc hO 2 [4] [(36, .agg #[(.int .u8 (x8.toNat : Int)), (.int .u8 (x9.toNat : Int)), (.int .i64 x10), (.int .i64 x11), (.int .i64 x12), (.int .i64 x13), (.int .i64 x14)]), (37, zs2 x15)] [0, 1, 2, 34, 35] (And.intro (And.intro rfl rfl) zsS) fun j => ?_
 refine zbx ?_
 have hO := hO.sel [3, 4, 0, 1, 2]
 rcases zbA hF with ⟨x30, h31, hF⟩ | ⟨c26, h27, hF⟩
 ·refine zcw (hs := [_, _]) (vs := [_, _, _]) hO (zmR (q0 := (⟨q0.code, q0.pc, q0.regs, q0.words, q0.input, q0.out, q0.how, q0.halting⟩ : zh)) (p1 := (⟨x8, x9, x10, x11, x12, x13, x14⟩ : zf)) (rm0_0.le hL) (wm0_18.le hL) (rm0_19.le hL) (wm0_20.le hL) h31) (fun _ _ _ h => False.elim h) rfl fun _ σ _ _ hO h32 h33 => ?_
  have hL := hL.trans h32
  obtain ⟨v34, v38, o41, v43, v47, o50, rfl, rfl, r37, w42, r46, w51⟩ := h33
  obtain ⟨A35, c36, rfl, -⟩ := r37.form
  obtain ⟨A39, c40, rfl, -⟩ := w42.form
  obtain ⟨A44, c45, rfl, -⟩ := r46.form
  obtain ⟨A48, c49, rfl, -⟩ := w51.form
  have hO := zs75 hO
  cases hF
  have hO := hO.sel [2, 3, 4, 0]
  exact hP _ _ _ _ hO hL ⟨_, _, _, _, _, _, rfl, rfl, r37, w42, r46, w51⟩
 refine zcv (hs := [_, _]) (vs := [_, _, _]) hO (zmR (q0 := (⟨q0.code, q0.pc, q0.regs, q0.words, q0.input, q0.out, q0.how, q0.halting⟩ : zh)) (p1 := (⟨x8, x9, x10, x11, x12, x13, x14⟩ : zf)) (rm0_0.le hL) (wm0_18.le hL) (rm0_19.le hL) (wm0_20.le hL) h27) (fun _ _ _ h => False.elim h) rfl fun _ σ _ _ hO h28 h29 => ?_
 have hL := hL.trans h28
 obtain ⟨v52, v56, o59, v61, v65, o68, rfl, rfl, r55, w60, r64, w69⟩ := h29
 obtain ⟨A53, c54, rfl, -⟩ := r55.form
 obtain ⟨A57, c58, rfl, -⟩ := w60.form
 obtain ⟨A62, c63, rfl, -⟩ := r64.form
 obtain ⟨A66, c67, rfl, -⟩ := w69.form
 have hO := zs75 hO
 refine ze (zby ⟨(zbh rfl ((mf0.le hL).le hO.base).fst rfl), trivial⟩ ?_)
 refine zc hO 2 [] [(40, .pointer (some ⟨bm0, 1, none⟩))] [0, 1, 2, 38] zsQ fun j => ?_
 refine zH hO (i := 2) rfl (off := 1) rfl rfl rfl rfl (Nat.le_of_ble_eq_true rfl) rfl fun σ hO => ?_
 have hO := zs75 hO
 refine ze (zL rfl ((mf0.le hL).le hO.base).fst ?_)
 refine zc hO 3 [2] [(44, .int .u8 (c26.2.how.toNat : Int))] [0, 2] (And.intro (And.intro rfl rfl) zsO) fun j => ?_
 refine zH hO (i := 0) rfl (off := 0) rfl rfl rfl rfl (Nat.le_of_ble_eq_true rfl) rfl fun σ hO => ?_
 have hO := zs75 hO
 refine ze (zq ?_)
 cases hF
 have hO := hO.sel [2, 3, 4, 0]
 exact (hQ _ _ _ _ _ rfl hO hL ⟨_, _, _, _, _, _, rfl, rfl, r55, w60, r64, w69⟩).1
def zga : zbb := (.seq (.seq (.reg [.s ⟨(some 6), .mv (.t 2), []⟩,
 .s ⟨(some 7), .inil false (.t 6), []⟩])
(.cond (.t 7) .ret
.skip))
(.seq (.reg [.s ⟨(some 9), .mv (.t 2), []⟩,
 .s ⟨(some 10), .tas 59 ((.int .u8 0)) (.t 9), []⟩,
 .s ⟨(some 8), .mv (.t 10), []⟩,
 .s ⟨(some 11), .ext 0 (.t 8), []⟩,
 .s ⟨(some 12), .ext 1 (.t 8), []⟩,
 .s ⟨(some 3), .mv (.t 11), []⟩,
 .s ⟨(some 4), .mv (.t 12), []⟩])
(.seq (.seq (.reg [.s ⟨(some 13), .mv (.t 4), []⟩,
 .s ⟨(some 14), .un .not (.t 13), []⟩])
(.cond (.t 14) (.reg [.s ⟨(some 15), .mv (.t 2), []⟩,
 .s ⟨none, .pan (.t 15), []⟩])
.skip))
(.reg [.s ⟨(some 16), .load false 1 (.t 0), []⟩,
 .s ⟨(some 17), .mv (.t 3), []⟩,
 .s ⟨(some 18), .mv (.t 3), []⟩,
 .s ⟨(some 19), .nilchk (.t 16), []⟩,
 .s ⟨(some 20), .faddr 21 (.t 19), []⟩,
 .s ⟨none, .store 1 (.t 20) (.t 17), []⟩,
 .s ⟨none, .store 1 (.t 1) (.t 18), []⟩]))))
theorem zsu {τ : Hp} {qf0 : zh} {bmf0 : Nat} {vmf0_0 vmf0_18 : Value} {omf0_18 : Ob} {vmf0_19 vmf0_20 : Value} {omf0_20 : Ob} {af0 : Addr} {qf1 : UInt8} {bmf1 : Nat} {k5 : UInt8} (rmf0_0 : RdT Ty.u8 τ vmf0_0 qf0.code) (wmf0_18 : zd (Ty.int .i64) 2 τ vmf0_18 qf0.words omf0_18) (rmf0_19 : RdT (Ty.int .i64) τ vmf0_19 qf0.input) (wmf0_20 : zd (Ty.int .i64) 2 τ vmf0_20 qf0.out omf0_20) (mf0 : At τ af0 [.pointer (some ⟨bmf0, 0, none⟩)]) {w0 : Base} {σ : Hp} {Q : Exit → Env → Hp → Prop} {e0 : Env} {rr : zh × UInt8} (hF : ziI qf0 qf1 k5 = some rr) (hO : Obs τ σ [zI bmf0 vmf0_0 qf0.pc qf0.regs vmf0_18 vmf0_19 vmf0_20 qf0.how.toNat qf0.halting, omf0_18, omf0_20, some (bmf1, ⟨[.int .u8 qf1.toNat], 5, 1, true⟩)]) (hQ : ∀ e σ' rs τ' vs', resvs e σ' [] = some rs → Obs τ' σ' vs' → Hp.le τ τ' → (fun v τ' vs' => ∃ (u0_0 u0_18 : Value) (y0_18 : Ob) (u0_19 u0_20 : Value) (y0_20 : Ob), v = .tuple #[] ∧ vs' = [zI bmf0 u0_0 rr.1.pc rr.1.regs u0_18 u0_19 u0_20 rr.1.how.toNat rr.1.halting, y0_18, y0_20, some (bmf1, ⟨[.int .u8 rr.2.toNat], 5, 1, true⟩)] ∧ RdT Ty.u8 τ' u0_0 rr.1.code ∧ zd (Ty.int .i64) 2 τ' u0_18 rr.1.words y0_18 ∧ RdT (Ty.int .i64) τ' u0_19 rr.1.input ∧ zd (Ty.int .i64) 2 τ' u0_20 rr.1.out y0_20) (zca rs) τ' vs' → Q .ret e σ' ∧ Q .normal e σ') : wpn Tryz.prog w0 zga Q (sets [(0, .pointer (some af0)), (1, .pointer (some ⟨bmf1, 0, none⟩)), (2, .iface 59 (.int .u8 (k5.toNat : Int)))] e0) σ := by
 obtain ⟨Amf0_0, cmf0_0, rfl, -⟩ := rmf0_0.form
 obtain ⟨Amf0_18, cmf0_18, rfl, -⟩ := wmf0_18.form
 obtain ⟨Amf0_19, cmf0_19, rfl, -⟩ := rmf0_19.form
 obtain ⟨Amf0_20, cmf0_20, rfl, -⟩ := wmf0_20.form
 unfold zga
 unfold ziI at hF
 have hL := Hp.le.refl τ
 refine zb (za hO [] [(7, .bool false)] [0, 1, 2] zsP fun j => ?_)
 refine zbU rfl ?_
 refine zl (za hO [] [(3, .int .u8 (k5.toNat : Int)), (4, .bool true)] [0, 1, 2] zsQ fun j => ?_)
 refine zb (za hO [] [(14, .bool false)] [0, 1, 2, 3] zsQ fun j => ?_)
 refine zbU rfl ?_
 refine zl (zV (zL rfl ((mf0.le hL).le hO.base).fst ?_))
 refine zc hO 4 [] [(17, .int .u8 (k5.toNat : Int)), (18, .int .u8 (k5.toNat : Int)), (20, .pointer (some ⟨bmf0, 21, none⟩))] [0, 1] zsQ fun j => ?_
 refine zH hO (i := 0) rfl (off := 21) rfl rfl rfl rfl (Nat.le_of_ble_eq_true rfl) rfl fun σ hO => ?_
 have hO := zs74 hO
 refine zH hO (i := 3) rfl (off := 0) rfl rfl rfl rfl (Nat.le_of_ble_eq_true rfl) rfl fun σ hO => ?_
 have hO := zs74 hO
 refine ze (zg ?_)
 cases hF
 exact (hQ _ _ _ _ _ rfl hO hL ⟨_, _, _, _, _, _, rfl, rfl, (rmf0_0.le hL), (wmf0_18.le hL), (rmf0_19.le hL), (wmf0_20.le hL)⟩).2
def a29 : ziM := ⟨21, 5, 2, zga⟩
theorem s29 : zj7 Tryz.prog Tryz.f29 = some a29.fn := by kernel_rfl
def a17 : zg2 := ⟨45, [.c 2 false 1], (.pre (.reg [.s ⟨(some 1), .box 30 (.t 0), []⟩,
 .s ⟨(some 2), .alloc 5 [(.int .u8 0)], []⟩])
(.pre (.seq (.reg [.s ⟨(some 6), .load false 1 (.t 1), []⟩,
 .s ⟨(some 7), .pnil false (.t 6), []⟩])
(.cond (.t 7) (.seq (.reg [.s ⟨none, .store 1 (.t 2) (.c (.int .u8 5)), []⟩])
.ret)
.skip))
(.pre (.seq (.reg [.s ⟨(some 8), .load false 1 (.t 1), []⟩,
 .s ⟨(some 9), .nilchk (.t 8), []⟩,
 .s ⟨(some 10), .faddr 21 (.t 9), []⟩,
 .s ⟨(some 11), .load false 1 (.t 10), []⟩,
 .s ⟨(some 12), .bin .neq (.t 11) (.c (.int .u8 0)), []⟩])
(.cond (.t 12) (.seq (.reg [.s ⟨(some 13), .load false 1 (.t 1), []⟩,
 .s ⟨(some 14), .nilchk (.t 13), []⟩,
 .s ⟨(some 15), .faddr 21 (.t 14), []⟩,
 .s ⟨(some 16), .load false 1 (.t 15), []⟩,
 .s ⟨none, .store 1 (.t 2) (.t 16), []⟩])
.ret)
.skip))
(.dfr 17 29 [(.t 1), (.t 2)] zkl))))⟩
theorem s17 : ziK Tryz.prog [0, 1, 2] Tryz.f17 = some a17.fn := by kernel_rfl
theorem zoS {v : Value} {k : UInt8} (h : zeq v = some k) : v = .iface 59 (.int .u8 (k.toNat : Int)) := by
 unfold zeq at h
 split at h
 ·rename_i n
  split at h
  ·rename_i hc
   injection h with h
   subst h
   have : ((UInt8.ofNat n.toNat).toNat : Int) = n := by
    rw [UInt8.toNat_ofNat']
    omega
   rw [this]
  ·cases h
 ·cases h
theorem zmQ {τ : Hp} {q0 : zh} {bm0 : Nat} {vm0_0 vm0_18 : Value} {om0_18 : Ob} {vm0_19 vm0_20 : Value} {om0_20 : Ob} (rm0_0 : RdT Ty.u8 τ vm0_0 q0.code) (wm0_18 : zd (Ty.int .i64) 2 τ vm0_18 q0.words om0_18) (rm0_19 : RdT (Ty.int .i64) τ vm0_19 q0.input) (wm0_20 : zd (Ty.int .i64) 2 τ vm0_20 q0.out om0_20) {rr : Int × zh} (hF : zdl q0 = some rr) :
  Ctr Tryz.prog 17 #[.pointer (some ⟨bm0, 0, none⟩)] τ [zI bm0 vm0_0 q0.pc q0.regs vm0_18 vm0_19 vm0_20 q0.how.toNat q0.halting, om0_18, om0_20] (fun v τ' vs' => ∃ (u0_0 u0_18 : Value) (y0_18 : Ob) (u0_19 u0_20 : Value) (y0_20 : Ob), v = .int .u8 rr.1 ∧ vs' = [zI bm0 u0_0 rr.2.pc rr.2.regs u0_18 u0_19 u0_20 rr.2.how.toNat rr.2.halting, y0_18, y0_20] ∧ RdT Ty.u8 τ' u0_0 rr.2.code ∧ zd (Ty.int .i64) 2 τ' u0_18 rr.2.words y0_18 ∧ RdT (Ty.int .i64) τ' u0_19 rr.2.input ∧ zd (Ty.int .i64) 2 τ' u0_20 rr.2.out y0_20) := by
 obtain ⟨Am0_0, cm0_0, rfl, -⟩ := rm0_0.form
 obtain ⟨Am0_18, cm0_18, rfl, -⟩ := wm0_18.form
 obtain ⟨Am0_19, cm0_19, rfl, -⟩ := rm0_19.form
 obtain ⟨Am0_20, cm0_20, rfl, -⟩ := wm0_20.form
 refine zrQ (J := [0, 1, 2]) (af := a17) (args := [.pointer (some ⟨bm0, 0, none⟩)]) hm Tryz.func17 s17 rfl fun w0 σ hO Q hQ => ?_
 unfold zdl at hF
 have hL := Hp.le.refl τ
 show zeH _ _ _ a17.body _ _ _
 unfold a17
 dsimp only [zeH]
 refine zV (zbq (n := 1) hO rfl rfl fun b2 σ hO => ?_)
 have hO := zs74 hO
 refine zbE hO fun b3 σ hO => ?_
 have hO := zs75 hO
 refine ze (zg ?_)
 dsimp only [thn]
 refine zj hO [3] [(0, zs3 bm0), (1, zs3 b2), (2, zs3 b3), (7, .bool false)] (And.intro (And.intro rfl rfl) zsP) fun j => ?_
 refine z5 (zbU rfl ?_)
 refine zl (zg ?_)
 dsimp only [thn]
 refine zj hO [3, 0] [(0, zs3 bm0), (1, zs3 b2), (2, zs3 b3), (12, .bool ((q0.how.toNat : Int) != 0))] (And.intro (And.intro rfl rfl) (And.intro (And.intro rfl rfl) zsP)) fun j => ?_
 refine z5 ?_
 rcases z1 hF with ⟨hb4, hF⟩ | ⟨hb4, hF⟩
 ·refine zcT (zs4 hb4) ?_
  refine zb (zZ hO 4 [3, 0] [(0, zs3 bm0), (2, zs3 b3), (16, .int .u8 (q0.how.toNat : Int))] (And.intro (And.intro rfl rfl) (And.intro (And.intro rfl rfl) zsO)) fun j => ?_)
  refine zH hO (i := 4) rfl (off := 0) rfl rfl rfl rfl (Nat.le_of_ble_eq_true rfl) rfl fun σ hO => ?_
  have hO := zs75 hO
  refine ze (zp ?_)
  injection hF with hF
  subst hF
  have hV0 := hO.val (i := 4) rfl (off := 0) (agg := false) (n := 1) rfl
  have hO := hO.sel [0, 1, 2] (by decide)
  exact hQ _ _ _ _ _ (zbH rfl (hV0) rfl) hO hL ⟨_, _, _, _, _, _, rfl, rfl, rm0_0, wm0_18, rm0_19, wm0_20⟩
 ·refine zbU (zs4 hb4) ?_
  refine zl (zg ?_)
  dsimp only [thn]
  obtain ⟨τ6, h6, m6, hO⟩ := hO.shareV (i := 3) rfl
  have hO := hO.sel [0, 1, 2, 4] (by decide)
  have hL := hL.trans h6
  have rm0_0 := rm0_0.le h6
  have wm0_18 := wm0_18.le h6
  have rm0_19 := rm0_19.le h6
  have wm0_20 := wm0_20.le h6
  cases hB : zgY q0 0 with
  | none => rw [hB] at hF; cases hF
  | some r =>
   rw [hB] at hF
   cases r with
   | ok c =>
    replace hF : some ((c.2.toNat : Int), c.1) = some rr := hF
    injection hF with hF
    subst hF
    refine ⟨fun _ _ => False, fun _ _ _ h => h.elim, ?_⟩
    refine (congrArg (fun z => wpn _ _ _ _ z _) (zD [(0, zs3 bm0), (1, zs3 b2), (2, zs3 b3)] _ ⟨rfl, rfl, rfl, trivial⟩)).mp ?_
    refine zlp rm0_0 wm0_18 rm0_19 wm0_20 m6 hB (fun _ _ _ _ _ _ h => h.elim) hO fun e σ' rs τ' vs' _ hO' hle hK => ?_
    obtain ⟨u0, u18, y18, u19, u20, y20, _, rfl, f0, f18, f19, f20⟩ := hK
    have hV0 := hO'.val (i := 3) rfl (off := 0) (agg := false) (n := 1) rfl
    have hO2 := hO'.sel [0, 1, 2] (by decide)
    have key : e 2 = .pointer (some ⟨b3, 0, none⟩) → zea Tryz.prog w0 29 #[.pointer (some ⟨b2, 0, none⟩), .pointer (some ⟨b3, 0, none⟩)] .returning σ' fun u' σ'' => settle u' = .returning ∧ Q .ret e σ'' := fun hD => by
     refine zmF (args := [.pointer (some ⟨b2, 0, none⟩), .pointer (some ⟨b3, 0, none⟩)]) hm Tryz.func29 s29 rfl ?_
     show wpn _ _ zga _ _ _
     unfold zga
     refine zb (zj hO' [] [(7, .bool true)] zsM fun j => ?_)
     refine zcT rfl ?_
     refine zp ?_
     exact ⟨.inl rfl, rfl, hQ _ _ _ _ _ (zbH hD hV0 rfl) hO2 (hL.trans hle) ⟨_, _, _, _, _, _, rfl, rfl, f0, f18, f19, f20⟩⟩
    exact ⟨.inl ⟨.inl rfl, fun hD => key (hD 2 (by decide))⟩, .inl ⟨.inr rfl, fun hD => key (hD 2 (by decide))⟩⟩
   | error c =>
    replace hF : ((zeq c.1).bind fun k => (ziI c.2.1 c.2.2 k).bind fun c => some ((c.2.toNat : Int), c.1)) = some rr := hF
    obtain ⟨k, hk, hF⟩ := zs8 hF
    obtain ⟨c', hR, hF⟩ := zs8 hF
    injection hF with hF
    subst hF
    have hk := zoS hk
    refine ⟨fun ch σ' => ∃ τ' vs', Obs τ' σ' vs' ∧ Hp.le τ6 τ' ∧ znJ bm0 b3 (.error c) ch τ' vs', fun ch e σ' hpn hD => ?_, ?_⟩
    rotate_left
    ·refine (congrArg (fun z => wpn _ _ _ _ z _) (zD [(0, zs3 bm0), (1, zs3 b2), (2, zs3 b3)] _ ⟨rfl, rfl, rfl, trivial⟩)).mp ?_
     exact zlp rm0_0 wm0_18 rm0_19 wm0_20 m6 hB (fun ch σ' τ' vs' h1 h2 h3 => ⟨τ', vs', h1, h2, h3⟩) hO fun e σ' rs τ' vs' _ hO' hle hK => hK.elim
    ·obtain ⟨τ', vs', hO', hle, u0, u18, y18, u19, u20, y20, rfl, rfl, f0, f18, f19, f20⟩ := hpn
     refine zmF (args := [.pointer (some ⟨b2, 0, none⟩), .pointer (some ⟨b3, 0, none⟩)]) hm Tryz.func29 s29 rfl ?_
     show wpn _ _ zga _ _ _
     rw [hk]
     refine (congrArg (fun z => wpn _ _ _ _ z _) (zD [(0, zs3 b2), (1, zs3 b3), (2, .iface 59 (.int .u8 (k.toNat : Int)))] _ ⟨rfl, rfl, rfl, trivial⟩)).mp ?_
     refine zsu f0 f18 f19 f20 (m6.le hle) hR hO' fun e2 σ2 rs2 τ2 vs2 _ hO2 hle2 hK2 => ?_
     obtain ⟨v0, v18, z18, v19, v20, z20, _, rfl, g0, g18, g19, g20⟩ := hK2
     have hV0 := hO2.val (i := 3) rfl (off := 0) (agg := false) (n := 1) rfl
     have hO3 := hO2.sel [0, 1, 2] (by decide)
     have hq := hQ _ _ _ _ _ (zbH (hD 2 (by decide)) hV0 rfl) hO3 ((hL.trans hle).trans hle2) ⟨_, _, _, _, _, _, rfl, rfl, g0, g18, g19, g20⟩
     exact ⟨⟨.inl rfl, rfl, hq⟩, .inr rfl, rfl, hq⟩
end Go.Proofs.YtgkllgoelpfdkaaGreat
