import Derived.Test.YtnhboaaikehpoaaG2
namespace Go.Proofs.Ytnhboaaikehpoaa
open Go.Ab Go.RowKit
set_option linter.unusedVariables false
set_option linter.unusedSimpArgs false
set_option maxRecDepth 10000
set_option maxHeartbeats 1000000
theorem zrv {τ : Hp}   {rr : (List (List ByteArray))} (hF : zjx  = some rr) :
  Ctr Try.prog 85 #[] τ [] (fun v τ' vs' => ∃ (v0 : Value) (o0 : Ob), v = v0 ∧ vs' = [o0] ∧ ze (Ty.slice Ty.str) 69 τ' v0 rr o0) := by
 refine zbl (args := []) hm Try.func85 s85 rfl fun w0 σ hO Q hQ => ?_
 unfold zjx at hF
 have hL := Hp.le.refl τ
 show wpn _ _ a85.body _ _ _
 unfold a85
 dsimp only
 refine zU hO [] [] (trivial) fun j => ?_
 refine zt (T := Ty.str) (l := ([ztk] : List ByteArray)) (cs := [.string ztk]) hO rfl ⟨[.string ztk], _, rfl, rfl, rfl⟩ rfl (by decide) fun _ σ o3 w4 hO => ?_
 obtain ⟨A1, c2, rfl, -⟩ := w4.form
 have hO := zt51 hO
 refine zt (T := Ty.str) (l := ([zto] : List ByteArray)) (cs := [.string zto]) hO rfl ⟨[.string zto], _, rfl, rfl, rfl⟩ rfl (by decide) fun _ σ o7 V hO => ?_
 obtain ⟨A5, c6, rfl, -⟩ := V.form
 have hO := zt52 hO
 refine zt (T := Ty.str) (l := ([ztp, ztq, ztz, ztr, ztA, zts] : List ByteArray)) (cs := [.string ztp, .string ztq, .string ztz, .string ztr, .string ztA, .string zts]) hO (by kernel_rfl) ⟨[.string ztp], _, rfl, rfl, ⟨[.string ztq], _, rfl, rfl, ⟨[.string ztz], _, rfl, rfl, ⟨[.string ztr], _, rfl, rfl, ⟨[.string ztA], _, rfl, rfl, ⟨[.string zts], _, rfl, rfl, rfl⟩⟩⟩⟩⟩⟩ rfl (by decide) fun _ σ c5 w hO => ?_
 obtain ⟨A9, X, rfl, -⟩ := w.form
 have hO := zt53 hO
 refine zt (T := Ty.str) (l := ([ztB, ztf] : List ByteArray)) (cs := [.string ztB, .string ztf]) hO rfl ⟨[.string ztB], _, rfl, rfl, ⟨[.string ztf], _, rfl, rfl, rfl⟩⟩ rfl (by decide) fun _ σ c7 o hO => ?_
 obtain ⟨Y, Z, rfl, -⟩ := o.form
 have hO := zt54 hO
 refine zt (T := Ty.str) (l := ([zty, ztC, ztD] : List ByteArray)) (cs := [.string zty, .string ztC, .string ztD]) hO rfl ⟨[.string zty], _, rfl, rfl, ⟨[.string ztC], _, rfl, rfl, ⟨[.string ztD], _, rfl, rfl, rfl⟩⟩⟩ rfl (by decide) fun _ σ c8 g hO => ?_
 obtain ⟨b0, b1, rfl, -⟩ := g.form
 have hO := zt55 hO
 obtain ⟨_, z, h, hO⟩ := w4.share hO (i := 0) rfl
 have hL := hL.trans z
 have V := V.le z
 have w := w.le z
 have o := o.le z
 have g := g.le z
 have hO := zt55 hO
 obtain ⟨_, B, t, hO⟩ := V.share hO (i := 1) rfl
 have hL := hL.trans B
 have h := h.le B
 have w := w.le B
 have o := o.le B
 have g := g.le B
 have hO := zt55 hO
 obtain ⟨_, E, G, hO⟩ := w.share hO (i := 2) rfl
 have hL := hL.trans E
 have h := h.le E
 have t := t.le E
 have o := o.le E
 have g := g.le E
 have hO := zt55 hO
 obtain ⟨_, I, U, hO⟩ := o.share hO (i := 3) rfl
 have hL := hL.trans I
 have h := h.le I
 have t := t.le I
 have G := G.le I
 have g := g.le I
 have hO := zt55 hO
 obtain ⟨_, M, c1, hO⟩ := g.share hO (i := 4) rfl
 have hL := hL.trans M
 have h := h.le M
 have t := t.le M
 have G := G.le M
 have U := U.le M
 have hO := zt55 hO
 refine zt (T := (Ty.slice Ty.str)) (l := ([([ztk] : List ByteArray), ([zto] : List ByteArray), ([ztp, ztq, ztz, ztr, ztA, zts] : List ByteArray), ([ztB, ztf] : List ByteArray), ([zty, ztC, ztD] : List ByteArray)] : List (List ByteArray))) (cs := [zt7 A1 ([ztk] : List ByteArray) c2, zt7 A5 ([zto] : List ByteArray) c6, zt7 A9 ([ztp, ztq, ztz, ztr, ztA, zts] : List ByteArray) X, zt7 Y ([ztB, ztf] : List ByteArray) Z, zt7 b0 ([zty, ztC, ztD] : List ByteArray) b1]) hO rfl ⟨[zt7 A1 ([ztk] : List ByteArray) c2], _, rfl, ⟨_, rfl, h⟩, ⟨[zt7 A5 ([zto] : List ByteArray) c6], _, rfl, ⟨_, rfl, t⟩, ⟨[zt7 A9 ([ztp, ztq, ztz, ztr, ztA, zts] : List ByteArray) X], _, rfl, ⟨_, rfl, G⟩, ⟨[zt7 Y ([ztB, ztf] : List ByteArray) Z], _, rfl, ⟨_, rfl, U⟩, ⟨[zt7 b0 ([zty, ztC, ztD] : List ByteArray) b1], _, rfl, ⟨_, rfl, c1⟩, rfl⟩⟩⟩⟩⟩ rfl (by decide) fun _ σ c9 b2 hO => ?_
 obtain ⟨c3, c4, rfl, -⟩ := b2.form
 have hO := zt56 hO
 refine zU hO [] [(0, zt7 c3 ([([ztk] : List ByteArray), ([zto] : List ByteArray), ([ztp, ztq, ztz, ztr, ztA, zts] : List ByteArray), ([ztB, ztf] : List ByteArray), ([zty, ztC, ztD] : List ByteArray)] : List (List ByteArray)) c4)] ztK fun j => ?_
 refine z9 ?_
 cases hF
 have hO := hO.sel [5]
 exact hQ _ _ _ _ _ rfl hO hL ⟨_, _, rfl, rfl, b2⟩
end Go.Proofs.Ytnhboaaikehpoaa
