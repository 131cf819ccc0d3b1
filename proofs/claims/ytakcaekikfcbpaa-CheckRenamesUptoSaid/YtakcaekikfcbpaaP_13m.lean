import Derived.Test.YtakcaekikfcbpaaP_13k
import Derived.Test.YtakcaekikfcbpaaRows
import Derived.Test.YtakcaekikfcbpaaProg
import Derived.KernelRfl
namespace Go.Proofs.Ytakcaekikfcbpaa
open Go.Ab Go.RowKit
set_option linter.unusedVariables false
set_option linter.unusedSimpArgs false
set_option maxRecDepth 10000
theorem bulkAll_sum {H : Type} : ∀ l : List (DataW H), Rows.uptoBulkAll l = (l.map Rows.uptoBulk).sum
 | [] => by rw [Rows.uptoBulkAll]; rfl
 | d :: l => by rw [Rows.uptoBulkAll, bulkAll_sum l]; rfl
def zcY {H α : Type} (N : Nat) (enc : TypeId × Value → H) (P : Program) (W : World) (t : TypeId) (T : Ty α) (m : α → Nat) : Prop :=
 ∀ (fuel : Nat) (cs : List Value) (x : DataW H × List MemPlace), fuel < N → DataW.trod enc P W 0 (fun _ => true) true fuel t cs = some x → ∃ a, T.R (foreign W) a cs ∧ m a ≤ Rows.uptoBulk x.1
section
variable {H α : Type} {N : Nat} {enc : TypeId × Value → H} {P : Program} {W : World} {t e : TypeId} {T : Ty α} {m : α → Nat}
theorem zio (hu : P.underlying t = some (.int .u8)) : zcY N enc P W t Ty.u8 (fun _ => 0) := fun fuel cs x _ hx => by
 obtain ⟨n, rfl, _, hw⟩ := DataW.trod_int hu hx
 have hb := zqc hw
 refine ⟨UInt8.ofNat n.toNat, ?_, Nat.zero_le _⟩
 show [Value.int .u8 n] = [.int .u8 ((UInt8.ofNat n.toNat).toNat : Nat)]
 rw [UInt8.toNat_ofNat_of_lt' (show n.toNat < 256 by omega)]
 congr 2
 omega
theorem zgP (hu : P.underlying t = some (.int .i64)) : zcY N enc P W t (Ty.int .i64) (fun _ => 0) := fun fuel cs x _ hx => by
 obtain ⟨n, rfl, _, hw⟩ := DataW.trod_int hu hx
 exact ⟨n, rfl, Nat.zero_le _⟩
theorem zde (hu : P.underlying t = some .string) : zcY N enc P W t Ty.str (fun s => s.size + 1) := fun fuel cs x _ hx => by
 obtain ⟨s, rfl, rfl, hs⟩ := DataW.trod_string hu hx
 refine ⟨s, rfl, ?_⟩
 rw [Rows.uptoBulk]
 simp
theorem zbJ {fs : Array Field} {xs : List (DataW H × List MemPlace)} {n : Nat} {cs : List Value} (hxl : xs.length = fs.size) (hn : n < N)
  (hf : ∀ (i : Nat) (f : Field), fs[i]? = some f → DataW.trod enc P W 0 (fun _ => true) true n f.type ((cs.drop f.offset).take (P.cellsOf f.type)) = xs[i]?) (i : Nat) {f : Field} (hi : fs[i]? = some f) {k : Nat} (hk : P.cellsOf f.type = k)
  (hT : zcY N enc P W f.type T m) : ∃ a y, xs[i]? = some y ∧ T.R (foreign W) a ((cs.drop f.offset).take k) ∧ m a ≤ Rows.uptoBulk y.1 := by
 have h := hf i f hi
 have hlt : i < xs.length := by
  rw [hxl]
  exact (Array.getElem?_eq_some_iff.1 hi).1
 rw [List.getElem?_eq_getElem hlt, hk] at h
 obtain ⟨a, h1, h2⟩ := hT _ _ _ hn h
 exact ⟨a, xs[i], List.getElem?_eq_getElem hlt, h1, h2⟩
theorem zdE (hu : P.underlying t = some (.slice e)) (hk : P.cellsOf e = T.sz) (hT : zcY N enc P W e T m) : zcY N enc P W t (Ty.slice T) (fun l => (l.map m).sum + 1) := fun fuel cs x hN hx => by
 rcases DataW.trod_slice hu hx with ⟨rfl, hd⟩ | ⟨a, len, cap, elems, rest, n, rfl, rfl, rfl, _, hl, hm, hlen, hel, _, _⟩
 ·refine ⟨[], ⟨_, rfl, RdT.nil T _⟩, ?_⟩
  rw [hd]
  dsimp only
  rw [Rows.uptoBulk]
  exact Nat.le_refl _
 ·have key : ∀ k, k ≤ len → ∃ l : List α, l.length = k ∧ (l.map m).sum ≤ ((elems.take k).map (fun y => Rows.uptoBulk y.1)).sum ∧ ∃ cells : List Value, cells.length = k * T.sz ∧ Chunks T (foreign W) l cells ∧ ∀ j u, cells[j]? = some u → Go.Ab.look (foreign W) (a.add j) = some u := by
   intro k
   induction k with
   | zero => intro _; exact ⟨[], rfl, Nat.zero_le _, [], by simp, rfl, fun j u h => by simp at h⟩
   | succ k ih =>
    intro hm1
    obtain ⟨l, h1, h2, cells, h3, h4, h5⟩ := ih (by omega)
    have he := hel k (by omega)
    rw [List.getElem?_eq_getElem (by omega)] at he
    obtain ⟨c, hc, hx2⟩ := Option.bind_eq_some_iff.1 he
    obtain ⟨y, hy, hq⟩ := hT _ _ _ (by omega) hx2
    obtain ⟨_, hcl, hcc⟩ := World.cells?_some hc
    rw [hk] at hcl hcc
    refine ⟨l ++ [y], by simp [h1], ?_, cells ++ c, by rw [List.length_append, h3, hcl, Nat.succ_mul], ?_, fun j u hu => ?_⟩
    ·rw [List.take_succ_eq_append_getElem (by omega), List.map_append, List.map_append, List.sum_append, List.sum_append]
     simp only [List.map_cons, List.map_nil, List.sum_cons, List.sum_nil]
     omega
    ·exact h4.append (Chunks.single hy)
    ·rw [List.getElem?_append] at hu
     split at hu
     ·exact h5 j u hu
     ·rename_i hj
      have hlt := (List.getElem?_eq_some_iff.1 hu).1
      have := hcc (j - cells.length) (by omega)
      rw [hu] at this
      have e2 : (a.add (k * T.sz)).add (j - cells.length) = a.add j := by
       have hj2 : k * T.sz ≤ j := by rw [← h3]; omega
       rw [h3, zf8, Nat.add_sub_cancel' hj2]
      rw [e2] at this
      exact zqd this
  obtain ⟨l, h1, h2, cells, h3, h4, h5⟩ := key len (Nat.le_refl _)
  refine ⟨l, ⟨_, rfl, cells, ⟨some a, cap, by rw [h1], by first | exact hl | (rw [h1]; exact hl), by rw [h1]; exact h3, fun j u hu => ⟨a, rfl, h5 j u hu⟩⟩, h4⟩, ?_⟩
  rw [List.take_of_length_le (by omega)] at h2
  rw [Rows.uptoBulk, bulkAll_sum, bulkAll_sum, List.map_map]
  show (l.map m).sum + 1 ≤ (elems.map (fun y => Rows.uptoBulk y.1)).sum + _ + 1
  omega
def GcS {H : Type} (xs : List (DataW H × List MemPlace)) (k : Nat) (ys : List (DataW H × List MemPlace)) : Prop := (ys.map (fun y => Rows.uptoBulk y.1)).sum ≤ ((xs.drop k).map (fun y => Rows.uptoBulk y.1)).sum
theorem gc0 {xs : List (DataW H × List MemPlace)} {k : Nat} : GcS xs k [] := Nat.zero_le _
theorem gc1 {xs : List (DataW H × List MemPlace)} {k : Nat} {y : DataW H × List MemPlace} {ys : List (DataW H × List MemPlace)} (h : xs[k]? = some y) (hs : GcS xs (k + 1) ys) : GcS xs k (y :: ys) := by
 obtain ⟨hk, rfl⟩ := List.getElem?_eq_some_iff.1 h
 unfold GcS at *
 rw [List.drop_eq_getElem_cons hk]
 simp only [List.map_cons, List.sum_cons]
 omega
theorem gcA {xs : List (DataW H × List MemPlace)} : Rows.uptoBulk (.agg (xs.map (·.1))) = ((xs.drop 0).map (fun y => Rows.uptoBulk y.1)).sum + 1 := by
 rw [Rows.uptoBulk, bulkAll_sum, List.map_map, List.drop_zero]
 rfl
end
theorem ziv : ∀ l : List zc, gEs l = (l.map gE).sum
 | [] => rfl
 | x :: l => by
  show gE x + gEs l = gE x + (l.map gE).sum
  rw [ziv l]
theorem zg6 : ∀ l : List Stm, gSs l = (l.map gS).sum
 | [] => rfl
 | x :: l => by
  show gS x + gSs l = gS x + (l.map gS).sum
  rw [zg6 l]
def zjo (s : zbh) : Nat := 1 + s.Fields.length
def gPa (x : zbM) : Nat := 1 + x.Name.size
def gDe (d : zG) : Nat := 1 + gPs d.Params + gSs d.Body
theorem zkD : ∀ l : List zbM, gPs l = (l.map gPa).sum
 | [] => rfl
 | x :: l => by
  show 1 + x.Name.size + gPs l = (1 + x.Name.size) + (l.map gPa).sum
  rw [zkD l]
theorem zkQ : ∀ l : List zG, gDs l = (l.map gDe).sum
 | [] => rfl
 | x :: l => by
  show 1 + gPs x.Params + gSs x.Body + gDs l = (1 + gPs x.Params + gSs x.Body) + (l.map gDe).sum
  rw [zkQ l]
theorem zkV : ∀ l : List zbh, l.length + szF l = (l.map zjo).sum
 | [] => rfl
 | x :: l => by
  have := zkV l
  show (l.length + 1) + (x.Fields.length + szF l) = (1 + x.Fields.length) + (l.map zjo).sum
  omega
theorem zo2 (l : List ByteArray) : l.length ≤ (l.map (fun s => s.size + 1)).sum := by
 induction l with
 | nil => exact Nat.le_refl _
 | cons x l ih => simp only [List.length_cons, List.map_cons, List.sum_cons]; omega
theorem zjp {H : Type} {enc : TypeId × Value → H} {W : World} (N : Nat) : zcY N enc Try.prog W 50 zoO (fun _ => 0) := by
 intro fuel cs x hN h
 obtain ⟨xs, n, rfl, rfl, hl, hxl, hf⟩ := DataW.trod_struct Try.underlying50 h
 rw [show Try.prog.cellsOf 50 = 3 from by kernel_rfl] at hl
 match cs, hl with
 | [c0, c1, c2], _ =>
  obtain ⟨a0, y0, x0, r0, g0⟩ := zbJ hxl (show n < N by omega) hf 0 rfl (k := 1) (by kernel_rfl) (zio Try.underlying5)
  have e0 : ([c0] : List Value) = [.int .u8 a0.toNat] := r0
  simp only [List.cons.injEq, and_true] at e0
  obtain ⟨rfl⟩ := e0
  obtain ⟨a1, y1, x1, r1, g1⟩ := zbJ hxl (show n < N by omega) hf 1 rfl (k := 1) (by kernel_rfl) (zgP Try.underlying3)
  have e1 : ([c1] : List Value) = [.int .i64 a1] := r1
  simp only [List.cons.injEq, and_true] at e1
  obtain ⟨rfl⟩ := e1
  obtain ⟨a2, y2, x2, r2, g2⟩ := zbJ hxl (show n < N by omega) hf 2 rfl (k := 1) (by kernel_rfl) (zde Try.underlying9)
  have e2 : ([c2] : List Value) = [.string a2] := r2
  simp only [List.cons.injEq, and_true] at e2
  obtain ⟨rfl⟩ := e2
  have gs : GcS xs 0 [y0, y1, y2] := (gc1 x0 (gc1 x1 (gc1 x2 gc0)))
  unfold GcS at gs
  simp only [List.map_cons, List.map_nil, List.sum_cons, List.sum_nil] at gs
  refine ⟨⟨a0, a1, a2⟩, rfl, ?_⟩
  exact Nat.zero_le _
theorem zpd {H : Type} {enc : TypeId × Value → H} {W : World} (N : Nat) : zcY N enc Try.prog W 71 z5 gE := by
 induction N with
 | zero => exact fun _ _ _ h => absurd h (Nat.not_lt_zero _)
 | succ N ih =>
 intro fuel cs x hN h
 obtain ⟨xs, n, rfl, rfl, hl, hxl, hf⟩ := DataW.trod_struct Try.underlying71 h
 rw [show Try.prog.cellsOf 71 = 6 from by kernel_rfl] at hl
 match cs, hl with
 | [c0, c1, c2, c3, c4, c5], _ =>
  obtain ⟨a0, y0, x0, r0, g0⟩ := zbJ hxl (show n < N by omega) hf 0 rfl (k := 1) (by kernel_rfl) (zio Try.underlying5)
  have e0 : ([c0] : List Value) = [.int .u8 a0.toNat] := r0
  simp only [List.cons.injEq, and_true] at e0
  obtain ⟨rfl⟩ := e0
  obtain ⟨a1, y1, x1, r1, g1⟩ := zbJ hxl (show n < N by omega) hf 1 rfl (k := 1) (by kernel_rfl) (zgP Try.underlying2)
  have e1 : ([c1] : List Value) = [.int .i64 a1] := r1
  simp only [List.cons.injEq, and_true] at e1
  obtain ⟨rfl⟩ := e1
  obtain ⟨a2, y2, x2, r2, g2⟩ := zbJ hxl (show n < N by omega) hf 2 rfl (k := 1) (by kernel_rfl) (zde Try.underlying9)
  have e2 : ([c2] : List Value) = [.string a2] := r2
  simp only [List.cons.injEq, and_true] at e2
  obtain ⟨rfl⟩ := e2
  obtain ⟨a3, y3, x3, r3, g3⟩ := zbJ hxl (show n < N by omega) hf 3 rfl (k := 1) (by kernel_rfl) (zde Try.underlying9)
  have e3 : ([c3] : List Value) = [.string a3] := r3
  simp only [List.cons.injEq, and_true] at e3
  obtain ⟨rfl⟩ := e3
  obtain ⟨a4, y4, x4, r4, g4⟩ := zbJ hxl (show n < N by omega) hf 4 rfl (k := 1) (by kernel_rfl) (zde Try.underlying9)
  have e4 : ([c4] : List Value) = [.string a4] := r4
  simp only [List.cons.injEq, and_true] at e4
  obtain ⟨rfl⟩ := e4
  obtain ⟨a5, y5, x5, r5, g5⟩ := zbJ hxl (show n < N by omega) hf 5 rfl (k := 1) (by kernel_rfl) (zdE Try.underlying69 (by kernel_rfl) ih)
  obtain ⟨v5_0, e5, s5_0⟩ : ∃ v5_0, ([c5] : List Value) = [v5_0] ∧ RdT z5 (foreign W) v5_0 a5 := r5
  simp only [List.cons.injEq, and_true] at e5
  obtain ⟨rfl⟩ := e5
  have gs : GcS xs 0 [y0, y1, y2, y3, y4, y5] := (gc1 x0 (gc1 x1 (gc1 x2 (gc1 x3 (gc1 x4 (gc1 x5 gc0))))))
  unfold GcS at gs
  simp only [List.map_cons, List.map_nil, List.sum_cons, List.sum_nil] at gs
  refine ⟨⟨a0, a1, a2, a3, a4, a5⟩, zcR ⟨_, rfl, s5_0⟩, ?_⟩
  show 1 + a2.size + gEs a5 ≤ _
  rw [ziv, gcA]
  omega
theorem zpn {H : Type} {enc : TypeId × Value → H} {W : World} (N : Nat) : zcY N enc Try.prog W 73 zX gS := by
 induction N with
 | zero => exact fun _ _ _ h => absurd h (Nat.not_lt_zero _)
 | succ N ih =>
 intro fuel cs x hN h
 obtain ⟨xs, n, rfl, rfl, hl, hxl, hf⟩ := DataW.trod_struct Try.underlying73 h
 rw [show Try.prog.cellsOf 73 = 11 from by kernel_rfl] at hl
 match cs, hl with
 | [c0, c1, c2, c3, c4, c5, c6, c7, c8, c9, c10], _ =>
  obtain ⟨a0, y0, x0, r0, g0⟩ := zbJ hxl (show n < N by omega) hf 0 rfl (k := 1) (by kernel_rfl) (zio Try.underlying5)
  have e0 : ([c0] : List Value) = [.int .u8 a0.toNat] := r0
  simp only [List.cons.injEq, and_true] at e0
  obtain ⟨rfl⟩ := e0
  obtain ⟨a1, y1, x1, r1, g1⟩ := zbJ hxl (show n < N by omega) hf 1 rfl (k := 1) (by kernel_rfl) (zgP Try.underlying3)
  have e1 : ([c1] : List Value) = [.int .i64 a1] := r1
  simp only [List.cons.injEq, and_true] at e1
  obtain ⟨rfl⟩ := e1
  obtain ⟨a2, y2, x2, r2, g2⟩ := zbJ hxl (show n < N by omega) hf 2 rfl (k := 1) (by kernel_rfl) (zde Try.underlying9)
  have e2 : ([c2] : List Value) = [.string a2] := r2
  simp only [List.cons.injEq, and_true] at e2
  obtain ⟨rfl⟩ := e2
  obtain ⟨a3, y3, x3, r3, g3⟩ := zbJ hxl (show n < N by omega) hf 3 rfl (k := 1) (by kernel_rfl) (zde Try.underlying9)
  have e3 : ([c3] : List Value) = [.string a3] := r3
  simp only [List.cons.injEq, and_true] at e3
  obtain ⟨rfl⟩ := e3
  obtain ⟨a4, y4, x4, r4, g4⟩ := zbJ hxl (show n < N by omega) hf 4 rfl (k := 1) (by kernel_rfl) (zde Try.underlying9)
  have e4 : ([c4] : List Value) = [.string a4] := r4
  simp only [List.cons.injEq, and_true] at e4
  obtain ⟨rfl⟩ := e4
  obtain ⟨a5, y5, x5, r5, g5⟩ := zbJ hxl (show n < N by omega) hf 5 rfl (k := 3) (by kernel_rfl) (zjp N)
  have e5 : ([c5, c6, c7] : List Value) = [.int .u8 a5.Kind.toNat, .int .i64 a5.N, .string a5.Name] := r5
  simp only [List.cons.injEq, and_true] at e5
  obtain ⟨rfl, rfl, rfl⟩ := e5
  obtain ⟨a6, y6, x6, r6, g6⟩ := zbJ hxl (show n < N by omega) hf 6 rfl (k := 1) (by kernel_rfl) (zdE Try.underlying69 (by kernel_rfl) (zpd N))
  obtain ⟨v6_0, e6, s6_0⟩ : ∃ v6_0, ([c8] : List Value) = [v6_0] ∧ RdT z5 (foreign W) v6_0 a6 := r6
  simp only [List.cons.injEq, and_true] at e6
  obtain ⟨rfl⟩ := e6
  obtain ⟨a7, y7, x7, r7, g7⟩ := zbJ hxl (show n < N by omega) hf 7 rfl (k := 1) (by kernel_rfl) (zdE Try.underlying51 (by kernel_rfl) ih)
  obtain ⟨v7_0, e7, s7_0⟩ : ∃ v7_0, ([c9] : List Value) = [v7_0] ∧ RdT zX (foreign W) v7_0 a7 := r7
  simp only [List.cons.injEq, and_true] at e7
  obtain ⟨rfl⟩ := e7
  obtain ⟨a8, y8, x8, r8, g8⟩ := zbJ hxl (show n < N by omega) hf 8 rfl (k := 1) (by kernel_rfl) (zdE Try.underlying51 (by kernel_rfl) ih)
  obtain ⟨v8_0, e8, s8_0⟩ : ∃ v8_0, ([c10] : List Value) = [v8_0] ∧ RdT zX (foreign W) v8_0 a8 := r8
  simp only [List.cons.injEq, and_true] at e8
  obtain ⟨rfl⟩ := e8
  have gs : GcS xs 0 [y0, y1, y2, y3, y4, y5, y6, y7, y8] := (gc1 x0 (gc1 x1 (gc1 x2 (gc1 x3 (gc1 x4 (gc1 x5 (gc1 x6 (gc1 x7 (gc1 x8 gc0)))))))))
  unfold GcS at gs
  simp only [List.map_cons, List.map_nil, List.sum_cons, List.sum_nil] at gs
  refine ⟨⟨a0, a1, a2, a3, a4, a5, a6, a7, a8⟩, zc4 ⟨_, _, _, rfl, s6_0, s7_0, s8_0⟩, ?_⟩
  show 1 + a2.size + gEs a6 + gSs a7 + gSs a8 ≤ _
  rw [ziv, zg6, zg6, gcA]
  omega
theorem zmA {H : Type} {enc : TypeId × Value → H} {W : World} (N : Nat) : zcY N enc Try.prog W 106 zx zjo := by
 intro fuel cs x hN h
 obtain ⟨xs, n, rfl, rfl, hl, hxl, hf⟩ := DataW.trod_struct Try.underlying106 h
 rw [show Try.prog.cellsOf 106 = 2 from by kernel_rfl] at hl
 match cs, hl with
 | [c0, c1], _ =>
  obtain ⟨a0, y0, x0, r0, g0⟩ := zbJ hxl (show n < N by omega) hf 0 rfl (k := 1) (by kernel_rfl) (zde Try.underlying9)
  have e0 : ([c0] : List Value) = [.string a0] := r0
  simp only [List.cons.injEq, and_true] at e0
  obtain ⟨rfl⟩ := e0
  obtain ⟨a1, y1, x1, r1, g1⟩ := zbJ hxl (show n < N by omega) hf 1 rfl (k := 1) (by kernel_rfl) (zdE Try.underlying80 (by kernel_rfl) (zde Try.underlying9))
  obtain ⟨v1_0, e1, s1_0⟩ : ∃ v1_0, ([c1] : List Value) = [v1_0] ∧ RdT Ty.str (foreign W) v1_0 a1 := r1
  simp only [List.cons.injEq, and_true] at e1
  obtain ⟨rfl⟩ := e1
  have gs : GcS xs 0 [y0, y1] := (gc1 x0 (gc1 x1 gc0))
  unfold GcS at gs
  simp only [List.map_cons, List.map_nil, List.sum_cons, List.sum_nil] at gs
  refine ⟨⟨a0, a1⟩, ⟨_, rfl, s1_0⟩, ?_⟩
  have := zo2 a1
  show 1 + a1.length ≤ _
  rw [gcA]
  omega
theorem znO {H : Type} {enc : TypeId × Value → H} {W : World} (N : Nat) : zcY N enc Try.prog W 78 zb2 gPa := by
 intro fuel cs x hN h
 obtain ⟨xs, n, rfl, rfl, hl, hxl, hf⟩ := DataW.trod_struct Try.underlying78 h
 rw [show Try.prog.cellsOf 78 = 4 from by kernel_rfl] at hl
 match cs, hl with
 | [c0, c1, c2, c3], _ =>
  obtain ⟨a0, y0, x0, r0, g0⟩ := zbJ hxl (show n < N by omega) hf 0 rfl (k := 1) (by kernel_rfl) (zde Try.underlying9)
  have e0 : ([c0] : List Value) = [.string a0] := r0
  simp only [List.cons.injEq, and_true] at e0
  obtain ⟨rfl⟩ := e0
  obtain ⟨a1, y1, x1, r1, g1⟩ := zbJ hxl (show n < N by omega) hf 1 rfl (k := 3) (by kernel_rfl) (zjp N)
  have e1 : ([c1, c2, c3] : List Value) = [.int .u8 a1.Kind.toNat, .int .i64 a1.N, .string a1.Name] := r1
  simp only [List.cons.injEq, and_true] at e1
  obtain ⟨rfl, rfl, rfl⟩ := e1
  have gs : GcS xs 0 [y0, y1] := (gc1 x0 (gc1 x1 gc0))
  unfold GcS at gs
  simp only [List.map_cons, List.map_nil, List.sum_cons, List.sum_nil] at gs
  refine ⟨⟨a0, a1⟩, rfl, ?_⟩
  show 1 + a0.size ≤ _
  rw [gcA]
  omega
theorem zpM {H : Type} {enc : TypeId × Value → H} {W : World} (N : Nat) : zcY N enc Try.prog W 53 zr gDe := by
 intro fuel cs x hN h
 obtain ⟨xs, n, rfl, rfl, hl, hxl, hf⟩ := DataW.trod_struct Try.underlying53 h
 rw [show Try.prog.cellsOf 53 = 7 from by kernel_rfl] at hl
 match cs, hl with
 | [c0, c1, c2, c3, c4, c5, c6], _ =>
  obtain ⟨a0, y0, x0, r0, g0⟩ := zbJ hxl (show n < N by omega) hf 0 rfl (k := 1) (by kernel_rfl) (zde Try.underlying9)
  have e0 : ([c0] : List Value) = [.string a0] := r0
  simp only [List.cons.injEq, and_true] at e0
  obtain ⟨rfl⟩ := e0
  obtain ⟨a1, y1, x1, r1, g1⟩ := zbJ hxl (show n < N by omega) hf 1 rfl (k := 1) (by kernel_rfl) (zgP Try.underlying3)
  have e1 : ([c1] : List Value) = [.int .i64 a1] := r1
  simp only [List.cons.injEq, and_true] at e1
  obtain ⟨rfl⟩ := e1
  obtain ⟨a2, y2, x2, r2, g2⟩ := zbJ hxl (show n < N by omega) hf 2 rfl (k := 1) (by kernel_rfl) (zdE Try.underlying48 (by kernel_rfl) (znO N))
  obtain ⟨v2_0, e2, s2_0⟩ : ∃ v2_0, ([c2] : List Value) = [v2_0] ∧ RdT zb2 (foreign W) v2_0 a2 := r2
  simp only [List.cons.injEq, and_true] at e2
  obtain ⟨rfl⟩ := e2
  obtain ⟨a3, y3, x3, r3, g3⟩ := zbJ hxl (show n < N by omega) hf 3 rfl (k := 3) (by kernel_rfl) (zjp N)
  have e3 : ([c3, c4, c5] : List Value) = [.int .u8 a3.Kind.toNat, .int .i64 a3.N, .string a3.Name] := r3
  simp only [List.cons.injEq, and_true] at e3
  obtain ⟨rfl, rfl, rfl⟩ := e3
  obtain ⟨a4, y4, x4, r4, g4⟩ := zbJ hxl (show n < N by omega) hf 4 rfl (k := 1) (by kernel_rfl) (zdE Try.underlying51 (by kernel_rfl) (zpn N))
  obtain ⟨v4_0, e4, s4_0⟩ : ∃ v4_0, ([c6] : List Value) = [v4_0] ∧ RdT zX (foreign W) v4_0 a4 := r4
  simp only [List.cons.injEq, and_true] at e4
  obtain ⟨rfl⟩ := e4
  have gs : GcS xs 0 [y0, y1, y2, y3, y4] := (gc1 x0 (gc1 x1 (gc1 x2 (gc1 x3 (gc1 x4 gc0)))))
  unfold GcS at gs
  simp only [List.map_cons, List.map_nil, List.sum_cons, List.sum_nil] at gs
  refine ⟨⟨a0, a1, a2, a3, a4⟩, ⟨_, _, rfl, s2_0, s4_0⟩, ?_⟩
  show 1 + gPs a2 + gSs a4 ≤ _
  rw [zkD, zg6, gcA]
  omega
theorem ob_S_api_Prog {H : Type} {enc : TypeId × Value → H} {W : World} (N : Nat) : zcY N enc Try.prog W 25 zox gP := by
 intro fuel cs x hN h
 obtain ⟨xs, n, rfl, rfl, hl, hxl, hf⟩ := DataW.trod_struct Try.underlying25 h
 rw [show Try.prog.cellsOf 25 = 2 from by kernel_rfl] at hl
 match cs, hl with
 | [c0, c1], _ =>
  obtain ⟨a0, y0, x0, r0, g0⟩ := zbJ hxl (show n < N by omega) hf 0 rfl (k := 1) (by kernel_rfl) (zdE Try.underlying22 (by kernel_rfl) (zmA N))
  obtain ⟨v0_0, e0, s0_0⟩ : ∃ v0_0, ([c0] : List Value) = [v0_0] ∧ RdT zx (foreign W) v0_0 a0 := r0
  simp only [List.cons.injEq, and_true] at e0
  obtain ⟨rfl⟩ := e0
  obtain ⟨a1, y1, x1, r1, g1⟩ := zbJ hxl (show n < N by omega) hf 1 rfl (k := 1) (by kernel_rfl) (zdE Try.underlying23 (by kernel_rfl) (zpM N))
  obtain ⟨v1_0, e1, s1_0⟩ : ∃ v1_0, ([c1] : List Value) = [v1_0] ∧ RdT zr (foreign W) v1_0 a1 := r1
  simp only [List.cons.injEq, and_true] at e1
  obtain ⟨rfl⟩ := e1
  have gs : GcS xs 0 [y0, y1] := (gc1 x0 (gc1 x1 gc0))
  unfold GcS at gs
  simp only [List.map_cons, List.map_nil, List.sum_cons, List.sum_nil] at gs
  refine ⟨⟨a0, a1⟩, ⟨_, _, rfl, s0_0, s1_0⟩, ?_⟩
  have := zkV a0
  show a0.length + szF a0 + gDs a1 ≤ _
  rw [zkQ, gcA]
  omega
end Go.Proofs.Ytakcaekikfcbpaa
