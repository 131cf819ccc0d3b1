import Derived.Test.YtakcaekikfcbpaaG2
namespace Go.Proofs.Ytakcaekikfcbpaa
open Go.Ab Go.RowKit
set_option linter.unusedVariables false
set_option linter.unusedSimpArgs false
set_option maxRecDepth 10000
set_option maxHeartbeats 1000000
theorem zoj {v : Value} {k : Int} (h : zdh v = some k) : v = .iface 134 (.int .i64 k) := by
 unfold zdh at h
 split at h
 ·injection h with h
  rw [h]
 ·cases h
def zgt : zbc := (.seq (.reg [.s ⟨(some 6), .mv (.t 1), []⟩,
 .s ⟨(some 7), .tas 134 ((.int .i64 0)) (.t 6), []⟩,
 .s ⟨(some 5), .mv (.t 7), []⟩,
 .s ⟨(some 8), .ext 0 (.t 5), []⟩,
 .s ⟨(some 9), .ext 1 (.t 5), []⟩,
 .s ⟨(some 2), .mv (.t 8), []⟩,
 .s ⟨(some 3), .mv (.t 9), []⟩])
(.seq (.reg [.s ⟨(some 10), .mv (.t 3), []⟩])
(.cond (.t 10) (.reg [.s ⟨(some 11), .mv (.t 2), []⟩,
 .s ⟨none, .store 1 (.t 0) (.t 11), []⟩])
(.seq (.reg [.s ⟨(some 12), .mv (.t 1), []⟩,
 .s ⟨(some 13), .inil true (.t 12), []⟩])
(.cond (.t 13) (.reg [.s ⟨(some 14), .mv (.t 1), []⟩,
 .s ⟨none, .pan (.t 14), []⟩])
.skip)))))
def a50 : zhm := ⟨15, 4, 1, zgt⟩
theorem s50 : zjj Try.prog Try.f50 = some a50.fn := by kernel_rfl
def zjl : zbc := (.seq (.seq (.reg [.s ⟨(some 8), .mv (.t 0), []⟩,
 .s ⟨(some 9), .nilchk (.t 8), []⟩,
 .s ⟨(some 10), .faddr 0 (.t 9), []⟩,
 .s ⟨(some 11), .faddr 0 (.t 10), []⟩,
 .s ⟨(some 12), .load false 1 (.t 11), []⟩,
 .s ⟨(some 13), .lenL (.t 12), []⟩,
 .s ⟨(some 14), .mv (.c (.int .i64 0)), []⟩])
(.block 0 (.loop (.seq (.reg [.s ⟨(some 15), .bin .lss (.t 14) (.t 13), []⟩])
(.seq (.cond (.t 15) .skip
(.exit 0))
(.seq (.block 1 (.seq (.reg [.s ⟨(some 16), .mv (.t 14), []⟩,
 .s ⟨(some 4), .mv (.t 16), []⟩])
(.seq (.reg [.s ⟨(some 17), .mv (.t 0), []⟩,
 .s ⟨(some 18), .mv (.t 4), []⟩,
 .s ⟨(some 19), .call 51 [(.t 17), (.t 18)], []⟩])
(.reg [.s ⟨(some 20), .mv (.t 2), []⟩,
 .s ⟨(some 21), .bin .add (.t 20) (.c (.int .i64 1)), []⟩,
 .s ⟨(some 2), .mv (.t 21), []⟩]))))
(.reg [.s ⟨(some 22), .bin .add (.t 14) (.c (.int .i64 1)), []⟩,
 .s ⟨(some 14), .mv (.t 22), []⟩])))))))
(.seq (.seq (.reg [.s ⟨(some 23), .mv (.t 0), []⟩,
 .s ⟨(some 24), .nilchk (.t 23), []⟩,
 .s ⟨(some 25), .faddr 0 (.t 24), []⟩,
 .s ⟨(some 26), .faddr 1 (.t 25), []⟩,
 .s ⟨(some 27), .load false 1 (.t 26), []⟩,
 .s ⟨(some 28), .lenL (.t 27), []⟩,
 .s ⟨(some 29), .mv (.c (.int .i64 0)), []⟩])
(.block 2 (.loop (.seq (.reg [.s ⟨(some 30), .bin .lss (.t 29) (.t 28), []⟩])
(.seq (.cond (.t 30) .skip
(.exit 2))
(.seq (.block 3 (.seq (.reg [.s ⟨(some 31), .mv (.t 29), []⟩,
 .s ⟨(some 5), .mv (.t 31), []⟩])
(.seq (.reg [.s ⟨(some 32), .mv (.t 0), []⟩,
 .s ⟨(some 33), .mv (.t 5), []⟩,
 .s ⟨(some 34), .call 52 [(.t 32), (.t 33)], []⟩])
(.reg [.s ⟨(some 35), .mv (.t 2), []⟩,
 .s ⟨(some 36), .bin .add (.t 35) (.c (.int .i64 1)), []⟩,
 .s ⟨(some 2), .mv (.t 36), []⟩]))))
(.reg [.s ⟨(some 37), .bin .add (.t 29) (.c (.int .i64 1)), []⟩,
 .s ⟨(some 29), .mv (.t 37), []⟩])))))))
(.seq (.reg [.s ⟨(some 38), .mv (.t 0), []⟩,
 .s ⟨(some 39), .mv (.t 0), []⟩,
 .s ⟨(some 40), .call 53 [(.t 39), (.c (.string zqC))], []⟩,
 .s ⟨(some 41), .nilchk (.t 38), []⟩,
 .s ⟨(some 42), .faddr 2 (.t 41), []⟩,
 .s ⟨(some 43), .faddr 1 (.t 42), []⟩,
 .s ⟨none, .store 1 (.t 43) (.t 40), []⟩])
(.seq (.reg [.s ⟨(some 44), .mv (.t 0), []⟩,
 .s ⟨(some 45), .nilchk (.t 44), []⟩,
 .s ⟨(some 46), .faddr 2 (.t 45), []⟩,
 .s ⟨(some 47), .faddr 1 (.t 46), []⟩,
 .s ⟨(some 48), .load false 1 (.t 47), []⟩,
 .s ⟨(some 49), .bin .geq (.t 48) (.c (.int .i64 0)), []⟩,
 .s ⟨(some 50), .call 54 [(.t 49), (.c (.int .i64 8))], []⟩])
(.seq (.par [.s ⟨(some 51), .mv (.t 0), []⟩,
 .s ⟨(some 52), .nilchk (.t 51), []⟩,
 .s ⟨(some 53), .faddr 0 (.t 52), []⟩,
 .s ⟨(some 54), .faddr 1 (.t 53), []⟩,
 .s ⟨(some 55), .load false 1 (.t 54), []⟩,
 .s ⟨(some 56), .mv (.t 0), []⟩,
 .s ⟨(some 57), .nilchk (.t 56), []⟩,
 .s ⟨(some 58), .faddr 2 (.t 57), []⟩,
 .s ⟨(some 59), .faddr 1 (.t 58), []⟩,
 .s ⟨(some 60), .load false 1 (.t 59), []⟩,
 .s ⟨(some 61), .idx 7 (.t 55) (.t 60), []⟩,
 .s ⟨(some 62), .load true 7 (.t 61), []⟩,
 .s ⟨(some 6), .alloc 53 [(.string zqA), (.int .i64 0), (.slice none 0 0), (.int .u8 0), (.int .i64 0), (.string zqA), (.slice none 0 0)], [⟨none, (some 62), .load true 7 (.t 61)⟩, ⟨none, (some 60), .load false 1 (.t 59)⟩, ⟨none, (some 55), .load false 1 (.t 54)⟩]⟩,
 .s ⟨none, .store 7 (.t 6) (.t 62), []⟩])
(.seq (.reg [.s ⟨(some 63), .faddr 2 (.t 6), []⟩,
 .s ⟨(some 64), .load false 1 (.t 63), []⟩,
 .s ⟨(some 65), .lenL (.t 64), []⟩,
 .s ⟨(some 66), .bin .eql (.t 65) (.c (.int .i64 0)), []⟩,
 .s ⟨(some 67), .mv (.t 66), []⟩,
 .g 67 true [⟨(some 68), .faddr 3 (.t 6), []⟩,
 ⟨(some 69), .faddr 0 (.t 68), []⟩,
 ⟨(some 70), .load false 1 (.t 69), []⟩,
 ⟨(some 71), .bin .eql (.t 70) (.c (.int .u8 0)), []⟩],
 .s ⟨(some 72), .pick (.t 67) (.t 71) (.c (.bool false)), []⟩,
 .s ⟨(some 73), .call 54 [(.t 72), (.c (.int .i64 8))], []⟩])
(.seq (.reg [.s ⟨(some 74), .mv (.t 2), []⟩,
 .s ⟨(some 2), .mv (.t 74), []⟩,
 .s ⟨none, .store 1 (.t 3) (.c (.int .i64 0)), []⟩])
.ret)))))))
def a34 : zeX := ⟨75, [.t 2, .c 3 false 1], (.pre (.reg [.s ⟨(some 2), .mv (.c (.int .i64 0)), []⟩,
 .s ⟨(some 3), .alloc 35 [(.int .i64 0)], []⟩])
(.dfr [.s ⟨(some 7), .mkfn (.func 50) [] [(.t 3)], []⟩] 7 [] zjl))⟩
theorem s34 : zfL Try.prog [3] Try.f34 = some a34.fn := by kernel_rfl
theorem zpA {w0 : Base} {g : Nat} {h : Int} {τ σ : Hp} {o q v z : Ob} (hO : Obs τ σ [o, q, v, z, some (g, ⟨[.int .i64 h], 35, 1, true⟩)]) :
  zcc Try.prog w0 50 #[.pointer (some ⟨g, 0, none⟩)] .returning σ fun u' σ' => settle u' = .returning ∧ Obs τ σ' [o, q, v, z, some (g, ⟨[.int .i64 h], 35, 1, true⟩)] := by
 refine zkW (args := [.pointer (some ⟨g, 0, none⟩)]) hm Try.func50 s50 rfl ?_
 show wpn _ _ zgt _ _ _
 unfold zgt
 refine zz hO [] [(1, .nilIface), (3, .bool false)] ⟨rfl, rfl, trivial⟩ fun j => ?_
 refine zz hO [] [(1, .nilIface), (10, .bool false)] ⟨rfl, rfl, trivial⟩ fun j => ?_
 refine zbz (zf0 rfl ?_)
 refine zj (zz hO [] [(13, .bool false)] ⟨rfl, trivial⟩ fun j => ?_)
 refine zf0 rfl ?_
 refine zF (zg ?_)
 exact ⟨.inr rfl, rfl, hO⟩
theorem zoh {w0 : Base} {g : Nat} {D k : Int} {τ σ : Hp} {h o q z : Ob} (hO : Obs τ σ [h, o, q, z, some (g, ⟨[.int .i64 D], 35, 1, true⟩)]) :
  zcc Try.prog w0 50 #[.pointer (some ⟨g, 0, none⟩)] (.panicking [{ v := .iface 134 (.int .i64 k), recovered := false }]) σ fun u' σ' => settle u' = .returning ∧ Obs τ σ' [h, o, q, z, some (g, ⟨[.int .i64 k], 35, 1, true⟩)] := by
 refine zkW (args := [.pointer (some ⟨g, 0, none⟩)]) hm Try.func50 s50 rfl ?_
 show wpn _ _ zgt _ _ _
 unfold zgt
 refine zz hO [] [(0, zq2 g), (2, zq1 k), (3, .bool true)] ⟨rfl, rfl, rfl, trivial⟩ fun j => ?_
 refine zz hO [] [(0, zq2 g), (2, zq1 k), (10, .bool true)] ⟨rfl, rfl, rfl, trivial⟩ fun j => ?_
 refine zbz (zht rfl ?_)
 refine zN hO 1 [] [(0, zq2 g), (11, zq1 k)] ⟨rfl, rfl, trivial⟩ fun j => ?_
 refine zE hO (i := 4) rfl (off := 0) rfl rfl rfl rfl (Nat.le_of_ble_eq_true rfl) rfl fun σ hO => ?_
 refine zf (zg ?_)
 exact ⟨.inr rfl, rfl, hO⟩
section
variable {P : Program} {w0 : Base} {Q : Exit → Env → Hp → Prop} {e : Env} {σ : Hp}
theorem zml {l : List XI} (h : wpn P w0 (.seq (.reg l) .skip) Q e σ) : wpn P w0 (.par l) Q e σ := h
end
theorem zoC {w0 : Base} {g : Nat} {j : Int} {τ σ : Hp} {o q v z : Ob} (hO : Obs τ σ [some (g, ⟨[.int .i64 j], 35, 1, true⟩), o, q, v, z]) :
  zcc Try.prog w0 50 #[.pointer (some ⟨g, 0, none⟩)] .returning σ fun u' σ' => settle u' = .returning ∧ Obs τ σ' [some (g, ⟨[.int .i64 j], 35, 1, true⟩), o, q, v, z] :=
 (zpA (hO.sel [1, 2, 3, 4, 0])).mono fun u' σ' h => ⟨h.1, h.2.sel [4, 0, 1, 2, 3]⟩
theorem zpY {w0 : Base} {W : Nat} {Y k : Int} {τ σ : Hp} {I S U V : Ob} (hO : Obs τ σ [some (W, ⟨[.int .i64 Y], 35, 1, true⟩), I, S, U, V]) :
  zcc Try.prog w0 50 #[.pointer (some ⟨W, 0, none⟩)] (.panicking [{ v := .iface 134 (.int .i64 k), recovered := false }]) σ fun u' σ' => settle u' = .returning ∧ Obs τ σ' [some (W, ⟨[.int .i64 k], 35, 1, true⟩), I, S, U, V] :=
 (zoh (hO.sel [1, 2, 3, 4, 0])).mono fun u' σ' h => ⟨h.1, h.2.sel [4, 0, 1, 2, 3]⟩
def wK (X : Nat) (q : zb) (τ' : Hp) (I S U V : Ob) : Prop := ∃ (g j o z D G : Value), I = zn X g j o q.tree.Main z q.fn D G ∧ RdT zu τ' g q.prog.Structs ∧ RdT zp τ' j q.prog.Funcs ∧ za zq 59 τ' o q.tree.Bodies S ∧ za zr 87 τ' z q.tree.Points U ∧ RdT zo τ' D q.vars ∧ za (Ty.int .i64) 3 τ' G q.scope V
theorem zna {τ : Hp} {q0 : zb} {g : Nat} {f7 f8 f9 : Value} {Y : Ob} {g3 : Value} {Z : Ob} {g5 g8 : Value} {b0 : Ob} (b2 : RdT zu τ f7 q0.prog.Structs) (b4 : RdT zp τ f8 q0.prog.Funcs) (b5 : za zq 59 τ f9 q0.tree.Bodies Y) (b6 : za zr 87 τ g3 q0.tree.Points Z) (b7 : RdT zo τ g5 q0.vars) (b8 : za (Ty.int .i64) 3 τ g8 q0.scope b0) {rr : Int × Int × zb} (hF : zdS q0 = some rr) :
  Ctr Try.prog 34 #[.pointer (some ⟨g, 0, none⟩)] τ [zn g f7 f8 f9 q0.tree.Main g3 q0.fn g5 g8, Y, Z, b0] (fun v τ' vs' => ∃ (i6 i7 i8 : Value) (i9 : Ob) (j0 : Value) (j1 : Ob) (j2 j3 : Value) (j4 : Ob), v = .tuple #[.int .i64 rr.1, .int .i64 rr.2.1] ∧ vs' = [zn g i6 i7 i8 rr.2.2.tree.Main j0 rr.2.2.fn j2 j3, i9, j1, j4] ∧ RdT zu τ' i6 rr.2.2.prog.Structs ∧ RdT zp τ' i7 rr.2.2.prog.Funcs ∧ za zq 59 τ' i8 rr.2.2.tree.Bodies i9 ∧ za zr 87 τ' j0 rr.2.2.tree.Points j1 ∧ RdT zo τ' j2 rr.2.2.vars ∧ za (Ty.int .i64) 3 τ' j3 rr.2.2.scope j4) := by
 obtain ⟨b9, c2, rfl, -⟩ := b2.form
 obtain ⟨c3, c4, rfl, -⟩ := b4.form
 obtain ⟨c5, c6, rfl, -⟩ := b5.form
 obtain ⟨c7, c8, rfl, -⟩ := b6.form
 obtain ⟨c9, d0, rfl, -⟩ := b7.form
 obtain ⟨d5, d6, rfl, -⟩ := b8.form
 refine zbu.np (Kp := fun _ _ _ => False) (zl6 (J := [3]) (af := a34) (args := [.pointer (some ⟨g, 0, none⟩)]) hm Try.func34 s34 rfl fun w0 σ hO Q hQ hP => ?_) (fun _ _ _ _ h => h)
 unfold zdS at hF
 have hL := Hp.le.refl τ
 show zdj _ _ _ a34.body _ _ _
 unfold a34
 dsimp only [zdj]
 refine zbf (zN hO 1 [] [(0, zq2 g), (2, zq1 0)] ⟨rfl, rfl, trivial⟩ fun j => ?_)
 refine zbn hO fun G σ hO => ?_
 refine zf (zg (zk ?_))
 have hO := hO.sel [4, 0, 1, 2, 3]
 have hO : Obs _ _ [some (G, ⟨[.int .i64 0], 35, 1, true⟩), zn g (.slice b9 q0.prog.Structs.length c2) (.slice c3 q0.prog.Funcs.length c4) (.slice c5 q0.tree.Bodies.length c6) q0.tree.Main (.slice c7 q0.tree.Points.length c8) q0.fn (.slice c9 q0.vars.length d0) (.slice d5 q0.scope.length d6), Y, Z, b0] := hO
 refine zbf (zz hO [] [(0, zq2 g), (2, zq1 0), (3, zq2 G), (7, .func (.func 50) #[] #[.pointer (some ⟨G, 0, none⟩)])] ⟨rfl, rfl, rfl, rfl, trivial⟩ fun j => ?_)
 refine zg ?_
 refine ⟨rfl, 50, #[.pointer (some ⟨G, 0, none⟩)], rfl, by kernel_rfl, ?_⟩
 simp only [List.map_nil, Array.empty_append]
 have key : ∀ (e1 : Env), e1 0 = .pointer (some ⟨g, 0, none⟩) → e1 2 = .int .i64 0 → e1 3 = .pointer (some ⟨G, 0, none⟩) → zbU Try.prog w0 zjl.code (dpost Try.prog w0 [3] 50 #[.pointer (some ⟨G, 0, none⟩)] e1 Q) e1 σ := ?_
 ·exact key _ rfl rfl rfl
 intro e1 t0 t2 t3
 have hRet : ∀ (n k : Int) (q : zb) (e' : Env) (σ' τ' : Hp) (X I S U : Ob), rr = (n, k, q) → wK g q τ' X I S U → Hp.le τ τ' → Obs τ' σ' [some (G, ⟨[.int .i64 k], 35, 1, true⟩), X, I, S, U] → e' 2 = .int .i64 n → e' 3 = .pointer (some ⟨G, 0, none⟩) → Q .ret e' σ' := by
  rintro n k q e' σ' τ' X I S U rfl ⟨u0, u1, u2, u4, u6, u7, rfl, h0, V, W, h4, h6, h7⟩ hle hO h2' h3'
  refine hQ e' σ' [.int .i64 n, .int .i64 k] τ' _ ?_ (hO.sel [1, 2, 3, 4]) hle ⟨u0, u1, u2, I, u4, S, u6, u7, U, rfl, rfl, h0, V, W, h4, h6, h7⟩
  rw [← h2']
  exact zcv (zb9 h3' (hO.val (i := 0) rfl (off := 0) (agg := false) (n := 1) rfl) rfl)
 obtain ⟨D, hD⟩ : ∃ D, D = dpost Try.prog w0 [3] 50 #[.pointer (some ⟨G, 0, none⟩)] e1 Q := ⟨_, rfl⟩
 have hDp : ∀ (n k0 k : Int) (v : Value) (ch : List PanicEntry) (q : zb) (e' : Env) (σ' τ' : Hp) (X I S U : Ob), zdh v = some k → ch = [{ v := v, recovered := false }] → rr = (n, k, q) → wK g q τ' X I S U → Hp.le τ τ' → Obs τ' σ' [some (G, ⟨[.int .i64 k0], 35, 1, true⟩), X, I, S, U] → e' 2 = .int .i64 n → D (.panic ch) e' σ' := by
  rintro n k0 k v ch q e' σ' τ' X I S U hs rfl hr hK hle hO h2'
  subst hD
  intro hJ
  have h3' := (hJ 3 (List.mem_cons_self ..)).trans t3
  rw [zoj hs]
  exact (zpY hO).mono fun u' σ'' h => .inl ⟨h.1, hRet n k q e' σ'' τ' X I S U hr hK hle h.2 h2' h3'⟩
 have hDr : ∀ (n k : Int) (q : zb) (e' : Env) (σ' τ' : Hp) (X I S U : Ob), rr = (n, k, q) → wK g q τ' X I S U → Hp.le τ τ' → Obs τ' σ' [some (G, ⟨[.int .i64 k], 35, 1, true⟩), X, I, S, U] → e' 2 = .int .i64 n → D .ret e' σ' := by
  rintro n k q e' σ' τ' X I S U hr hK hle hO h2'
  subst hD
  intro hJ
  have h3' := (hJ 3 (List.mem_cons_self ..)).trans t3
  exact (zoC hO).mono fun u' σ'' h => ⟨h.1, hRet n k q e' σ'' τ' X I S U hr hK hle h.2 h2' h3'⟩
 rw [← hD]
 clear hD hRet hQ hP
 unfold zjl
 have hA : agr [(0, .pointer (some ⟨g, 0, none⟩)), (2, .int .i64 0), (3, .pointer (some ⟨G, 0, none⟩))] e1 := ⟨t0, t2, t3, trivial⟩
 rw [← zQ _ _ hA]
 -- structs
 refine zcj (zcj (zcB (fun _ _ => False) rfl (fun _ _ _ h => h.elim) ?_))
 refine zbf (zz hO [1] [(0, zq2 g), (2, zq1 0), (3, zq2 G), (13, zq1 (q0.prog.Structs.length : Int)), (14, zq1 0)] ⟨⟨rfl, rfl⟩, rfl, rfl, rfl, rfl, rfl, trivial⟩ fun j => ?_)
 refine zg (zk ?_)
 obtain ⟨R, hR⟩ : ∃ R, R = wS q0 big 0 0 := ⟨_, rfl⟩
 rw [← hR] at hF
 refine zg3 (lpE (fun (n : Nat) e' σ' => ∃ (z o : Int) (τ' : Hp), agr [(0, zq2 g), (2, zq1 z), (3, zq2 G), (13, zq1 (q0.prog.Structs.length : Int)), (14, zq1 o)] e' ∧ Obs τ' σ' [some (G, ⟨[.int .i64 0], 35, 1, true⟩), zn g (zq8 b9 q0.prog.Structs c2) (zq8 c3 q0.prog.Funcs c4) (zq8 c5 q0.tree.Bodies c6) q0.tree.Main (zq8 c7 q0.tree.Points c8) q0.fn (zq8 c9 q0.vars d0) (zq8 d5 q0.scope d6), Y, Z, b0] ∧ Hp.le τ τ' ∧ R = wS q0 n z o) big ⟨0, 0, _, ⟨rfl, rfl, rfl, rfl, rfl, trivial⟩, hO, hL, hR⟩ ?_)
 clear hR hO hL
 rintro k e σ ⟨z, o, τ1, hA, hO, hL, hR⟩
 rw [← zQ _ _ hA]
 cases k with
 | zero =>
  rw [show R = none from hR] at hF
  cases hF
 | succ k =>
 replace hR : R = if (decide (o < (q0.prog.Structs.length : Int))) = true then (match zdz q0 o with
  | none => none
  | some (.error v) => some (.error (z, v))
  | some (.ok _) => wS q0 k (IntKind.i64.wrap (z + 1)) (IntKind.i64.wrap (o + 1))) else some (.ok z) := hR
 refine zcj (zcB (fun _ _ => False) rfl (fun _ _ _ h => h.elim) ?_)
 refine zbf (zz hO [] [(0, zq2 g), (2, zq1 z), (3, zq2 G), (13, zq1 (q0.prog.Structs.length : Int)), (14, zq1 o), (15, .bool (decide (o < (q0.prog.Structs.length : Int))))] ⟨rfl, rfl, rfl, rfl, rfl, rfl, trivial⟩ fun j => ?_)
 refine zg (zk ?_)
 refine zcj (zkI (t := decide (o < (q0.prog.Structs.length : Int))) rfl (fun ht => skE ?_) (fun ht => exE ?_))
 ·rw [if_pos ht] at hR
  refine zk ?_
  refine zcj (zg3 (zcj (zcB (fun _ _ => False) rfl (fun _ _ _ h => h.elim) ?_)))
  refine zbf (zz hO [] [(0, zq2 g), (2, zq1 z), (3, zq2 G), (4, zq1 o), (13, zq1 (q0.prog.Structs.length : Int)), (14, zq1 o)] ⟨rfl, rfl, rfl, rfl, rfl, rfl, trivial⟩ fun j => ?_)
  refine zg (zk ?_)
  refine zcj (rE (fun ch σ' => ∃ (v : Value) (τ' : Hp), R = some (.error (z, v)) ∧ ch = [{ v := v, recovered := false }] ∧ Obs τ' σ' [some (G, ⟨[.int .i64 0], 35, 1, true⟩), zn g (.slice b9 q0.prog.Structs.length c2) (.slice c3 q0.prog.Funcs.length c4) (.slice c5 q0.tree.Bodies.length c6) q0.tree.Main (.slice c7 q0.tree.Points.length c8) q0.fn (.slice c9 q0.vars.length d0) (.slice d5 q0.scope.length d6), Y, Z, b0] ∧ Hp.le τ τ') 2 rfl ?_ ?_)
  ·rintro ch e' σ' ⟨v, τ', V, W, h3, h4⟩ he
   rw [V] at hF
   obtain ⟨kk, hk, hr⟩ := Option.map_eq_some_iff.1 hF
   exact hDp z _ kk v ch q0 e' σ' τ' _ _ _ _ hk W hr.symm ⟨_, _, _, _, _, _, rfl, b2.le h4, b4.le h4, b5.le h4, b6.le h4, b7.le h4, b8.le h4⟩ h4 h3 he
  refine zN hO 2 [] [(0, zq2 g), (2, zq1 z), (3, zq2 G), (13, zq1 (q0.prog.Structs.length : Int)), (14, zq1 o), (17, zq2 g), (18, zq1 o)] ⟨rfl, rfl, rfl, rfl, rfl, rfl, rfl, trivial⟩ fun j => ?_
  rcases hf : zdz q0 o with _ | ⟨v | u⟩
  ·rw [hf] at hR
   rw [show R = none from hR] at hF
   cases hF
  ·rw [hf] at hR
   refine zbs (hs := [_]) hO (zki (b2.le hL) (b4.le hL) (b5.le hL) (b6.le hL) (b7.le hL) (b8.le hL) hf) zqJ rfl fun _ σ τ' _ hO V W => ?_
   obtain ⟨rfl, rfl⟩ := W
   exact ⟨v, τ', hR, rfl, hO, hL.trans V⟩
  ·rw [hf] at hR
   refine zbr (hs := [_]) hO (zki (b2.le hL) (b4.le hL) (b5.le hL) (b6.le hL) (b7.le hL) (b8.le hL) hf) zqJ rfl fun _ σ τ' _ hO V W => ?_
   obtain ⟨rfl, rfl⟩ := W
   have hL := hL.trans V
   have hO : Obs _ _ [some (G, ⟨[.int .i64 0], 35, 1, true⟩), zn g (.slice b9 q0.prog.Structs.length c2) (.slice c3 q0.prog.Funcs.length c4) (.slice c5 q0.tree.Bodies.length c6) q0.tree.Main (.slice c7 q0.tree.Points.length c8) q0.fn (.slice c9 q0.vars.length d0) (.slice d5 q0.scope.length d6), Y, Z, b0] := hO
   refine zf (zg (zk (zcB (fun _ _ => False) rfl (fun _ _ _ h => h.elim) ?_)))
   refine zbf (zz hO [] [(0, zq2 g), (2, zq1 (IntKind.i64.wrap (z + 1))), (3, zq2 G), (13, zq1 (q0.prog.Structs.length : Int)), (14, zq1 o)] ⟨rfl, rfl, rfl, rfl, rfl, trivial⟩ fun j => ?_)
   refine zg (z8 (zk (zcB (fun _ _ => False) rfl (fun _ _ _ h => h.elim) ?_)))
   refine zbf (zz hO [] [(0, zq2 g), (2, zq1 (IntKind.i64.wrap (z + 1))), (3, zq2 G), (13, zq1 (q0.prog.Structs.length : Int)), (14, zq1 (IntKind.i64.wrap (o + 1)))] ⟨rfl, rfl, rfl, rfl, rfl, trivial⟩ fun j => ?_)
   refine zg (zk ?_)
   exact ⟨k, Nat.lt_succ_self _, _, _, _, ⟨rfl, rfl, rfl, rfl, rfl, trivial⟩, hO, hL, hR⟩
 rw [ht] at hR
 replace hR : R = some (.ok z) := hR
 rw [hR] at hF
 clear hR
 refine zbC (zbC (zbG (zk ?_)))
 -- bodies
 replace hF : (match wB q0.prog.Funcs.length big q0 z 0 with
   | none => none
   | some (.error x) => (zdh x.2.1).map fun k => (x.1, k, x.2.2)
   | some (.ok x) => wT x.1 x.2) = some rr := hF
 refine zcj (zcj (zcB (fun _ _ => False) rfl (fun _ _ _ h => h.elim) ?_))
 refine zbf (zz hO [1] [(0, zq2 g), (2, zq1 z), (3, zq2 G), (28, zq1 (q0.prog.Funcs.length : Int)), (29, zq1 0)] ⟨⟨rfl, rfl⟩, rfl, rfl, rfl, rfl, rfl, trivial⟩ fun j => ?_)
 refine zg (zk ?_)
 obtain ⟨R, hR⟩ : ∃ R, R = wB q0.prog.Funcs.length big q0 z 0 := ⟨_, rfl⟩
 rw [← hR] at hF
 obtain ⟨len, hlen⟩ : ∃ n, n = q0.prog.Funcs.length := ⟨_, rfl⟩
 rw [← hlen] at hR
 rw [← hlen]
 have hK : wK g q0 τ1 (zn g (.slice b9 q0.prog.Structs.length c2) (.slice c3 q0.prog.Funcs.length c4) (.slice c5 q0.tree.Bodies.length c6) q0.tree.Main (.slice c7 q0.tree.Points.length c8) q0.fn (.slice c9 q0.vars.length d0) (.slice d5 q0.scope.length d6)) Y Z b0 := ⟨_, _, _, _, _, _, rfl, b2.le hL, b4.le hL, b5.le hL, b6.le hL, b7.le hL, b8.le hL⟩
 refine zg3 (lpE (fun (n : Nat) e' σ' => ∃ (q : zb) (z o : Int) (τ' : Hp) (X I S U : Ob), agr [(0, zq2 g), (2, zq1 z), (3, zq2 G), (28, zq1 (len : Int)), (29, zq1 o)] e' ∧ Obs τ' σ' [some (G, ⟨[.int .i64 0], 35, 1, true⟩), X, I, S, U] ∧ wK g q τ' X I S U ∧ Hp.le τ τ' ∧ R = wB len n q z o) big ⟨q0, z, 0, τ1, _, _, _, _, ⟨rfl, rfl, rfl, rfl, rfl, trivial⟩, hO, hK, hL, hR⟩ ?_)
 clear hR hO hL hK hlen hA
 clear b2 b4 b5 b6 b7 b8
 rintro k e σ ⟨q, z, o, τ1, X, I, S, U, hA, hO, ⟨u0, u1, u2, u4, u6, u7, rfl, f2, d9, g9, i0, i1, i2⟩, hL, hR⟩
 rw [← zQ _ _ hA]
 cases k with
 | zero =>
  rw [show R = none from hR] at hF
  cases hF
 | succ k =>
 replace hR : R = if (decide (o < (len : Int))) = true then (match zdD q o with
  | none => none
  | some (.error v) => some (.error (z, v.1, v.2))
  | some (.ok q') => wB len k q' (IntKind.i64.wrap (z + 1)) (IntKind.i64.wrap (o + 1))) else some (.ok (z, q)) := hR
 refine zcj (zcB (fun _ _ => False) rfl (fun _ _ _ h => h.elim) ?_)
 refine zbf (zz hO [] [(0, zq2 g), (2, zq1 z), (3, zq2 G), (28, zq1 (len : Int)), (29, zq1 o), (30, .bool (decide (o < (len : Int))))] ⟨rfl, rfl, rfl, rfl, rfl, rfl, trivial⟩ fun j => ?_)
 refine zg (zk ?_)
 refine zcj (zkI (t := decide (o < (len : Int))) rfl (fun ht => skE ?_) (fun ht => exE ?_))
 ·rw [if_pos ht] at hR
  refine zk ?_
  refine zcj (zg3 (zcj (zcB (fun _ _ => False) rfl (fun _ _ _ h => h.elim) ?_)))
  refine zbf (zz hO [] [(0, zq2 g), (2, zq1 z), (3, zq2 G), (5, zq1 o), (28, zq1 (len : Int)), (29, zq1 o)] ⟨rfl, rfl, rfl, rfl, rfl, rfl, trivial⟩ fun j => ?_)
  refine zg (zk ?_)
  refine zcj (rE (fun ch σ' => ∃ (v : Value) (q' : zb) (τ' : Hp) (X I S U : Ob), R = some (.error (z, v, q')) ∧ ch = [{ v := v, recovered := false }] ∧ wK g q' τ' X I S U ∧ Obs τ' σ' [some (G, ⟨[.int .i64 0], 35, 1, true⟩), X, I, S, U] ∧ Hp.le τ τ') 2 rfl ?_ ?_)
  ·rintro ch e' σ' ⟨v, q', τ', X, I, S, U, V, W, h3, h4, h5⟩ he
   rw [V] at hF
   obtain ⟨kk, hk, hr⟩ := Option.map_eq_some_iff.1 hF
   exact hDp z _ kk v ch q' e' σ' τ' _ _ _ _ hk W hr.symm h3 h5 h4 he
  refine zN hO 2 [] [(0, zq2 g), (2, zq1 z), (3, zq2 G), (28, zq1 (len : Int)), (29, zq1 o), (32, zq2 g), (33, zq1 o)] ⟨rfl, rfl, rfl, rfl, rfl, rfl, rfl, trivial⟩ fun j => ?_
  rcases hf : zdD q o with _ | ⟨v | q'⟩
  ·rw [hf] at hR
   rw [show R = none from hR] at hF
   cases hF
  ·rw [hf] at hR
   refine zbs (hs := [_]) hO (zkq f2 d9 g9 i0 i1 i2 hf) zqJ rfl fun _ σ τ' _ hO V W => ?_
   obtain ⟨v0, v1, v2, p1, v4, p2, v6, v7, p3, rfl, rfl, g0, g1, g2, g4, g6, g7⟩ := W
   exact ⟨v.1, v.2, τ', _, _, _, _, hR, rfl, ⟨_, _, _, _, _, _, rfl, g0, g1, g2, g4, g6, g7⟩, hO, hL.trans V⟩
  ·rw [hf] at hR
   refine zbr (hs := [_]) hO (zkq f2 d9 g9 i0 i1 i2 hf) zqJ rfl fun _ σ τ' _ hO V W => ?_
   obtain ⟨v0, v1, v2, p1, v4, p2, v6, v7, p3, rfl, rfl, g0, g1, g2, g4, g6, g7⟩ := W
   have hL := hL.trans V
   have hO := zq65 hO
   refine zf (zg (zk (zcB (fun _ _ => False) rfl (fun _ _ _ h => h.elim) ?_)))
   refine zbf (zz hO [] [(0, zq2 g), (2, zq1 (IntKind.i64.wrap (z + 1))), (3, zq2 G), (28, zq1 (len : Int)), (29, zq1 o)] ⟨rfl, rfl, rfl, rfl, rfl, trivial⟩ fun j => ?_)
   refine zg (z8 (zk (zcB (fun _ _ => False) rfl (fun _ _ _ h => h.elim) ?_)))
   refine zbf (zz hO [] [(0, zq2 g), (2, zq1 (IntKind.i64.wrap (z + 1))), (3, zq2 G), (28, zq1 (len : Int)), (29, zq1 (IntKind.i64.wrap (o + 1)))] ⟨rfl, rfl, rfl, rfl, rfl, trivial⟩ fun j => ?_)
   refine zg (zk ?_)
   exact ⟨k, Nat.lt_succ_self _, q', _, _, τ', _, _, _, _, ⟨rfl, rfl, rfl, rfl, rfl, trivial⟩, hO, ⟨_, _, _, _, _, _, rfl, g0, g1, g2, g4, g6, g7⟩, hL, hR⟩
 rw [ht] at hR
 replace hR : R = some (.ok (z, q)) := hR
 rw [hR] at hF
 clear hR
 replace hF : wT z q = some rr := hF
 refine zbC (zbC (zbG (zk ?_)))
 -- main
 unfold wT at hF
 obtain ⟨m, k9, hF⟩ := zq7 hF
 obtain ⟨A0, c0, rfl, -⟩ := f2.form
 obtain ⟨A1, c1, rfl, -⟩ := d9.form
 refine zcj (zcB (fun _ _ => False) rfl (fun _ _ _ h => h.elim) ?_)
 refine zbf (zN hO 2 [] [(0, zq2 g), (2, zq1 z), (3, zq2 G), (38, zq2 g), (39, zq2 g)] ⟨rfl, rfl, rfl, rfl, rfl, trivial⟩ fun j => ?_)
 refine zca (hs := [_]) hO (zk6 f2 d9 g9 i0 i1 i2 k9) rfl fun _ σ τ' _ hO V W => ?_
 obtain ⟨rfl, rfl⟩ := W
 have hL := hL.trans V
 have hO := zq65 hO
 refine zN hO 3 [] [(0, zq2 g), (2, zq1 z), (3, zq2 G), (40, zq1 m), (43, .pointer (some ⟨g, 3, none⟩))] ⟨rfl, rfl, rfl, rfl, rfl, trivial⟩ fun j => ?_
 refine zE hO (i := 1) rfl (off := 3) rfl rfl rfl rfl (Nat.le_of_ble_eq_true rfl) rfl fun σ hO => ?_
 have hO : Obs _ _ [some (G, ⟨[.int .i64 0], 35, 1, true⟩), zn g (.slice A0 q.prog.Structs.length c0) (.slice A1 q.prog.Funcs.length c1) u2 m u4 q.fn u6 u7, I, S, U] := hO
 have hK : ∀ τ2, Hp.le τ' τ2 → wK g (wM q m) τ2 (zn g (.slice A0 q.prog.Structs.length c0) (.slice A1 q.prog.Funcs.length c1) u2 m u4 q.fn u6 u7) I S U := fun τ2 W => ⟨_, _, _, _, _, _, rfl, (f2.le V).le W, (d9.le V).le W, (g9.le V).le W, (i0.le V).le W, (i1.le V).le W, (i2.le V).le W⟩
 refine zf (zg (zk ?_))
 refine zcj (rE (fun ch σ' => ∃ (v : Value) (τ2 : Hp) (k : Int), zdh v = some k ∧ rr = (z, k, wM q m) ∧ ch = [{ v := v, recovered := false }] ∧ Obs τ2 σ' [some (G, ⟨[.int .i64 0], 35, 1, true⟩), zn g (.slice A0 q.prog.Structs.length c0) (.slice A1 q.prog.Funcs.length c1) u2 m u4 q.fn u6 u7, I, S, U] ∧ Hp.le τ' τ2) 2 rfl ?_ ?_)
 ·rintro ch e' σ' ⟨v, τ2, kk, h3, h4, h5, h6, h7⟩ he
  exact hDp z _ kk v ch _ e' σ' τ2 _ _ _ _ h3 h5 h4 (hK _ h7) (hL.trans h7) h6 he
 refine zN hO 6 [1] [(0, zq2 g), (2, zq1 z), (3, zq2 G), (49, .bool (decide (m ≥ 0)))] ⟨⟨rfl, rfl⟩, rfl, rfl, rfl, rfl, trivial⟩ fun j => ?_
 rcases hf : zby (decide (m ≥ 0)) 8 with _ | ⟨v | u⟩
 ·rw [hf] at hF
  cases hF
 ·rw [hf] at hF
  obtain ⟨kk, hk, hr⟩ := Option.map_eq_some_iff.1 hF
  refine zb0 hO (zbk hf) zqJ rfl fun _ σ τ2 _ hO h3 h4 => ?_
  obtain ⟨rfl, rfl⟩ := h4
  exact ⟨v, τ2, kk, hk, hr.symm, rfl, hO, h3⟩
 rw [hf] at hF
 replace hF : (zt q.prog.Funcs m).bind _ = some rr := hF
 refine zbZ hO (zbk hf) zqJ rfl fun _ σ τ2 _ hO h3 h4 => ?_
 obtain ⟨rfl, rfl⟩ := h4
 have hO : Obs _ _ [some (G, ⟨[.int .i64 0], 35, 1, true⟩), zn g (.slice A0 q.prog.Structs.length c0) (.slice A1 q.prog.Funcs.length c1) u2 m u4 q.fn u6 u7, I, S, U] := hO
 refine zf (zg (zk ?_))
 obtain ⟨d, hd, hF⟩ := zq7 hF
 clear hf
 -- the declaration
 refine zcj (zcB (fun _ _ => False) rfl (fun _ _ _ h => h.elim) ?_)
 refine zml (zN hO 10 [1, 1] [(0, zq2 g), (2, zq1 z), (3, zq2 G), (54, .pointer (some ⟨g, 1, none⟩)), (55, zq8 A1 q.prog.Funcs c1), (59, .pointer (some ⟨g, 3, none⟩)), (60, zq1 m)] ⟨⟨rfl, rfl⟩, ⟨rfl, rfl⟩, rfl, rfl, rfl, rfl, rfl, rfl, rfl, trivial⟩ fun j => ?_)
 refine zV (T := zp) ((d9.le V).le h3) hO.base rfl rfl hd (by decide) fun a5 _ k6 m7 => ?_
 obtain ⟨v8, m8, rfl, r9, l1⟩ := k6
 obtain ⟨m9, n0, rfl, -⟩ := r9.form
 obtain ⟨n1, n2, rfl, -⟩ := l1.form
 refine zI rfl ((m7.le hO.base).all rfl) ?_
 refine zbJ (zbn hO fun n3 σ hO => ?_)
 have hO := zq66 hO
 refine zf (zbH ⟨(zY rfl ((m7.le hO.base).all rfl) rfl), (zY rfl (hO.val (i := 1) (off := 3) (agg := false) (n := 1) rfl rfl) rfl), (zY rfl (hO.val (i := 1) (off := 1) (agg := false) (n := 1) rfl rfl) rfl), trivial⟩ ?_)
 refine zE hO (i := 5) rfl (off := 0) rfl rfl rfl rfl (Nat.le_of_ble_eq_true rfl) rfl fun σ hO => ?_
 have hO := zq66 hO
 refine zf (zg (zk ?_))
 refine zcj (rE (fun ch σ' => ∃ (v : Value) (τ3 : Hp) (k : Int), zdh v = some k ∧ rr = (z, k, wM q m) ∧ ch = [{ v := v, recovered := false }] ∧ Obs τ3 σ' [some (G, ⟨[.int .i64 0], 35, 1, true⟩), zn g (.slice A0 q.prog.Structs.length c0) (.slice A1 q.prog.Funcs.length c1) u2 m u4 q.fn u6 u7, I, S, U] ∧ Hp.le τ' τ3) 2 rfl ?_ ?_)
 ·rintro ch e' σ' ⟨v, τ3, kk, h5, h6, h7, h8, h9⟩ he
  exact hDp z _ kk v ch _ e' σ' τ3 _ _ _ _ h5 h7 h6 (hK _ h9) (hL.trans h9) h8 he
 refine zN hO 7 [5, 5] [(0, zq2 g), (2, zq1 z), (3, zq2 G), (72, .bool (((d.Params.length : Int) == 0) && ((d.Result.Kind.toNat : Int) == 0)))] ⟨⟨rfl, rfl⟩, ⟨rfl, rfl⟩, ⟨⟨rfl, rfl⟩, fun J => ⟨rfl, rfl, rfl, rfl, trivial⟩⟩⟩ fun j => ?_
 rcases hf : zby (((d.Params.length : Int) == 0) && ((d.Result.Kind.toNat : Int) == 0)) 8 with _ | ⟨v | u⟩
 ·rw [hf] at hF
  cases hF
 ·rw [hf] at hF
  obtain ⟨kk, hk, hr⟩ := Option.map_eq_some_iff.1 hF
  refine zb0 hO (zbk hf) zqJ rfl fun _ σ τ3 _ hO h5 h6 => ?_
  obtain ⟨rfl, rfl⟩ := h6
  exact ⟨v, τ3, kk, hk, hr.symm, rfl, hO.sel [0, 1, 2, 3, 4], h3.trans h5⟩
 rw [hf] at hF
 replace hF : some (z, (0 : Int), wM q m) = some rr := hF
 refine zbZ hO (zbk hf) zqJ rfl fun _ σ τ3 _ hO h5 h6 => ?_
 obtain ⟨rfl, rfl⟩ := h6
 have hO := zq66 hO
 refine zf (zg (zk ?_))
 injection hF with hF
 -- OK is stored
 refine zcB (fun _ _ => False) rfl (fun _ _ _ h => h.elim) ?_
 refine zN hO 2 [] [(2, zq1 z), (3, zq2 G)] ⟨rfl, rfl, trivial⟩ fun j => ?_
 refine zE hO (i := 0) rfl (off := 0) rfl rfl rfl rfl (Nat.le_of_ble_eq_true rfl) rfl fun σ hO => ?_
 refine zf (zbb ?_)
 exact hDr z 0 (wM q m) _ _ _ _ _ _ _ hF.symm (hK _ (h3.trans h5)) (hL.trans (h3.trans h5)) (hO.sel [0, 1, 2, 3, 4]) rfl
theorem zoz {τ : Hp} {p0 : zL} {g h : Value} (o : RdT zo τ g p0.Vars) (q : RdT zP τ h p0.Acts) {rr : Bool} (hF : ziJ p0 = some rr) :
  Ctr Try.prog 36 #[.agg #[.string p0.Name, .int .i64 p0.Params, .bool p0.Result, g, h]] τ [] (fun v τ' vs' => v = .bool rr ∧ vs' = []) := by
 obtain ⟨z, D, rfl, -⟩ := o.form
 obtain ⟨G, I, rfl, -⟩ := q.form
 refine zbl (args := [.agg #[.string p0.Name, .int .i64 p0.Params, .bool p0.Result, (.slice z p0.Vars.length D), (.slice G p0.Acts.length I)]]) hm Try.func36 s36 rfl fun w0 σ hO Q hQ => ?_
 unfold ziJ at hF
 have hL := Hp.le.refl τ
 show wpn _ _ a36.body _ _ _
 unfold a36
 dsimp only
 refine zbQ (n := 5) hO rfl rfl fun S σ hO => ?_
 have hO := zq61 hO
 refine ze hO [] [] [1] zqL fun j => ?_
 refine zz hO [0] [(2, .bool (decide ((p0.Vars.length : Int) > 64)))] (And.intro (And.intro rfl rfl) zqL) fun j => ?_
 refine zbb ?_
 cases hF
 have hO := hO.sel []
 exact hQ _ _ _ _ _ rfl hO hL ⟨rfl, rfl⟩
theorem zpw {τ : Hp} {S : Value} {p0 : (List zL)} (U : RdT zq τ S p0) {rr : Int} (hF : zhH p0 = some rr) :
  Ctr Try.prog 55 #[S, .func (.func 36) #[] #[]] τ [] (fun v τ' vs' => v = .int .i64 rr ∧ vs' = []) := by
 obtain ⟨G, I, rfl, -⟩ := U.form
 refine zbl (args := [.slice G p0.length I, .func (.func 36) #[] #[]]) hm Try.func55 s55 rfl fun w0 σ hO Q hQ => ?_
 unfold zhH at hF
 have hL := Hp.le.refl τ
 show wpn _ _ a55.body _ _ _
 unfold a55
 dsimp only
 refine ze hO [] [] [0, 1] zqM fun j => ?_
 refine zj (ze hO [] [(7, zq1 (p0.length : Int)), (8, zq1 0)] [0, 1] zqO fun j => ?_)
 refine zba (zbP (fun (n : Nat) e' σ' => ∃ (g : Int) (τ' : Hp), agr [(0, zq8 G p0 I), (1, .func (.func 36) #[] #[]), (7, zq1 (p0.length : Int)), (8, zq1 g)] e' ∧ Obs τ' σ' [] ∧ Hp.le τ τ' ∧ zhy p0 n g = some rr) big ⟨0, _, zq0 zqN, hO, hL, hF⟩ ?_)
 clear hF hO hL
 rintro h e σ ⟨g, _, hA, hO, hL, hF⟩
 rw [← zQ _ _ hA]
 cases h with
 | zero => exact nomatch (show none = some rr from hF)
 | succ h =>
 replace hF : zie (zhy p0 h) p0 g = some rr := hF
 unfold zie at hF
 refine ze hO [] [(9, .bool (decide (g < (p0.length : Int))))] [0, 1, 7, 8] zqP fun j => ?_
 refine zw hF rfl (fun hF => ?_) fun hF => ?_
 ·refine zF (zba (ze hO [] [(5, zq1 g)] [0, 1, 7, 8] zqP fun j => ?_))
  refine zd hO 3 [] [(11, .func (.func 36) #[] #[]), (12, zq8 G p0 I), (13, zq1 g)] [0, 1, 5, 7, 8] zqS fun j => ?_
  obtain ⟨Z, V, hF⟩ := zq7 hF
  refine zV (T := zq) (U.le hL) hO.base rfl rfl V (by decide) fun a46 _ W D => ?_
  obtain ⟨b0, b1, rfl, o, q⟩ := W
  obtain ⟨b2, b3, rfl, -⟩ := o.form
  obtain ⟨b4, b5, rfl, -⟩ := q.form
  refine zI rfl ((D.le hO.base).all rfl) ?_
  obtain ⟨b6, X, hF⟩ := zq7 hF
  refine zga rfl (by kernel_rfl) hO (zoz o q X) rfl fun _ σ _ _ hO z Y => ?_
  have hL := hL.trans z
  have D := D.le z
  have o := o.le z
  have q := q.le z
  obtain ⟨rfl, rfl⟩ := Y
  have hO : Obs _ _ [] := hO
  refine zf (zbz (zw hF rfl (fun hF => ?_) fun hF => ?_))
  ·refine zj (zz hO [] [(4, zq1 g)] zqL fun j => ?_)
   refine zbq (zbo (zX (zX (zbo (zX ?_)))))
   cases hF
   exact hQ _ _ _ _ _ rfl hO hL ⟨rfl, rfl⟩
  refine zF (zg (z8 (zk (zbf (ze hO [] [(8, zq1 (IntKind.i64.wrap (g + 1)))] [0, 1, 7] zqO fun j => ?_)))))
  refine zg (zk ?_)
  exact ⟨h, Nat.lt_succ_self _, (IntKind.i64.wrap (g + 1)), _, zq0 zqN, hO, hL, hF⟩
 refine zbK (zbC (zbG (zk (zz hO [] [(4, zq1 (-1))] zqL fun j => ?_))))
 refine zbb ?_
 cases hF
 exact hQ _ _ _ _ _ rfl hO hL ⟨rfl, rfl⟩
theorem znH {τ : Hp} {g : Value} {p0 : (List zL)} (h : RdT zq τ g p0) {rr : Bool} (hF : zho p0 = some rr) :
  Ctr Try.prog 35 #[g, .func (.func 36) #[] #[]] τ [] (fun v τ' vs' => v = .bool rr ∧ vs' = []) := by
 obtain ⟨o, q, rfl, -⟩ := h.form
 refine zbl (args := [.slice o p0.length q, .func (.func 36) #[] #[]]) hm Try.func35 s35 rfl fun w0 σ hO Q hQ => ?_
 unfold zho at hF
 have hL := Hp.le.refl τ
 show wpn _ _ a35.body _ _ _
 unfold a35
 dsimp only
 refine ze hO [] [] [0, 1] zqM fun j => ?_
 refine zN hO 2 [] [(5, zq8 o p0 q), (6, .func (.func 36) #[] #[])] zqM fun j => ?_
 obtain ⟨z, D, hF⟩ := zq7 hF
 refine zO hO (zpw (h.le hL) D) rfl fun _ σ _ _ hO G I => ?_
 have hL := hL.trans G
 obtain ⟨rfl, rfl⟩ := I
 have hO : Obs _ _ [] := hO
 refine zz hO [] [(4, .bool (decide (z ≥ 0)))] zqL fun j => ?_
 refine zbb ?_
 cases hF
 exact hQ _ _ _ _ _ rfl hO hL ⟨rfl, rfl⟩
theorem zeQ {τ : Hp} {p0 : zm} {o Y : Value} (Z : RdT zu τ o p0.Structs) (b0 : RdT zp τ Y p0.Funcs) {rr : zA × Int × Int} (hF : zcE p0 = some rr) :
  Ctr Try.prog 17 #[.agg #[o, Y]] τ [] (fun v τ' vs' => ∃ (o b1 : Value), v = .tuple #[.agg #[o, .int .i64 rr.1.Main, b1], .int .i64 rr.2.1, .int .i64 rr.2.2] ∧ vs' = [] ∧ RdT zq τ' o rr.1.Bodies ∧ RdT zr τ' b1 rr.1.Points) := by
 obtain ⟨b5, b6, rfl, -⟩ := Z.form
 obtain ⟨b7, b8, rfl, -⟩ := b0.form
 refine zbl (args := [.agg #[(zq8 b5 p0.Structs b6), (zq8 b7 p0.Funcs b8)]]) hm Try.func17 s17 rfl fun w0 σ hO Q hQ => ?_
 unfold zcE at hF
 have hL := Hp.le.refl τ
 show wpn _ _ a17.body _ _ _
 unfold a17
 dsimp only
 refine zbQ (n := 2) hO rfl rfl fun b2 σ hO => ?_
 have hO := zq61 hO
 refine zbn hO fun b3 σ hO => ?_
 have hO := zq62 hO
 refine ze hO [] [] [1, 2] zqM fun j => ?_
 refine zd hO 2 [0] [(10, .agg #[(zq8 b5 p0.Structs b6), (zq8 b7 p0.Funcs b8), (.slice none 0 0), (.int .i64 0), (.slice none 0 0), (.int .i64 0), (.slice none 0 0), (.slice none 0 0)])] [1, 2] (And.intro (And.intro rfl rfl) zqN) fun j => ?_
 refine zbQ (n := 8) hO rfl rfl fun b4 σ hO => ?_
 have hO := zq63 hO
 refine ze hO [] [(5, zq2 b4)] [1, 2] zqN fun j => ?_
 refine zj (zd hO 1 [] [(13, zq2 b4)] [1, 2, 5] zqO fun j => ?_)
 have hO := hO.no
 have hO := zq64 hO
 have w5 := za.nil0 (T := zq) (ty := 59) hO
 have hO := hO.no
 have hO := zq65 hO
 have w6 := za.nil0 (T := zr) (ty := 87) hO
 have hO := hO.no
 have hO := zq66 hO
 have w7 := za.nil0 (T := (Ty.int .i64)) (ty := 3) hO
 obtain ⟨g, h9, hF⟩ := zq7 hF
 refine zca (hs := [_, _]) hO (zna (q0 := (⟨(⟨p0.Structs, p0.Funcs⟩ : zm), (⟨([] : List zL), 0, ([] : List zK)⟩ : zA), 0, [], ([] : List Int)⟩ : zb)) (Z.le hL) (b0.le hL) w5 w6 (RdT.nil zo _) w7 h9) rfl fun _ σ _ _ hO c4 c5 => ?_
 have hL := hL.trans c4
 obtain ⟨f2, f3, f4, f5, f6, f7, f8, f9, g0, rfl, rfl, q, z, W, S, D, G⟩ := c5
 obtain ⟨g1, g2, rfl, -⟩ := q.form
 obtain ⟨g3, g4, rfl, -⟩ := z.form
 obtain ⟨c0, c1, rfl, -⟩ := W.form
 obtain ⟨c6, c7, rfl, -⟩ := S.form
 obtain ⟨g5, g6, rfl, -⟩ := D.form
 obtain ⟨g7, g8, rfl, -⟩ := G.form
 have hO := zq66 hO
 refine ze hO [] [(6, zq1 g.1), (7, zq1 g.2.1)] [1, 2, 5] zqP fun j => ?_
 refine zj (ze hO [] [(18, .bool (g.2.1 != 0))] [1, 2, 5, 6, 7] zqQ fun j => ?_)
 refine zw hF rfl (fun hF => ?_) fun hF => ?_
 ·refine zj (zd hO 3 [] [(19, .agg #[(.slice none 0 0), (.int .i64 0), (.slice none 0 0)]), (20, zq1 g.1), (21, zq1 g.2.1)] [2] zqO fun j => ?_)
  refine zE hO (i := 1) rfl (off := 0) rfl rfl rfl rfl (Nat.le_of_ble_eq_true rfl) rfl fun σ hO => ?_
  have hO := zq66 hO
  refine ze hO [] [(3, zq1 g.1), (4, zq1 g.2.1)] [2] zqN fun j => ?_
  refine zbq ?_
  cases hF
  have X := hO.val (i := 1) rfl (off := 0) (agg := true) (n := 3) rfl
  have hO := hO.sel []
  exact hQ _ _ _ _ _ (zb9 rfl (X) (zcv (zcv rfl))) hO hL ⟨_, _, rfl, rfl, (RdT.nil _ _), (RdT.nil _ _)⟩
 refine zF (zd hO 5 [2] [(26, zq8 c0 g.2.2.tree.Bodies c1)] [1, 2, 5] (And.intro (And.intro rfl rfl) zqO) fun j => ?_)
 obtain ⟨c2, c9, hF⟩ := zq7 hF
 have hO := hO.sel [0, 1, 2, 4, 5, 3]
 refine zca (hs := [_, _, _, _, _]) hO (Ctr.lendG W (fun _ _ _ _ h => h) fun _ g9 d0 => znH d0 c9) rfl fun _ σ _ _ hO I d5 => ?_
 have hL := hL.trans I
 have W := W.le I
 have q := q.le I
 have z := z.le I
 have S := S.le I
 have D := D.le I
 have G := G.le I
 obtain ⟨_, rfl, rfl, rfl⟩ := d5
 have hO := zq66 hO
 have hO := hO.sel [0, 1, 2, 5, 3, 4]
 have hO := zq66 hO
 refine ze hO [] [(8, .bool c2)] [1, 2, 5] zqO fun j => ?_
 refine zj (zz hO [0, 2] [(2, zq2 b3), (5, zq2 b4), (43, .bool ((c2 || (decide ((p0.Funcs.length : Int) > 64))) || (decide ((g.2.2.tree.Points.length : Int) > 1000))))] (And.intro (And.intro rfl rfl) (And.intro (And.intro rfl rfl) (fun _ => And.intro (And.intro rfl rfl) (And.intro (And.intro rfl rfl) (fun _ => zq0 zqM))))) fun j => ?_)
 refine zw hF rfl (fun hF => ?_) fun hF => ?_
 ·refine zj (zd hO 1 [] [(44, .agg #[(.slice none 0 0), (.int .i64 0), (.slice none 0 0)])] [2] zqM fun j => ?_)
  refine zE hO (i := 1) rfl (off := 0) rfl rfl rfl rfl (Nat.le_of_ble_eq_true rfl) rfl fun σ hO => ?_
  have hO := zq66 hO
  refine ze hO [] [(3, zq1 0), (4, zq1 11)] [2] zqN fun j => ?_
  refine zbq ?_
  cases hF
  have X := hO.val (i := 1) rfl (off := 0) (agg := true) (n := 3) rfl
  have hO := hO.sel []
  exact hQ _ _ _ _ _ (zb9 rfl (X) (zcv (zcv rfl))) hO hL ⟨_, _, rfl, rfl, (RdT.nil _ _), (RdT.nil _ _)⟩
 refine zF (zd hO 4 [2] [(48, .agg #[(zq8 c0 g.2.2.tree.Bodies c1), (.int .i64 g.2.2.tree.Main), (zq8 c6 g.2.2.tree.Points c7)])] [2] (And.intro (And.intro rfl rfl) zqM) fun j => ?_)
 refine zE hO (i := 1) rfl (off := 0) rfl rfl rfl rfl (Nat.le_of_ble_eq_true rfl) rfl fun σ hO => ?_
 have hO := zq66 hO
 refine ze hO [] [(3, zq1 0), (4, zq1 0)] [2] zqN fun j => ?_
 refine zbb ?_
 obtain ⟨_, U, b9, hO⟩ := W.share hO (i := 3) rfl
 have hL := hL.trans U
 have S := S.le U
 have q := q.le U
 have z := z.le U
 have D := D.le U
 have G := G.le U
 have hO := zq66 hO
 obtain ⟨_, V, d6, hO⟩ := S.share hO (i := 4) rfl
 have hL := hL.trans V
 have b9 := b9.le V
 have q := q.le V
 have z := z.le V
 have D := D.le V
 have G := G.le V
 have hO := zq66 hO
 cases hF
 have X := hO.val (i := 1) rfl (off := 0) (agg := true) (n := 3) rfl
 have hO := hO.sel []
 exact hQ _ _ _ _ _ (zb9 rfl (X) (zcv (zcv rfl))) hO hL ⟨_, _, rfl, rfl, b9, d6⟩
theorem zeg {τ : Hp} {p0 : Int}  {rr : zc} (hF : zf6 p0 = some rr) :
  Ctr Try.prog 25 #[.int .i64 p0] τ [] (fun v τ' vs' => ∃ (g : Value), v = .agg #[.int .u8 rr.Kind.toNat, .int .i64 rr.Num, .string rr.Name, .string rr.Field, .string rr.Op, g] ∧ vs' = [] ∧ RdT zbh τ' g rr.Kids) := by
 refine zbl (args := [.int .i64 p0]) hm Try.func25 s25 rfl fun w0 σ hO Q hQ => ?_
 unfold zf6 at hF
 have hL := Hp.le.refl τ
 show wpn _ _ a25.body _ _ _
 unfold a25
 dsimp only
 refine zbn hO fun o σ hO => ?_
 have hO := zq61 hO
 refine zf (zd hO 2 [] [(4, .agg #[(.int .u8 1), (.int .i64 p0), (.string zqA), (.string zqA), (.string zqA), (.slice none 0 0)])] [2] zqM fun j => ?_)
 refine zE hO (i := 0) rfl (off := 0) rfl rfl rfl rfl (Nat.le_of_ble_eq_true rfl) rfl fun σ hO => ?_
 have hO := zq61 hO
 refine zf (zbb ?_)
 cases hF
 have h := hO.val (i := 0) rfl (off := 0) (agg := true) (n := 6) rfl
 have hO := hO.sel []
 exact hQ _ _ _ _ _ (zb9 rfl (h) rfl) hO hL ⟨_, rfl, rfl, (RdT.nil _ _)⟩
theorem zfi {τ : Hp} {p0 : ByteArray}  {rr : zc} (hF : zgm p0 = some rr) :
  Ctr Try.prog 39 #[.string p0] τ [] (fun v τ' vs' => ∃ (g : Value), v = .agg #[.int .u8 rr.Kind.toNat, .int .i64 rr.Num, .string rr.Name, .string rr.Field, .string rr.Op, g] ∧ vs' = [] ∧ RdT zbh τ' g rr.Kids) := by
 refine zbl (args := [.string p0]) hm Try.func39 s39 rfl fun w0 σ hO Q hQ => ?_
 unfold zgm at hF
 have hL := Hp.le.refl τ
 show wpn _ _ a39.body _ _ _
 unfold a39
 dsimp only
 refine zbn hO fun o σ hO => ?_
 have hO := zq61 hO
 refine zf (zd hO 2 [] [(4, .agg #[(.int .u8 3), (.int .i64 0), (.string p0), (.string zqA), (.string zqA), (.slice none 0 0)])] [2] zqM fun j => ?_)
 refine zE hO (i := 0) rfl (off := 0) rfl rfl rfl rfl (Nat.le_of_ble_eq_true rfl) rfl fun σ hO => ?_
 have hO := zq61 hO
 refine zf (zbb ?_)
 cases hF
 have h := hO.val (i := 0) rfl (off := 0) (agg := true) (n := 6) rfl
 have hO := hO.sel []
 exact hQ _ _ _ _ _ (zb9 rfl (h) rfl) hO hL ⟨_, rfl, rfl, (RdT.nil _ _)⟩
theorem zgS {τ : Hp} {p0 : ByteArray} {p1 : zc} {D : Value} {g : zc} {G : Value} (I : RdT zbh τ D p1.Kids) (S : RdT zbh τ G g.Kids) {rr : zc} (hF : zhs p0 p1 g = some rr) :
  Ctr Try.prog 40 #[.string p0, .agg #[.int .u8 p1.Kind.toNat, .int .i64 p1.Num, .string p1.Name, .string p1.Field, .string p1.Op, D], .agg #[.int .u8 g.Kind.toNat, .int .i64 g.Num, .string g.Name, .string g.Field, .string g.Op, G]] τ [] (fun v τ' vs' => ∃ (U : Value), v = .agg #[.int .u8 rr.Kind.toNat, .int .i64 rr.Num, .string rr.Name, .string rr.Field, .string rr.Op, U] ∧ vs' = [] ∧ RdT zbh τ' U rr.Kids) := by
 obtain ⟨h, o, rfl, -⟩ := I.form
 obtain ⟨q, z, rfl, -⟩ := S.form
 refine zbl (args := [.string p0, .agg #[.int .u8 p1.Kind.toNat, .int .i64 p1.Num, .string p1.Name, .string p1.Field, .string p1.Op, (.slice h p1.Kids.length o)], .agg #[.int .u8 g.Kind.toNat, .int .i64 g.Num, .string g.Name, .string g.Field, .string g.Op, (.slice q g.Kids.length z)]]) hm Try.func40 s40 rfl fun w0 σ hO Q hQ => ?_
 unfold zhs at hF
 have hL := Hp.le.refl τ
 show wpn _ _ a40.body _ _ _
 unfold a40
 dsimp only
 refine zbQ (n := 6) hO rfl rfl fun b4 σ hO => ?_
 have hO := zq61 hO
 refine zbQ (n := 6) hO rfl rfl fun b5 σ hO => ?_
 have hO := zq62 hO
 refine zbn hO fun b6 σ hO => ?_
 have hO := zq63 hO
 refine zf (zd hO 3 [0, 1] [(7, .string p0), (8, .agg #[(.int .u8 (p1.Kind.toNat : Int)), (.int .i64 p1.Num), (.string p1.Name), (.string p1.Field), (.string p1.Op), (zq8 h p1.Kids o)]), (9, .agg #[(.int .u8 (g.Kind.toNat : Int)), (.int .i64 g.Num), (.string g.Name), (.string g.Field), (.string g.Op), (zq8 q g.Kids z)])] [6] (And.intro (And.intro rfl rfl) (And.intro (And.intro rfl rfl) zqO)) fun j => ?_)
 refine zbD (T := zbh) (l := ([(⟨p1.Kind, p1.Num, p1.Name, p1.Field, p1.Op, p1.Kids⟩ : zc), (⟨g.Kind, g.Num, g.Name, g.Field, g.Op, g.Kids⟩ : zc)] : List zc)) (cs := [.int .u8 (p1.Kind.toNat : Int), .int .i64 p1.Num, .string p1.Name, .string p1.Field, .string p1.Op, zq8 h p1.Kids o, .int .u8 (g.Kind.toNat : Int), .int .i64 g.Num, .string g.Name, .string g.Field, .string g.Op, zq8 q g.Kids z]) hO rfl ⟨[.int .u8 (p1.Kind.toNat : Int), .int .i64 p1.Num, .string p1.Name, .string p1.Field, .string p1.Op, zq8 h p1.Kids o], _, rfl, (zc3 ⟨_, rfl, (I.le hL)⟩), ⟨[.int .u8 (g.Kind.toNat : Int), .int .i64 g.Num, .string g.Name, .string g.Field, .string g.Op, zq8 q g.Kids z], _, rfl, (zc3 ⟨_, rfl, (S.le hL)⟩), rfl⟩⟩ rfl (by decide) fun _ σ o9 V hO => ?_
 obtain ⟨Z, c8, rfl, -⟩ := V.form
 have hO := zq64 hO
 refine zd hO 1 [] [(11, .agg #[(.int .u8 7), (.int .i64 0), (.string zqA), (.string zqA), (.string p0), (zq8 Z ([(⟨p1.Kind, p1.Num, p1.Name, p1.Field, p1.Op, p1.Kids⟩ : zc), (⟨g.Kind, g.Num, g.Name, g.Field, g.Op, g.Kids⟩ : zc)] : List zc) c8)])] [6] zqM fun j => ?_
 refine zE hO (i := 2) rfl (off := 0) rfl rfl rfl rfl (Nat.le_of_ble_eq_true rfl) rfl fun σ hO => ?_
 have hO := zq64 hO
 refine zf (zbb ?_)
 obtain ⟨_, W, X, hO⟩ := V.share hO (i := 3) rfl
 have hL := hL.trans W
 have hO := zq64 hO
 cases hF
 have Y := hO.val (i := 2) rfl (off := 0) (agg := true) (n := 6) rfl
 have hO := hO.sel []
 exact hQ _ _ _ _ _ (zb9 rfl (Y) rfl) hO hL ⟨_, rfl, rfl, X⟩
theorem zpj {τ : Hp} {p0 : Int}  {rr : zm} (hF : zec p0 = some rr) :
  Ctr Try.prog 21 #[.int .i64 p0] τ [] (fun v τ' vs' => ∃ (b7 b8 : Value), v = .agg #[b7, b8] ∧ vs' = [] ∧ RdT zu τ' b7 rr.Structs ∧ RdT zp τ' b8 rr.Funcs) := by
 refine zbl (args := [.int .i64 p0]) hm Try.func21 s21 rfl fun w0 σ hO Q hQ => ?_
 unfold zec at hF
 have hL := Hp.le.refl τ
 show wpn _ _ a21.body _ _ _
 unfold a21
 dsimp only
 refine zbn hO fun b2 σ hO => ?_
 have hO := zq61 hO
 refine zf ?_
 obtain ⟨q, h4, hF⟩ := zq7 hF
 refine zO hO (zfi (p0 := zqB) h4) rfl fun _ σ _ _ hO h5 h6 => ?_
 have hL := hL.trans h5
 obtain ⟨v7, rfl, rfl, r8⟩ := h6
 obtain ⟨A9, f1, rfl, -⟩ := r8.form
 have hO := zq61 hO
 refine zbD (T := zbh) (l := ([(⟨q.Kind, q.Num, q.Name, q.Field, q.Op, q.Kids⟩ : zc)] : List zc)) (cs := [.int .u8 (q.Kind.toNat : Int), .int .i64 q.Num, .string q.Name, .string q.Field, .string q.Op, zq8 A9 q.Kids f1]) hO rfl ⟨[.int .u8 (q.Kind.toNat : Int), .int .i64 q.Num, .string q.Name, .string q.Field, .string q.Op, zq8 A9 q.Kids f1], _, rfl, (zc3 ⟨_, rfl, r8⟩), rfl⟩ rfl (by decide) fun _ σ j8 D hO => ?_
 obtain ⟨b9, c0, rfl, -⟩ := D.form
 have hO := zq62 hO
 refine zd hO 1 [] [(7, .agg #[(.int .u8 8), (.int .i64 3), (.string zqA), (.string zqA), (.string zqA), (.int .u8 0), (.int .i64 0), (.string zqA), (zq8 b9 ([(⟨q.Kind, q.Num, q.Name, q.Field, q.Op, q.Kids⟩ : zc)] : List zc) c0), (.slice none 0 0), (.slice none 0 0)])] [0, 2] zqN fun j => ?_
 obtain ⟨j9, h3, hF⟩ := zq7 hF
 refine zO hO (zfi (p0 := zqB) h3) rfl fun _ σ _ _ hO f2 h7 => ?_
 have hL := hL.trans f2
 have D := D.le f2
 obtain ⟨k0, rfl, rfl, I⟩ := h7
 obtain ⟨k1, k2, rfl, -⟩ := I.form
 have hO := zq62 hO
 obtain ⟨k3, h8, hF⟩ := zq7 hF
 refine zO hO (zeg h8) rfl fun _ σ _ _ hO c1 h9 => ?_
 have hL := hL.trans c1
 have D := D.le c1
 have I := I.le c1
 obtain ⟨k4, rfl, rfl, W⟩ := h9
 obtain ⟨k5, k6, rfl, -⟩ := W.form
 have hO := zq62 hO
 obtain ⟨g, i0, hF⟩ := zq7 hF
 refine zO hO (zgS (p0 := zqG) I W i0) rfl fun _ σ _ _ hO X i1 => ?_
 have hL := hL.trans X
 have D := D.le X
 have I := I.le X
 have W := W.le X
 obtain ⟨k7, rfl, rfl, f3⟩ := i1
 obtain ⟨f4, f5, rfl, -⟩ := f3.form
 have hO := zq62 hO
 refine zbD (T := zbh) (l := ([(⟨g.Kind, g.Num, g.Name, g.Field, g.Op, g.Kids⟩ : zc)] : List zc)) (cs := [.int .u8 (g.Kind.toNat : Int), .int .i64 g.Num, .string g.Name, .string g.Field, .string g.Op, zq8 f4 g.Kids f5]) hO rfl ⟨[.int .u8 (g.Kind.toNat : Int), .int .i64 g.Num, .string g.Name, .string g.Field, .string g.Op, zq8 f4 g.Kids f5], _, rfl, (zc3 ⟨_, rfl, f3⟩), rfl⟩ rfl (by decide) fun _ σ k8 Y hO => ?_
 obtain ⟨c2, c4, rfl, -⟩ := Y.form
 have hO := zq63 hO
 refine zd hO 1 [] [(12, .agg #[(.int .u8 2), (.int .i64 4), (.string zqB), (.string zqA), (.string zqA), (.int .u8 0), (.int .i64 0), (.string zqA), (zq8 c2 ([(⟨g.Kind, g.Num, g.Name, g.Field, g.Op, g.Kids⟩ : zc)] : List zc) c4), (.slice none 0 0), (.slice none 0 0)])] [0, 2, 7] zqO fun j => ?_
 obtain ⟨_, f6, c5, hO⟩ := D.share hO (i := 1) rfl
 have hL := hL.trans f6
 have Y := Y.le f6
 have hO := zq63 hO
 obtain ⟨_, f7, i2, hO⟩ := Y.share hO (i := 2) rfl
 have hL := hL.trans f7
 have c5 := c5.le f7
 have hO := zq63 hO
 refine zbD (T := z9) (l := ([(⟨(8 : UInt8), 3, zqA, zqA, zqA, (⟨(0 : UInt8), 0, zqA⟩ : zD), ([(⟨q.Kind, q.Num, q.Name, q.Field, q.Op, q.Kids⟩ : zc)] : List zc), [], []⟩ : zl), (⟨(2 : UInt8), 4, zqB, zqA, zqA, (⟨(0 : UInt8), 0, zqA⟩ : zD), ([(⟨g.Kind, g.Num, g.Name, g.Field, g.Op, g.Kids⟩ : zc)] : List zc), [], []⟩ : zl)] : List zl)) (cs := [.int .u8 8, .int .i64 3, .string zqA, .string zqA, .string zqA, .int .u8 0, .int .i64 0, .string zqA, zq8 b9 ([(⟨q.Kind, q.Num, q.Name, q.Field, q.Op, q.Kids⟩ : zc)] : List zc) c0, .slice none 0 0, .slice none 0 0, .int .u8 2, .int .i64 4, .string zqB, .string zqA, .string zqA, .int .u8 0, .int .i64 0, .string zqA, zq8 c2 ([(⟨g.Kind, g.Num, g.Name, g.Field, g.Op, g.Kids⟩ : zc)] : List zc) c4, .slice none 0 0, .slice none 0 0]) hO rfl ⟨[.int .u8 8, .int .i64 3, .string zqA, .string zqA, .string zqA, .int .u8 0, .int .i64 0, .string zqA, zq8 b9 ([(⟨q.Kind, q.Num, q.Name, q.Field, q.Op, q.Kids⟩ : zc)] : List zc) c0, .slice none 0 0, .slice none 0 0], _, rfl, (zdc ⟨_, _, _, rfl, c5, RdT.nil _ _, RdT.nil _ _⟩), ⟨[.int .u8 2, .int .i64 4, .string zqB, .string zqA, .string zqA, .int .u8 0, .int .i64 0, .string zqA, zq8 c2 ([(⟨g.Kind, g.Num, g.Name, g.Field, g.Op, g.Kids⟩ : zc)] : List zc) c4, .slice none 0 0, .slice none 0 0], _, rfl, (zdc ⟨_, _, _, rfl, i2, RdT.nil _ _, RdT.nil _ _⟩), rfl⟩⟩ rfl (by decide) fun _ σ k9 z hO => ?_
 obtain ⟨Z, b0, rfl, -⟩ := z.form
 have hO := zq64 hO
 refine ze hO [] [(3, .slice Z ([(⟨(8 : UInt8), 3, zqA, zqA, zqA, (⟨(0 : UInt8), 0, zqA⟩ : zD), ([(⟨q.Kind, q.Num, q.Name, q.Field, q.Op, q.Kids⟩ : zc)] : List zc), [], []⟩ : zl), (⟨(2 : UInt8), 4, zqB, zqA, zqA, (⟨(0 : UInt8), 0, zqA⟩ : zD), ([(⟨g.Kind, g.Num, g.Name, g.Field, g.Op, g.Kids⟩ : zc)] : List zc), [], []⟩ : zl)] : List zl).length b0)] [0, 2] zqN fun j => ?_
 refine zd hO 2 [] [(14, .agg #[(.int .u8 1), (.int .i64 0), (.string zqA)]), (15, zq1 p0)] [2, 3] zqO fun j => ?_
 obtain ⟨h, i3, hF⟩ := zq7 hF
 refine zO hO (zeg i3) rfl fun _ σ _ _ hO f8 i4 => ?_
 have hL := hL.trans f8
 have z := z.le f8
 obtain ⟨l0, rfl, rfl, f9⟩ := i4
 obtain ⟨g0, g1, rfl, -⟩ := f9.form
 have hO := zq64 hO
 refine zbD (T := zbh) (l := ([(⟨h.Kind, h.Num, h.Name, h.Field, h.Op, h.Kids⟩ : zc)] : List zc)) (cs := [.int .u8 (h.Kind.toNat : Int), .int .i64 h.Num, .string h.Name, .string h.Field, .string h.Op, zq8 g0 h.Kids g1]) hO rfl ⟨[.int .u8 (h.Kind.toNat : Int), .int .i64 h.Num, .string h.Name, .string h.Field, .string h.Op, zq8 g0 h.Kids g1], _, rfl, (zc3 ⟨_, rfl, f9⟩), rfl⟩ rfl (by decide) fun _ σ l1 G hO => ?_
 obtain ⟨c6, c7, rfl, -⟩ := G.form
 have hO := zq65 hO
 refine zd hO 1 [] [(18, .agg #[(.int .u8 1), (.int .i64 1), (.string zqB), (.string zqA), (.string zqA), (.int .u8 1), (.int .i64 0), (.string zqA), (zq8 c6 ([(⟨h.Kind, h.Num, h.Name, h.Field, h.Op, h.Kids⟩ : zc)] : List zc) c7), (.slice none 0 0), (.slice none 0 0)])] [2, 3] zqN fun j => ?_
 obtain ⟨l2, i5, hF⟩ := zq7 hF
 refine zO hO (zfi (p0 := zqB) i5) rfl fun _ σ _ _ hO c8 i6 => ?_
 have hL := hL.trans c8
 have z := z.le c8
 have G := G.le c8
 obtain ⟨l3, rfl, rfl, S⟩ := i6
 obtain ⟨l4, l5, rfl, -⟩ := S.form
 have hO := zq65 hO
 obtain ⟨l6, i7, hF⟩ := zq7 hF
 refine zO hO (zeg i7) rfl fun _ σ _ _ hO b1 i8 => ?_
 have hL := hL.trans b1
 have z := z.le b1
 have G := G.le b1
 have S := S.le b1
 obtain ⟨l7, rfl, rfl, b3⟩ := i8
 obtain ⟨l8, l9, rfl, -⟩ := b3.form
 have hO := zq65 hO
 obtain ⟨o, i9, hF⟩ := zq7 hF
 refine zO hO (zgS (p0 := zqH) S b3 i9) rfl fun _ σ _ _ hO U j0 => ?_
 have hL := hL.trans U
 have z := z.le U
 have G := G.le U
 have S := S.le U
 have b3 := b3.le U
 obtain ⟨m0, rfl, rfl, g2⟩ := j0
 obtain ⟨g3, g4, rfl, -⟩ := g2.form
 have hO := zq65 hO
 refine zbD (T := zbh) (l := ([(⟨o.Kind, o.Num, o.Name, o.Field, o.Op, o.Kids⟩ : zc)] : List zc)) (cs := [.int .u8 (o.Kind.toNat : Int), .int .i64 o.Num, .string o.Name, .string o.Field, .string o.Op, zq8 g3 o.Kids g4]) hO rfl ⟨[.int .u8 (o.Kind.toNat : Int), .int .i64 o.Num, .string o.Name, .string o.Field, .string o.Op, zq8 g3 o.Kids g4], _, rfl, (zc3 ⟨_, rfl, g2⟩), rfl⟩ rfl (by decide) fun _ σ m1 b4 hO => ?_
 obtain ⟨c9, d0, rfl, -⟩ := b4.form
 have hO := zq66 hO
 refine zd hO 2 [] [(24, .agg #[(.int .u8 7), (.int .i64 2), (.string zqA), (.string zqA), (.string zqA), (.int .u8 0), (.int .i64 0), (.string zqA), (zq8 c9 ([(⟨o.Kind, o.Num, o.Name, o.Field, o.Op, o.Kids⟩ : zc)] : List zc) d0), (.slice Z ([(⟨(8 : UInt8), 3, zqA, zqA, zqA, (⟨(0 : UInt8), 0, zqA⟩ : zD), ([(⟨q.Kind, q.Num, q.Name, q.Field, q.Op, q.Kids⟩ : zc)] : List zc), [], []⟩ : zl), (⟨(2 : UInt8), 4, zqB, zqA, zqA, (⟨(0 : UInt8), 0, zqA⟩ : zD), ([(⟨g.Kind, g.Num, g.Name, g.Field, g.Op, g.Kids⟩ : zc)] : List zc), [], []⟩ : zl)] : List zl).length b0), (.slice none 0 0)])] [2, 18] zqN fun j => ?_
 obtain ⟨_, d5, V, hO⟩ := G.share hO (i := 4) rfl
 have hL := hL.trans d5
 have b4 := b4.le d5
 have z := z.le d5
 have hO := zq66 hO
 obtain ⟨_, d6, d7, hO⟩ := b4.share hO (i := 5) rfl
 have hL := hL.trans d6
 have V := V.le d6
 have z := z.le d6
 have hO := zq66 hO
 obtain ⟨_, d8, j1, hO⟩ := z.share hO (i := 3) rfl
 have hL := hL.trans d8
 have V := V.le d8
 have d7 := d7.le d8
 have hO := zq66 hO
 refine zbD (T := z9) (l := ([(⟨(1 : UInt8), 1, zqB, zqA, zqA, (⟨(1 : UInt8), 0, zqA⟩ : zD), ([(⟨h.Kind, h.Num, h.Name, h.Field, h.Op, h.Kids⟩ : zc)] : List zc), [], []⟩ : zl), (⟨(7 : UInt8), 2, zqA, zqA, zqA, (⟨(0 : UInt8), 0, zqA⟩ : zD), ([(⟨o.Kind, o.Num, o.Name, o.Field, o.Op, o.Kids⟩ : zc)] : List zc), ([(⟨(8 : UInt8), 3, zqA, zqA, zqA, (⟨(0 : UInt8), 0, zqA⟩ : zD), ([(⟨q.Kind, q.Num, q.Name, q.Field, q.Op, q.Kids⟩ : zc)] : List zc), [], []⟩ : zl), (⟨(2 : UInt8), 4, zqB, zqA, zqA, (⟨(0 : UInt8), 0, zqA⟩ : zD), ([(⟨g.Kind, g.Num, g.Name, g.Field, g.Op, g.Kids⟩ : zc)] : List zc), [], []⟩ : zl)] : List zl), []⟩ : zl)] : List zl)) (cs := [.int .u8 1, .int .i64 1, .string zqB, .string zqA, .string zqA, .int .u8 1, .int .i64 0, .string zqA, zq8 c6 ([(⟨h.Kind, h.Num, h.Name, h.Field, h.Op, h.Kids⟩ : zc)] : List zc) c7, .slice none 0 0, .slice none 0 0, .int .u8 7, .int .i64 2, .string zqA, .string zqA, .string zqA, .int .u8 0, .int .i64 0, .string zqA, zq8 c9 ([(⟨o.Kind, o.Num, o.Name, o.Field, o.Op, o.Kids⟩ : zc)] : List zc) d0, .slice Z ([(⟨(8 : UInt8), 3, zqA, zqA, zqA, (⟨(0 : UInt8), 0, zqA⟩ : zD), ([(⟨q.Kind, q.Num, q.Name, q.Field, q.Op, q.Kids⟩ : zc)] : List zc), [], []⟩ : zl), (⟨(2 : UInt8), 4, zqB, zqA, zqA, (⟨(0 : UInt8), 0, zqA⟩ : zD), ([(⟨g.Kind, g.Num, g.Name, g.Field, g.Op, g.Kids⟩ : zc)] : List zc), [], []⟩ : zl)] : List zl).length b0, .slice none 0 0]) hO rfl ⟨[.int .u8 1, .int .i64 1, .string zqB, .string zqA, .string zqA, .int .u8 1, .int .i64 0, .string zqA, zq8 c6 ([(⟨h.Kind, h.Num, h.Name, h.Field, h.Op, h.Kids⟩ : zc)] : List zc) c7, .slice none 0 0, .slice none 0 0], _, rfl, (zdc ⟨_, _, _, rfl, V, RdT.nil _ _, RdT.nil _ _⟩), ⟨[.int .u8 7, .int .i64 2, .string zqA, .string zqA, .string zqA, .int .u8 0, .int .i64 0, .string zqA, zq8 c9 ([(⟨o.Kind, o.Num, o.Name, o.Field, o.Op, o.Kids⟩ : zc)] : List zc) d0, .slice Z ([(⟨(8 : UInt8), 3, zqA, zqA, zqA, (⟨(0 : UInt8), 0, zqA⟩ : zD), ([(⟨q.Kind, q.Num, q.Name, q.Field, q.Op, q.Kids⟩ : zc)] : List zc), [], []⟩ : zl), (⟨(2 : UInt8), 4, zqB, zqA, zqA, (⟨(0 : UInt8), 0, zqA⟩ : zD), ([(⟨g.Kind, g.Num, g.Name, g.Field, g.Op, g.Kids⟩ : zc)] : List zc), [], []⟩ : zl)] : List zl).length b0, .slice none 0 0], _, rfl, (zdc ⟨_, _, _, rfl, d7, j1, RdT.nil _ _⟩), rfl⟩⟩ rfl (by decide) fun _ σ m2 d9 hO => ?_
 obtain ⟨b5, b6, rfl, -⟩ := d9.form
 have hO := zq67 hO
 refine ze hO [] [(4, .slice b5 ([(⟨(1 : UInt8), 1, zqB, zqA, zqA, (⟨(1 : UInt8), 0, zqA⟩ : zD), ([(⟨h.Kind, h.Num, h.Name, h.Field, h.Op, h.Kids⟩ : zc)] : List zc), [], []⟩ : zl), (⟨(7 : UInt8), 2, zqA, zqA, zqA, (⟨(0 : UInt8), 0, zqA⟩ : zD), ([(⟨o.Kind, o.Num, o.Name, o.Field, o.Op, o.Kids⟩ : zc)] : List zc), ([(⟨(8 : UInt8), 3, zqA, zqA, zqA, (⟨(0 : UInt8), 0, zqA⟩ : zD), ([(⟨q.Kind, q.Num, q.Name, q.Field, q.Op, q.Kids⟩ : zc)] : List zc), [], []⟩ : zl), (⟨(2 : UInt8), 4, zqB, zqA, zqA, (⟨(0 : UInt8), 0, zqA⟩ : zD), ([(⟨g.Kind, g.Num, g.Name, g.Field, g.Op, g.Kids⟩ : zc)] : List zc), [], []⟩ : zl)] : List zl), []⟩ : zl)] : List zl).length b6)] [2] zqM fun j => ?_
 refine zd hO 2 [] [(27, .agg #[(.string zqC), (.int .i64 1), (.slice none 0 0), (.int .u8 0), (.int .i64 0), (.string zqA), (.slice b5 ([(⟨(1 : UInt8), 1, zqB, zqA, zqA, (⟨(1 : UInt8), 0, zqA⟩ : zD), ([(⟨h.Kind, h.Num, h.Name, h.Field, h.Op, h.Kids⟩ : zc)] : List zc), [], []⟩ : zl), (⟨(7 : UInt8), 2, zqA, zqA, zqA, (⟨(0 : UInt8), 0, zqA⟩ : zD), ([(⟨o.Kind, o.Num, o.Name, o.Field, o.Op, o.Kids⟩ : zc)] : List zc), ([(⟨(8 : UInt8), 3, zqA, zqA, zqA, (⟨(0 : UInt8), 0, zqA⟩ : zD), ([(⟨q.Kind, q.Num, q.Name, q.Field, q.Op, q.Kids⟩ : zc)] : List zc), [], []⟩ : zl), (⟨(2 : UInt8), 4, zqB, zqA, zqA, (⟨(0 : UInt8), 0, zqA⟩ : zD), ([(⟨g.Kind, g.Num, g.Name, g.Field, g.Op, g.Kids⟩ : zc)] : List zc), [], []⟩ : zl)] : List zl), []⟩ : zl)] : List zl).length b6)])] [2] zqM fun j => ?_
 obtain ⟨_, g5, g6, hO⟩ := d9.share hO (i := 6) rfl
 have hL := hL.trans g5
 have hO := zq67 hO
 refine zbD (T := zp) (l := ([(⟨zqC, 1, [], (⟨(0 : UInt8), 0, zqA⟩ : zD), ([(⟨(1 : UInt8), 1, zqB, zqA, zqA, (⟨(1 : UInt8), 0, zqA⟩ : zD), ([(⟨h.Kind, h.Num, h.Name, h.Field, h.Op, h.Kids⟩ : zc)] : List zc), [], []⟩ : zl), (⟨(7 : UInt8), 2, zqA, zqA, zqA, (⟨(0 : UInt8), 0, zqA⟩ : zD), ([(⟨o.Kind, o.Num, o.Name, o.Field, o.Op, o.Kids⟩ : zc)] : List zc), ([(⟨(8 : UInt8), 3, zqA, zqA, zqA, (⟨(0 : UInt8), 0, zqA⟩ : zD), ([(⟨q.Kind, q.Num, q.Name, q.Field, q.Op, q.Kids⟩ : zc)] : List zc), [], []⟩ : zl), (⟨(2 : UInt8), 4, zqB, zqA, zqA, (⟨(0 : UInt8), 0, zqA⟩ : zD), ([(⟨g.Kind, g.Num, g.Name, g.Field, g.Op, g.Kids⟩ : zc)] : List zc), [], []⟩ : zl)] : List zl), []⟩ : zl)] : List zl)⟩ : zH)] : List zH)) (cs := [.string zqC, .int .i64 1, .slice none 0 0, .int .u8 0, .int .i64 0, .string zqA, .slice b5 ([(⟨(1 : UInt8), 1, zqB, zqA, zqA, (⟨(1 : UInt8), 0, zqA⟩ : zD), ([(⟨h.Kind, h.Num, h.Name, h.Field, h.Op, h.Kids⟩ : zc)] : List zc), [], []⟩ : zl), (⟨(7 : UInt8), 2, zqA, zqA, zqA, (⟨(0 : UInt8), 0, zqA⟩ : zD), ([(⟨o.Kind, o.Num, o.Name, o.Field, o.Op, o.Kids⟩ : zc)] : List zc), ([(⟨(8 : UInt8), 3, zqA, zqA, zqA, (⟨(0 : UInt8), 0, zqA⟩ : zD), ([(⟨q.Kind, q.Num, q.Name, q.Field, q.Op, q.Kids⟩ : zc)] : List zc), [], []⟩ : zl), (⟨(2 : UInt8), 4, zqB, zqA, zqA, (⟨(0 : UInt8), 0, zqA⟩ : zD), ([(⟨g.Kind, g.Num, g.Name, g.Field, g.Op, g.Kids⟩ : zc)] : List zc), [], []⟩ : zl)] : List zl), []⟩ : zl)] : List zl).length b6]) hO rfl ⟨[.string zqC, .int .i64 1, .slice none 0 0, .int .u8 0, .int .i64 0, .string zqA, .slice b5 ([(⟨(1 : UInt8), 1, zqB, zqA, zqA, (⟨(1 : UInt8), 0, zqA⟩ : zD), ([(⟨h.Kind, h.Num, h.Name, h.Field, h.Op, h.Kids⟩ : zc)] : List zc), [], []⟩ : zl), (⟨(7 : UInt8), 2, zqA, zqA, zqA, (⟨(0 : UInt8), 0, zqA⟩ : zD), ([(⟨o.Kind, o.Num, o.Name, o.Field, o.Op, o.Kids⟩ : zc)] : List zc), ([(⟨(8 : UInt8), 3, zqA, zqA, zqA, (⟨(0 : UInt8), 0, zqA⟩ : zD), ([(⟨q.Kind, q.Num, q.Name, q.Field, q.Op, q.Kids⟩ : zc)] : List zc), [], []⟩ : zl), (⟨(2 : UInt8), 4, zqB, zqA, zqA, (⟨(0 : UInt8), 0, zqA⟩ : zD), ([(⟨g.Kind, g.Num, g.Name, g.Field, g.Op, g.Kids⟩ : zc)] : List zc), [], []⟩ : zl)] : List zl), []⟩ : zl)] : List zl).length b6], _, rfl, ⟨_, _, rfl, RdT.nil _ _, g6⟩, rfl⟩ rfl (by decide) fun _ σ j7 f0 hO => ?_
 obtain ⟨g7, g8, rfl, -⟩ := f0.form
 have hO := zq68 hO
 refine zN hO 1 [] [(2, zq2 b2), (29, .agg #[(.slice none 0 0), (.slice g7 ([(⟨zqC, 1, [], (⟨(0 : UInt8), 0, zqA⟩ : zD), ([(⟨(1 : UInt8), 1, zqB, zqA, zqA, (⟨(1 : UInt8), 0, zqA⟩ : zD), ([(⟨h.Kind, h.Num, h.Name, h.Field, h.Op, h.Kids⟩ : zc)] : List zc), [], []⟩ : zl), (⟨(7 : UInt8), 2, zqA, zqA, zqA, (⟨(0 : UInt8), 0, zqA⟩ : zD), ([(⟨o.Kind, o.Num, o.Name, o.Field, o.Op, o.Kids⟩ : zc)] : List zc), ([(⟨(8 : UInt8), 3, zqA, zqA, zqA, (⟨(0 : UInt8), 0, zqA⟩ : zD), ([(⟨q.Kind, q.Num, q.Name, q.Field, q.Op, q.Kids⟩ : zc)] : List zc), [], []⟩ : zl), (⟨(2 : UInt8), 4, zqB, zqA, zqA, (⟨(0 : UInt8), 0, zqA⟩ : zD), ([(⟨g.Kind, g.Num, g.Name, g.Field, g.Op, g.Kids⟩ : zc)] : List zc), [], []⟩ : zl)] : List zl), []⟩ : zl)] : List zl)⟩ : zH)] : List zH).length g8)])] zqM fun j => ?_
 refine zE hO (i := 0) rfl (off := 0) rfl rfl rfl rfl (Nat.le_of_ble_eq_true rfl) rfl fun σ hO => ?_
 have hO := zq68 hO
 refine zf (zbb ?_)
 obtain ⟨_, g9, h0, hO⟩ := f0.share hO (i := 7) rfl
 have hL := hL.trans g9
 have hO := zq68 hO
 cases hF
 have j2 := hO.val (i := 0) rfl (off := 0) (agg := true) (n := 2) rfl
 have hO := hO.sel []
 exact hQ _ _ _ _ _ (zb9 rfl (j2) rfl) hO hL ⟨_, _, rfl, rfl, (RdT.nil _ _), h0⟩
theorem zkD {τ : Hp} {p0 : Int}  {rr : zm} (hF : zec p0 = some rr) :
  Ctr Try.prog 21 #[.int .i64 p0] τ [] (fun v τ' vs' => ∃ (bF bL bK : Nat) (k1 : List zc) (V1 : Value) (x : zc) (V3 : Value) (inn : List zl) (V2 : Value), v = .agg #[.slice none 0 0, .slice (some ⟨bF, 0, none⟩) 1 1] ∧ vs' = [some (bF, ⟨[.string zqC, .int .i64 1, .slice none 0 0, .int .u8 0, .int .i64 0, .string zqA, .slice (some ⟨bL, 0, none⟩) 2 2], 53, 7, true⟩), some (bL, ⟨[.int .u8 1, .int .i64 1, .string zqB, .string zqA, .string zqA, .int .u8 1, .int .i64 0, .string zqA, V1, .slice none 0 0, .slice none 0 0, .int .u8 7, .int .i64 2, .string zqA, .string zqA, .string zqA, .int .u8 0, .int .i64 0, .string zqA, .slice (some ⟨bK, 0, none⟩) 1 1, V2, .slice none 0 0], 73, 22, true⟩), some (bK, ⟨[.int .u8 (x.Kind.toNat : Int), .int .i64 x.Num, .string x.Name, .string x.Field, .string x.Op, V3], 71, 6, true⟩)] ∧ RdT zbh τ' V1 k1 ∧ RdT zbh τ' V3 x.Kids ∧ RdT z9 τ' V2 inn ∧ rr = (⟨[], [⟨zqC, 1, [], ⟨0, 0, zqA⟩, [⟨1, 1, zqB, zqA, zqA, ⟨1, 0, zqA⟩, k1, [], []⟩, ⟨7, 2, zqA, zqA, zqA, ⟨0, 0, zqA⟩, [⟨x.Kind, x.Num, x.Name, x.Field, x.Op, x.Kids⟩], inn, []⟩]⟩]⟩ : zm)) := by
 refine zbl (args := [.int .i64 p0]) hm Try.func21 s21 rfl fun w0 σ hO Q hQ => ?_
 unfold zec at hF
 have hL := Hp.le.refl τ
 show wpn _ _ a21.body _ _ _
 unfold a21
 dsimp only
 refine zbn hO fun b2 σ hO => ?_
 have hO := zq61 hO
 refine zf ?_
 obtain ⟨o, h4, hF⟩ := zq7 hF
 refine zO hO (zfi (p0 := zqB) h4) rfl fun _ σ _ _ hO h5 h6 => ?_
 have hL := hL.trans h5
 obtain ⟨v7, rfl, rfl, r8⟩ := h6
 obtain ⟨A9, c6, rfl, -⟩ := r8.form
 have hO := zq61 hO
 refine zbD (T := zbh) (l := ([(⟨o.Kind, o.Num, o.Name, o.Field, o.Op, o.Kids⟩ : zc)] : List zc)) (cs := [.int .u8 (o.Kind.toNat : Int), .int .i64 o.Num, .string o.Name, .string o.Field, .string o.Op, zq8 A9 o.Kids c6]) hO rfl ⟨[.int .u8 (o.Kind.toNat : Int), .int .i64 o.Num, .string o.Name, .string o.Field, .string o.Op, zq8 A9 o.Kids c6], _, rfl, (zc3 ⟨_, rfl, r8⟩), rfl⟩ rfl (by decide) fun _ σ i6 D hO => ?_
 obtain ⟨b3, b4, rfl, -⟩ := D.form
 have hO := zq62 hO
 refine zd hO 1 [] [(7, .agg #[(.int .u8 8), (.int .i64 3), (.string zqA), (.string zqA), (.string zqA), (.int .u8 0), (.int .i64 0), (.string zqA), (zq8 b3 ([(⟨o.Kind, o.Num, o.Name, o.Field, o.Op, o.Kids⟩ : zc)] : List zc) b4), (.slice none 0 0), (.slice none 0 0)])] [0, 2] zqN fun j => ?_
 obtain ⟨i7, f9, hF⟩ := zq7 hF
 refine zO hO (zfi (p0 := zqB) f9) rfl fun _ σ _ _ hO c7 g0 => ?_
 have hL := hL.trans c7
 have D := D.le c7
 obtain ⟨i8, rfl, rfl, S⟩ := g0
 obtain ⟨i9, j0, rfl, -⟩ := S.form
 have hO := zq62 hO
 obtain ⟨j1, g1, hF⟩ := zq7 hF
 refine zO hO (zeg g1) rfl fun _ σ _ _ hO b5 g2 => ?_
 have hL := hL.trans b5
 have D := D.le b5
 have S := S.le b5
 obtain ⟨j2, rfl, rfl, X⟩ := g2
 obtain ⟨j3, j4, rfl, -⟩ := X.form
 have hO := zq62 hO
 obtain ⟨g, g3, hF⟩ := zq7 hF
 refine zO hO (zgS (p0 := zqG) S X g3) rfl fun _ σ _ _ hO Y g4 => ?_
 have hL := hL.trans Y
 have D := D.le Y
 have S := S.le Y
 have X := X.le Y
 obtain ⟨j5, rfl, rfl, c8⟩ := g4
 obtain ⟨c9, d0, rfl, -⟩ := c8.form
 have hO := zq62 hO
 refine zbD (T := zbh) (l := ([(⟨g.Kind, g.Num, g.Name, g.Field, g.Op, g.Kids⟩ : zc)] : List zc)) (cs := [.int .u8 (g.Kind.toNat : Int), .int .i64 g.Num, .string g.Name, .string g.Field, .string g.Op, zq8 c9 g.Kids d0]) hO rfl ⟨[.int .u8 (g.Kind.toNat : Int), .int .i64 g.Num, .string g.Name, .string g.Field, .string g.Op, zq8 c9 g.Kids d0], _, rfl, (zc3 ⟨_, rfl, c8⟩), rfl⟩ rfl (by decide) fun _ σ j6 Z hO => ?_
 obtain ⟨b6, b7, rfl, -⟩ := Z.form
 have hO := zq63 hO
 refine zd hO 1 [] [(12, .agg #[(.int .u8 2), (.int .i64 4), (.string zqB), (.string zqA), (.string zqA), (.int .u8 0), (.int .i64 0), (.string zqA), (zq8 b6 ([(⟨g.Kind, g.Num, g.Name, g.Field, g.Op, g.Kids⟩ : zc)] : List zc) b7), (.slice none 0 0), (.slice none 0 0)])] [0, 2, 7] zqO fun j => ?_
 obtain ⟨_, d5, b8, hO⟩ := D.share hO (i := 1) rfl
 have hL := hL.trans d5
 have Z := Z.le d5
 have hO := zq63 hO
 obtain ⟨_, d6, g5, hO⟩ := Z.share hO (i := 2) rfl
 have hL := hL.trans d6
 have b8 := b8.le d6
 have hO := zq63 hO
 refine zbD (T := z9) (l := ([(⟨(8 : UInt8), 3, zqA, zqA, zqA, (⟨(0 : UInt8), 0, zqA⟩ : zD), ([(⟨o.Kind, o.Num, o.Name, o.Field, o.Op, o.Kids⟩ : zc)] : List zc), [], []⟩ : zl), (⟨(2 : UInt8), 4, zqB, zqA, zqA, (⟨(0 : UInt8), 0, zqA⟩ : zD), ([(⟨g.Kind, g.Num, g.Name, g.Field, g.Op, g.Kids⟩ : zc)] : List zc), [], []⟩ : zl)] : List zl)) (cs := [.int .u8 8, .int .i64 3, .string zqA, .string zqA, .string zqA, .int .u8 0, .int .i64 0, .string zqA, zq8 b3 ([(⟨o.Kind, o.Num, o.Name, o.Field, o.Op, o.Kids⟩ : zc)] : List zc) b4, .slice none 0 0, .slice none 0 0, .int .u8 2, .int .i64 4, .string zqB, .string zqA, .string zqA, .int .u8 0, .int .i64 0, .string zqA, zq8 b6 ([(⟨g.Kind, g.Num, g.Name, g.Field, g.Op, g.Kids⟩ : zc)] : List zc) b7, .slice none 0 0, .slice none 0 0]) hO rfl ⟨[.int .u8 8, .int .i64 3, .string zqA, .string zqA, .string zqA, .int .u8 0, .int .i64 0, .string zqA, zq8 b3 ([(⟨o.Kind, o.Num, o.Name, o.Field, o.Op, o.Kids⟩ : zc)] : List zc) b4, .slice none 0 0, .slice none 0 0], _, rfl, (zdc ⟨_, _, _, rfl, b8, RdT.nil _ _, RdT.nil _ _⟩), ⟨[.int .u8 2, .int .i64 4, .string zqB, .string zqA, .string zqA, .int .u8 0, .int .i64 0, .string zqA, zq8 b6 ([(⟨g.Kind, g.Num, g.Name, g.Field, g.Op, g.Kids⟩ : zc)] : List zc) b7, .slice none 0 0, .slice none 0 0], _, rfl, (zdc ⟨_, _, _, rfl, g5, RdT.nil _ _, RdT.nil _ _⟩), rfl⟩⟩ rfl (by decide) fun _ σ j7 z hO => ?_
 obtain ⟨b9, c0, rfl, -⟩ := z.form
 have hO := zq64 hO
 refine ze hO [] [(3, .slice b9 ([(⟨(8 : UInt8), 3, zqA, zqA, zqA, (⟨(0 : UInt8), 0, zqA⟩ : zD), ([(⟨o.Kind, o.Num, o.Name, o.Field, o.Op, o.Kids⟩ : zc)] : List zc), [], []⟩ : zl), (⟨(2 : UInt8), 4, zqB, zqA, zqA, (⟨(0 : UInt8), 0, zqA⟩ : zD), ([(⟨g.Kind, g.Num, g.Name, g.Field, g.Op, g.Kids⟩ : zc)] : List zc), [], []⟩ : zl)] : List zl).length c0)] [0, 2] zqN fun j => ?_
 refine zd hO 2 [] [(14, .agg #[(.int .u8 1), (.int .i64 0), (.string zqA)]), (15, zq1 p0)] [2, 3] zqO fun j => ?_
 obtain ⟨q, g6, hF⟩ := zq7 hF
 refine zO hO (zeg g6) rfl fun _ σ _ _ hO d7 g7 => ?_
 have hL := hL.trans d7
 have z := z.le d7
 obtain ⟨j8, rfl, rfl, d8⟩ := g7
 obtain ⟨d9, f0, rfl, -⟩ := d8.form
 have hO := zq64 hO
 refine zbD (T := zbh) (l := ([(⟨q.Kind, q.Num, q.Name, q.Field, q.Op, q.Kids⟩ : zc)] : List zc)) (cs := [.int .u8 (q.Kind.toNat : Int), .int .i64 q.Num, .string q.Name, .string q.Field, .string q.Op, zq8 d9 q.Kids f0]) hO rfl ⟨[.int .u8 (q.Kind.toNat : Int), .int .i64 q.Num, .string q.Name, .string q.Field, .string q.Op, zq8 d9 q.Kids f0], _, rfl, (zc3 ⟨_, rfl, d8⟩), rfl⟩ rfl (by decide) fun _ σ j9 G hO => ?_
 obtain ⟨f1, f2, rfl, -⟩ := G.form
 have hO := zq65 hO
 refine zd hO 1 [] [(18, .agg #[(.int .u8 1), (.int .i64 1), (.string zqB), (.string zqA), (.string zqA), (.int .u8 1), (.int .i64 0), (.string zqA), (zq8 f1 ([(⟨q.Kind, q.Num, q.Name, q.Field, q.Op, q.Kids⟩ : zc)] : List zc) f2), (.slice none 0 0), (.slice none 0 0)])] [2, 3] zqN fun j => ?_
 obtain ⟨k0, g8, hF⟩ := zq7 hF
 refine zO hO (zfi (p0 := zqB) g8) rfl fun _ σ _ _ hO c1 g9 => ?_
 have hL := hL.trans c1
 have z := z.le c1
 have G := G.le c1
 obtain ⟨k2, rfl, rfl, U⟩ := g9
 obtain ⟨k3, k4, rfl, -⟩ := U.form
 have hO := zq65 hO
 obtain ⟨k5, h0, hF⟩ := zq7 hF
 refine zO hO (zeg h0) rfl fun _ σ _ _ hO b0 h1 => ?_
 have hL := hL.trans b0
 have z := z.le b0
 have G := G.le b0
 have U := U.le b0
 obtain ⟨k6, rfl, rfl, b1⟩ := h1
 obtain ⟨k7, k8, rfl, -⟩ := b1.form
 have hO := zq65 hO
 obtain ⟨I, h2, hF⟩ := zq7 hF
 refine zO hO (zgS (p0 := zqH) U b1 h2) rfl fun _ σ _ _ hO W h3 => ?_
 have hL := hL.trans W
 have z := z.le W
 have G := G.le W
 have U := U.le W
 have b1 := b1.le W
 obtain ⟨k9, rfl, rfl, V⟩ := h3
 obtain ⟨h7, h8, rfl, -⟩ := V.form
 have hO := zq65 hO
 refine zhV (cs := [.int .u8 (I.Kind.toNat : Int), .int .i64 I.Num, .string I.Name, .string I.Field, .string I.Op, .slice h7 I.Kids.length h8]) hO rfl fun bK σ hO => ?_
 have hO := zq66 hO
 refine zd hO 2 [] [(24, .agg #[.int .u8 7, .int .i64 2, .string zqA, .string zqA, .string zqA, .int .u8 0, .int .i64 0, .string zqA, .slice (some ⟨bK, 0, none⟩) 1 1, .slice b9 ([(⟨(8 : UInt8), 3, zqA, zqA, zqA, (⟨(0 : UInt8), 0, zqA⟩ : zD), ([(⟨o.Kind, o.Num, o.Name, o.Field, o.Op, o.Kids⟩ : zc)] : List zc), [], []⟩ : zl), (⟨(2 : UInt8), 4, zqB, zqA, zqA, (⟨(0 : UInt8), 0, zqA⟩ : zD), ([(⟨g.Kind, g.Num, g.Name, g.Field, g.Op, g.Kids⟩ : zc)] : List zc), [], []⟩ : zl)] : List zl).length c0, .slice none 0 0])] [2, 18] zqN fun j => ?_
 obtain ⟨_, c2, c4, hO⟩ := G.share hO (i := 4) rfl
 have hL := hL.trans c2
 have z := z.le c2
 have V := V.le c2
 have hO := zq66 hO
 obtain ⟨_, c5, h9, hO⟩ := z.share hO (i := 3) rfl
 have hL := hL.trans c5
 have c4 := c4.le c5
 have V := V.le c5
 have hO := zq66 hO
 refine zhV (cs := [.int .u8 1, .int .i64 1, .string zqB, .string zqA, .string zqA, .int .u8 1, .int .i64 0, .string zqA, zq8 f1 ([(⟨q.Kind, q.Num, q.Name, q.Field, q.Op, q.Kids⟩ : zc)] : List zc) f2, .slice none 0 0, .slice none 0 0, .int .u8 7, .int .i64 2, .string zqA, .string zqA, .string zqA, .int .u8 0, .int .i64 0, .string zqA, .slice (some ⟨bK, 0, none⟩) 1 1, .slice b9 ([(⟨(8 : UInt8), 3, zqA, zqA, zqA, (⟨(0 : UInt8), 0, zqA⟩ : zD), ([(⟨o.Kind, o.Num, o.Name, o.Field, o.Op, o.Kids⟩ : zc)] : List zc), [], []⟩ : zl), (⟨(2 : UInt8), 4, zqB, zqA, zqA, (⟨(0 : UInt8), 0, zqA⟩ : zD), ([(⟨g.Kind, g.Num, g.Name, g.Field, g.Op, g.Kids⟩ : zc)] : List zc), [], []⟩ : zl)] : List zl).length c0, .slice none 0 0]) hO rfl fun bL σ hO => ?_
 have hO := zq67 hO
 refine ze hO [] [(4, .slice (some ⟨bL, 0, none⟩) 2 2)] [2] zqM fun j => ?_
 refine zd hO 2 [] [(27, .agg #[.string zqC, .int .i64 1, .slice none 0 0, .int .u8 0, .int .i64 0, .string zqA, .slice (some ⟨bL, 0, none⟩) 2 2])] [2] zqM fun j => ?_
 refine zhV (cs := [.string zqC, .int .i64 1, .slice none 0 0, .int .u8 0, .int .i64 0, .string zqA, .slice (some ⟨bL, 0, none⟩) 2 2]) hO rfl fun bF σ hO => ?_
 have hO := zq68 hO
 refine zN hO 1 [] [(2, zq2 b2), (29, .agg #[(.slice none 0 0), .slice (some ⟨bF, 0, none⟩) 1 1])] zqM fun j => ?_
 refine zE hO (i := 0) rfl (off := 0) rfl rfl rfl rfl (Nat.le_of_ble_eq_true rfl) rfl fun σ hO => ?_
 have hO := zq68 hO
 refine zf (zbb ?_)
 cases hF
 have i0 := hO.val (i := 0) rfl (off := 0) (agg := true) (n := 2) rfl
 have hO := hO.sel [7, 6, 5]
 exact hQ _ _ _ _ _ (zb9 rfl (i0) rfl) hO hL ⟨bF, bL, bK, _, _, I, _, _, _, rfl, rfl, c4, V, h9, rfl⟩
def zk1 (p : zm) : Option zm := match p with
 | ⟨s, [⟨a, b, c, d, [x, y]⟩]⟩ => some ⟨s, [⟨a, b, c, d, [⟨x.Kind, x.Line, zqE, x.Field, x.Call, x.Type_, x.Kids, x.Body, x.Else⟩, y]⟩]⟩
 | _ => none
def zlS (p : zm) : Option zm := match p with
 | ⟨s, [⟨a, b, c, d, [x, y]⟩]⟩ => some ⟨s, [⟨a, b, c, d, [x, ⟨y.Kind, y.Line, y.Name, y.Field, y.Call, y.Type_, [⟨1, 1, zqA, zqA, zqA, []⟩], y.Body, y.Else⟩]⟩]⟩
 | _ => none
def okT : Option (zA × Int × Int) → Bool
 | some (⟨[⟨_, _, _, _, [_, _]⟩], _, [⟨_, _, []⟩, ⟨_, _, [_]⟩, ⟨_, n2, _⟩, _]⟩, n, e) => n == 0 && (e == 0 && n2 == 3)
 | _ => false
def okE (n e : Int) : Option (zA × Int × Int) → Bool
 | some (_, k, h) => (k == n || n == -1) && h == e
 | _ => false
def zj4 (F : zm → Option (zA × Int × Int)) : Option zm → Bool
 | none => false
 | some p => okT (F p) && (okE 0 8 ((zk1 p).bind F) && (okE (-1) 9 ((zlS p).bind F) && okE 0 8 (F ⟨[], []⟩)))
theorem znu {o : Option (zA × Int × Int)} (h : okT o = true) : ∃ nm pr rs vs a1 a2 m g j q v s1 z s2 D, o = some ((⟨[⟨nm, pr, rs, vs, [a1, a2]⟩], m, [⟨g, j, []⟩, ⟨q, v, [s1]⟩, ⟨z, 3, s2⟩, D]⟩ : zA), 0, 0) := by
 unfold okT at h
 split at h
 ·simp only [Bool.and_eq_true, beq_iff_eq] at h
  obtain ⟨rfl, rfl, rfl⟩ := h
  exact ⟨_, _, _, _, _, _, _, _, _, _, _, _, _, _, _, rfl⟩
 ·cases h
theorem zjQ {n e : Int} {o : Option (zA × Int × Int)} (h : okE n e o = true) : ∃ t k, o = some (t, k, e) ∧ (n ≠ -1 → k = n) := by
 unfold okE at h
 split at h
 ·simp only [Bool.and_eq_true, Bool.or_eq_true, beq_iff_eq] at h
  obtain ⟨g, rfl⟩ := h
  exact ⟨_, _, rfl, fun hn => g.resolve_right hn⟩
 ·cases h
theorem okW : zj4 zcE (zec 2) = true := by kernel_rfl
theorem zmD : ∃ p, zec 2 = some p ∧ (∃ nm pr rs vs a1 a2 m q v z D s1 G s2 I, zcE p = some ((⟨[⟨nm, pr, rs, vs, [a1, a2]⟩], m, [⟨q, v, []⟩, ⟨z, D, [s1]⟩, ⟨G, 3, s2⟩, I]⟩ : zA), 0, 0)) ∧ (∃ t, (zk1 p).bind zcE = some (t, 0, 8)) ∧ (∃ t k, (zlS p).bind zcE = some (t, k, 9)) ∧ ∃ t, zcE ⟨[], []⟩ = some (t, 0, 8) := by
 have h := okW
 generalize zec 2 = o at h ⊢
 generalize zcE = F at h ⊢
 cases o with
 | none => cases h
 | some p =>
  simp only [zj4, Bool.and_eq_true] at h
  obtain ⟨S, U, V, W⟩ := h
  obtain ⟨X, k2, g, Y⟩ := zjQ U
  obtain ⟨Z, k3, g3, e3⟩ := zjQ V
  obtain ⟨t4, k4, j, e4⟩ := zjQ W
  rw [Y (by decide)] at g
  rw [e4 (by decide)] at j
  exact ⟨p, rfl, znu S, ⟨X, g⟩, ⟨Z, k3, g3⟩, t4, j⟩
theorem zm6 {τ : Hp} : Ctr Try.prog 9 #[] τ [] (fun v τ' vs' => v = .bool true ∧ vs' = []) := by
 obtain ⟨p, hp, ⟨nm, pr, rs, vs, a1, a2, m, f0, l0, f1, l1, s1, f2, s2, x3, ht⟩, ⟨t2, hn⟩, ⟨t3, k3, hk⟩, t4, h4⟩ := zmD
 refine zbl (args := []) hm Try.func9 s9 rfl fun w0 σ hO Q hQ => ?_
 have hL := Hp.le.refl τ
 show wpn _ _ a9.body _ _ _
 unfold a9
 dsimp only
 refine zz hO [] [] trivial fun j => ?_
 refine zO hO (zpj hp) rfl fun _ σ _ _ hO h5 h6 => ?_
 have hL := hL.trans h5
 obtain ⟨v7, v8, rfl, rfl, r7, r8⟩ := h6
 have hO : Obs _ _ [] := hO
 refine zO hO (zeQ r7 r8 ht) rfl fun _ σ _ _ hO h9 d6 => ?_
 have hL := hL.trans h9
 obtain ⟨i0, i1, rfl, rfl, rB, rP⟩ := d6
 obtain ⟨AB, cB, rfl, -⟩ := rB.form
 obtain ⟨AP, cP, rfl, -⟩ := rP.form
 have hO : Obs _ _ [] := hO
 refine zN hO 4 [] [(18, .agg #[.slice AB 1 cB, .int .i64 m, .slice AP 4 cP]), (19, zq1 0), (20, zq1 0)] ⟨rfl, rfl, rfl, trivial⟩ fun j => ?_
 refine zbn hO fun h σ hO => ?_
 have hO := zq61 hO
 refine zE hO (i := 0) rfl (off := 0) rfl rfl rfl rfl (Nat.le_of_ble_eq_true rfl) rfl fun σ hO => ?_
 have hO := zq61 hO
 refine zz hO [] [(1, zq2 h), (2, zq1 0), (3, zq1 0)] ⟨rfl, rfl, rfl, trivial⟩ fun j => ?_
 -- p
 refine zO hO (zkD hp) rfl fun _ σ _ _ hO W d7 => ?_
 have hL := hL.trans W
 have rB := rB.le W
 have rP := rP.le W
 obtain ⟨bF, bL, bK, D, X, x, V3, inn, Y, rfl, rfl, o, U, z, hpe⟩ := d7
 have hO := zq64 hO
 refine zbn hO fun b4 σ hO => ?_
 have hO := zq65 hO
 refine zE hO (i := 4) rfl (off := 0) rfl rfl rfl rfl (Nat.le_of_ble_eq_true rfl) rfl fun σ hO => ?_
 have hO := zq65 hO
 refine zf (zN hO 2 [4] [(1, zq2 h), (2, zq1 0), (3, zq1 0), (4, zq2 b4), (23, .slice (some ⟨bF, 0, none⟩) 1 1)] ⟨⟨rfl, rfl⟩, rfl, rfl, rfl, rfl, rfl, trivial⟩ fun j => ?_)
 refine zf7 rfl rfl (by decide) (by decide) ?_
 refine zN hO 2 [1] [(1, zq2 h), (2, zq1 0), (3, zq1 0), (4, zq2 b4), (26, .slice (some ⟨bL, 0, none⟩) 2 2)] ⟨⟨rfl, rfl⟩, rfl, rfl, rfl, rfl, rfl, trivial⟩ fun j => ?_
 refine zf7 rfl rfl (by decide) (by decide) ?_
 refine zN hO 1 [] [(1, zq2 h), (2, zq1 0), (3, zq1 0), (4, zq2 b4), (28, .pointer (some ⟨bL, 2, none⟩))] ⟨rfl, rfl, rfl, rfl, rfl, trivial⟩ fun j => ?_
 refine zE hO (i := 2) rfl (off := 2) rfl rfl rfl rfl (Nat.le_of_ble_eq_true rfl) rfl fun σ hO => ?_
 have hO : Obs _ _ [_, some (bF, ⟨[.string zqC, .int .i64 1, .slice none 0 0, .int .u8 0, .int .i64 0, .string zqA, .slice (some ⟨bL, 0, none⟩) 2 2], 53, 7, true⟩), some (bL, ⟨[.int .u8 1, .int .i64 1, .string zqE, .string zqA, .string zqA, .int .u8 1, .int .i64 0, .string zqA, X, .slice none 0 0, .slice none 0 0, .int .u8 7, .int .i64 2, .string zqA, .string zqA, .string zqA, .int .u8 0, .int .i64 0, .string zqA, .slice (some ⟨bK, 0, none⟩) 1 1, Y, .slice none 0 0], 73, 22, true⟩), some (bK, ⟨[.int .u8 (x.Kind.toNat : Int), .int .i64 x.Num, .string x.Name, .string x.Field, .string x.Op, V3], 71, 6, true⟩), _] := hO
 refine zf (zN hO 1 [4] [(1, zq2 h), (2, zq1 0), (3, zq1 0), (30, .agg #[.slice none 0 0, .slice (some ⟨bF, 0, none⟩) 1 1])] ⟨⟨rfl, rfl⟩, rfl, rfl, rfl, rfl, trivial⟩ fun j => ?_)
 obtain ⟨_, G, rK, hO⟩ := (za.ofRow (T := zbh) (l := [⟨x.Kind, x.Num, x.Name, x.Field, x.Op, x.Kids⟩]) (n := 1) (ty := 71) (bb := bK) ⟨[.int .u8 (x.Kind.toNat : Int), .int .i64 x.Num, .string x.Name, .string x.Field, .string x.Op, V3], _, rfl, zc3 ⟨_, rfl, U⟩, rfl⟩ rfl rfl (by decide)).share hO (i := 3) rfl
 have hL := hL.trans G
 have rB := rB.le G
 have rP := rP.le G
 have o := o.le G
 have z := z.le G
 have hO := zq65 hO
 obtain ⟨_, Z, rL, hO⟩ := (za.ofRow (T := z9) (l := [⟨1, 1, zqE, zqA, zqA, ⟨1, 0, zqA⟩, D, [], []⟩, ⟨7, 2, zqA, zqA, zqA, ⟨0, 0, zqA⟩, [⟨x.Kind, x.Num, x.Name, x.Field, x.Op, x.Kids⟩], inn, []⟩]) (n := 2) (ty := 73) (bb := bL) ⟨[.int .u8 1, .int .i64 1, .string zqE, .string zqA, .string zqA, .int .u8 1, .int .i64 0, .string zqA, X, .slice none 0 0, .slice none 0 0], _, rfl, zdc ⟨_, _, _, rfl, o, RdT.nil _ _, RdT.nil _ _⟩, ⟨[.int .u8 7, .int .i64 2, .string zqA, .string zqA, .string zqA, .int .u8 0, .int .i64 0, .string zqA, .slice (some ⟨bK, 0, none⟩) 1 1, Y, .slice none 0 0], _, rfl, zdc ⟨_, _, _, rfl, rK, z, RdT.nil _ _⟩, rfl⟩⟩ rfl rfl (by decide)).share hO (i := 2) rfl
 have hL := hL.trans Z
 have rB := rB.le Z
 have rP := rP.le Z
 have hO := zq65 hO
 obtain ⟨_, b0, rF, hO⟩ := (za.ofRow (T := zp) (l := [⟨zqC, 1, [], ⟨0, 0, zqA⟩, [⟨1, 1, zqE, zqA, zqA, ⟨1, 0, zqA⟩, D, [], []⟩, ⟨7, 2, zqA, zqA, zqA, ⟨0, 0, zqA⟩, [⟨x.Kind, x.Num, x.Name, x.Field, x.Op, x.Kids⟩], inn, []⟩]⟩]) (n := 1) (ty := 53) (bb := bF) ⟨[.string zqC, .int .i64 1, .slice none 0 0, .int .u8 0, .int .i64 0, .string zqA, .slice (some ⟨bL, 0, none⟩) 2 2], _, rfl, ⟨_, _, rfl, RdT.nil _ _, rL⟩, rfl⟩ rfl rfl (by decide)).share hO (i := 1) rfl
 have hL := hL.trans b0
 have rB := rB.le b0
 have rP := rP.le b0
 have hO := zq65 hO
 have hn : zcE (⟨[], [⟨zqC, 1, [], ⟨0, 0, zqA⟩, [⟨1, 1, zqE, zqA, zqA, ⟨1, 0, zqA⟩, D, [], []⟩, ⟨7, 2, zqA, zqA, zqA, ⟨0, 0, zqA⟩, [⟨x.Kind, x.Num, x.Name, x.Field, x.Op, x.Kids⟩], inn, []⟩]⟩]⟩ : zm) = some (t2, 0, 8) := by
  rw [hpe] at hn
  exact hn
 refine zO hO (zeQ (p0 := (⟨[], [⟨zqC, 1, [], ⟨0, 0, zqA⟩, [⟨1, 1, zqE, zqA, zqA, ⟨1, 0, zqA⟩, D, [], []⟩, ⟨7, 2, zqA, zqA, zqA, ⟨0, 0, zqA⟩, [⟨x.Kind, x.Num, x.Name, x.Field, x.Op, x.Kids⟩], inn, []⟩]⟩]⟩ : zm)) (RdT.nil _ _) rF hn) rfl fun _ σ _ _ hO b2 d8 => ?_
 have hL := hL.trans b2
 have rB := rB.le b2
 have rP := rP.le b2
 obtain ⟨i2, i3, rfl, rfl, g1, g2⟩ := d8
 obtain ⟨d9, f3, rfl, -⟩ := g1.form
 obtain ⟨f4, f5, rfl, -⟩ := g2.form
 have hO := zq65 hO
 refine zN hO 4 [] [(1, zq2 h), (2, zq1 0), (3, zq1 0), (32, .agg #[zq8 d9 t2.Bodies f3, .int .i64 t2.Main, zq8 f4 t2.Points f5]), (33, zq1 0), (34, zq1 8)] ⟨rfl, rfl, rfl, rfl, rfl, rfl, trivial⟩ fun j => ?_
 refine zbn hO fun b5 σ hO => ?_
 have hO := zq66 hO
 refine zE hO (i := 5) rfl (off := 0) rfl rfl rfl rfl (Nat.le_of_ble_eq_true rfl) rfl fun σ hO => ?_
 have hO := hO.sel [0]
 have hO := zq61 hO
 refine zz hO [] [(1, zq2 h), (2, zq1 0), (3, zq1 0), (6, zq1 0), (7, zq1 8)] ⟨rfl, rfl, rfl, rfl, rfl, trivial⟩ fun j => ?_
 clear o z U rK rL rF hpe
 -- q
 refine zO hO (zkD hp) rfl fun _ σ _ _ hO b7 f6 => ?_
 have hL := hL.trans b7
 have rB := rB.le b7
 have rP := rP.le b7
 obtain ⟨bF, bL, bK, D, X, x, V3, inn, Y, rfl, rfl, o, U, z, hpe⟩ := f6
 have hO := zq64 hO
 refine zbn hO fun V σ hO => ?_
 have hO := zq65 hO
 refine zE hO (i := 4) rfl (off := 0) rfl rfl rfl rfl (Nat.le_of_ble_eq_true rfl) rfl fun σ hO => ?_
 have hO := zq65 hO
 refine zf (zco (zN hO 2 [4] [(1, zq2 h), (2, zq1 0), (3, zq1 0), (6, zq1 0), (7, zq1 8), (8, zq2 V), (36, .pointer (some ⟨V, 1, none⟩)), (37, .slice (some ⟨bF, 0, none⟩) 1 1)] ⟨⟨rfl, rfl⟩, rfl, rfl, rfl, rfl, rfl, rfl, rfl, rfl, trivial⟩ fun j => ?_))
 refine zf7 rfl rfl (by decide) (by decide) ?_
 refine zN hO 2 [1] [(1, zq2 h), (2, zq1 0), (3, zq1 0), (6, zq1 0), (7, zq1 8), (8, zq2 V), (36, .pointer (some ⟨V, 1, none⟩)), (37, .slice (some ⟨bF, 0, none⟩) 1 1), (39, .pointer (some ⟨bF, 6, none⟩)), (40, .slice (some ⟨bL, 0, none⟩) 2 2)] ⟨⟨rfl, rfl⟩, rfl, rfl, rfl, rfl, rfl, rfl, rfl, rfl, rfl, rfl, trivial⟩ fun j => ?_
 refine zf7 rfl rfl (by decide) (by decide) ?_
 refine zN hO 2 [2] [(1, zq2 h), (2, zq1 0), (3, zq1 0), (6, zq1 0), (7, zq1 8), (8, zq2 V), (36, .pointer (some ⟨V, 1, none⟩)), (37, .slice (some ⟨bF, 0, none⟩) 1 1), (39, .pointer (some ⟨bF, 6, none⟩)), (40, .slice (some ⟨bL, 0, none⟩) 2 2), (42, .pointer (some ⟨bL, 19, none⟩)), (43, .slice (some ⟨bK, 0, none⟩) 1 1)] ⟨⟨rfl, rfl⟩, rfl, rfl, rfl, rfl, rfl, rfl, rfl, rfl, rfl, rfl, rfl, rfl, trivial⟩ fun j => ?_
 refine zbJ (zO hO (zeg (p0 := 1) (rr := ⟨1, 1, zqA, zqA, zqA, []⟩) rfl) rfl fun _ σ _ _ hO I f7 => ?_)
 have hL := hL.trans I
 have rB := rB.le I
 have rP := rP.le I
 have o := o.le I
 have z := z.le I
 obtain ⟨i4, rfl, rfl, rN⟩ := f7
 obtain ⟨c6, c7, rfl, -⟩ := rN.form
 have hO := zq65 hO
 refine zf (zbH ⟨(zY rfl (hO.val (i := 2) rfl (off := 19) (agg := false) (n := 1) rfl) rfl), (zY rfl (hO.val (i := 1) rfl (off := 6) (agg := false) (n := 1) rfl) rfl), (zY rfl (hO.val (i := 4) rfl (off := 1) (agg := false) (n := 1) rfl) rfl), trivial⟩ ?_)
 refine zf7 rfl rfl (by decide) (by decide) ?_
 refine zE hO (i := 3) rfl (off := 0) rfl rfl rfl rfl (Nat.le_of_ble_eq_true rfl) rfl fun σ hO => ?_
 have hO : Obs _ _ [_, some (bF, ⟨[.string zqC, .int .i64 1, .slice none 0 0, .int .u8 0, .int .i64 0, .string zqA, .slice (some ⟨bL, 0, none⟩) 2 2], 53, 7, true⟩), some (bL, ⟨[.int .u8 1, .int .i64 1, .string zqB, .string zqA, .string zqA, .int .u8 1, .int .i64 0, .string zqA, X, .slice none 0 0, .slice none 0 0, .int .u8 7, .int .i64 2, .string zqA, .string zqA, .string zqA, .int .u8 0, .int .i64 0, .string zqA, .slice (some ⟨bK, 0, none⟩) 1 1, Y, .slice none 0 0], 73, 22, true⟩), some (bK, ⟨[.int .u8 1, .int .i64 1, .string zqA, .string zqA, .string zqA, .slice c6 0 c7], 71, 6, true⟩), _] := hO
 refine zf (zN hO 1 [4] [(1, zq2 h), (2, zq1 0), (3, zq1 0), (6, zq1 0), (7, zq1 8), (47, .agg #[.slice none 0 0, .slice (some ⟨bF, 0, none⟩) 1 1])] ⟨⟨rfl, rfl⟩, rfl, rfl, rfl, rfl, rfl, rfl, trivial⟩ fun j => ?_)
 obtain ⟨_, S, rK, hO⟩ := (za.ofRow (T := zbh) (l := [⟨1, 1, zqA, zqA, zqA, []⟩]) (n := 1) (ty := 71) (bb := bK) ⟨[.int .u8 1, .int .i64 1, .string zqA, .string zqA, .string zqA, .slice c6 0 c7], _, rfl, zc3 ⟨_, rfl, rN⟩, rfl⟩ rfl rfl (by decide)).share hO (i := 3) rfl
 have hL := hL.trans S
 have rB := rB.le S
 have rP := rP.le S
 have o := o.le S
 have z := z.le S
 have hO := zq65 hO
 obtain ⟨_, c0, rL, hO⟩ := (za.ofRow (T := z9) (l := [⟨1, 1, zqB, zqA, zqA, ⟨1, 0, zqA⟩, D, [], []⟩, ⟨7, 2, zqA, zqA, zqA, ⟨0, 0, zqA⟩, [⟨1, 1, zqA, zqA, zqA, []⟩], inn, []⟩]) (n := 2) (ty := 73) (bb := bL) ⟨[.int .u8 1, .int .i64 1, .string zqB, .string zqA, .string zqA, .int .u8 1, .int .i64 0, .string zqA, X, .slice none 0 0, .slice none 0 0], _, rfl, zdc ⟨_, _, _, rfl, o, RdT.nil _ _, RdT.nil _ _⟩, ⟨[.int .u8 7, .int .i64 2, .string zqA, .string zqA, .string zqA, .int .u8 0, .int .i64 0, .string zqA, .slice (some ⟨bK, 0, none⟩) 1 1, Y, .slice none 0 0], _, rfl, zdc ⟨_, _, _, rfl, rK, z, RdT.nil _ _⟩, rfl⟩⟩ rfl rfl (by decide)).share hO (i := 2) rfl
 have hL := hL.trans c0
 have rB := rB.le c0
 have rP := rP.le c0
 have hO := zq65 hO
 obtain ⟨_, c1, rF, hO⟩ := (za.ofRow (T := zp) (l := [⟨zqC, 1, [], ⟨0, 0, zqA⟩, [⟨1, 1, zqB, zqA, zqA, ⟨1, 0, zqA⟩, D, [], []⟩, ⟨7, 2, zqA, zqA, zqA, ⟨0, 0, zqA⟩, [⟨1, 1, zqA, zqA, zqA, []⟩], inn, []⟩]⟩]) (n := 1) (ty := 53) (bb := bF) ⟨[.string zqC, .int .i64 1, .slice none 0 0, .int .u8 0, .int .i64 0, .string zqA, .slice (some ⟨bL, 0, none⟩) 2 2], _, rfl, ⟨_, _, rfl, RdT.nil _ _, rL⟩, rfl⟩ rfl rfl (by decide)).share hO (i := 1) rfl
 have hL := hL.trans c1
 have rB := rB.le c1
 have rP := rP.le c1
 have hO := zq65 hO
 have hk : zcE (⟨[], [⟨zqC, 1, [], ⟨0, 0, zqA⟩, [⟨1, 1, zqB, zqA, zqA, ⟨1, 0, zqA⟩, D, [], []⟩, ⟨7, 2, zqA, zqA, zqA, ⟨0, 0, zqA⟩, [⟨1, 1, zqA, zqA, zqA, []⟩], inn, []⟩]⟩]⟩ : zm) = some (t3, k3, 9) := by
  rw [hpe] at hk
  exact hk
 refine zO hO (zeQ (p0 := (⟨[], [⟨zqC, 1, [], ⟨0, 0, zqA⟩, [⟨1, 1, zqB, zqA, zqA, ⟨1, 0, zqA⟩, D, [], []⟩, ⟨7, 2, zqA, zqA, zqA, ⟨0, 0, zqA⟩, [⟨1, 1, zqA, zqA, zqA, []⟩], inn, []⟩]⟩]⟩ : zm)) (RdT.nil _ _) rF hk) rfl fun _ σ _ _ hO c2 f8 => ?_
 have hL := hL.trans c2
 have rB := rB.le c2
 have rP := rP.le c2
 obtain ⟨i5, i6, rfl, rfl, g1, g2⟩ := f8
 obtain ⟨f9, g0, rfl, -⟩ := g1.form
 obtain ⟨g3, g4, rfl, -⟩ := g2.form
 have hO := zq65 hO
 refine zN hO 4 [] [(1, zq2 h), (2, zq1 0), (3, zq1 0), (6, zq1 0), (7, zq1 8), (49, .agg #[zq8 f9 t3.Bodies g0, .int .i64 t3.Main, zq8 g3 t3.Points g4]), (50, zq1 k3), (51, zq1 9)] ⟨rfl, rfl, rfl, rfl, rfl, rfl, rfl, rfl, trivial⟩ fun j => ?_
 refine zbn hO fun b9 σ hO => ?_
 have hO := zq66 hO
 refine zE hO (i := 5) rfl (off := 0) rfl rfl rfl rfl (Nat.le_of_ble_eq_true rfl) rfl fun σ hO => ?_
 have hO := hO.sel [0]
 have hO := zq61 hO
 refine zz hO [] [(1, zq2 h), (2, zq1 0), (3, zq1 0), (6, zq1 0), (7, zq1 8), (11, zq1 9)] ⟨rfl, rfl, rfl, rfl, rfl, rfl, trivial⟩ fun j => ?_
 clear o z U rK rL rF hpe rN
 -- no program
 refine zN hO 1 [] [(1, zq2 h), (2, zq1 0), (3, zq1 0), (6, zq1 0), (7, zq1 8), (11, zq1 9), (53, .agg #[.slice none 0 0, .slice none 0 0])] ⟨rfl, rfl, rfl, rfl, rfl, rfl, rfl, trivial⟩ fun j => ?_
 refine zO hO (zeQ (p0 := ⟨[], []⟩) (RdT.nil _ _) (RdT.nil _ _) h4) rfl fun _ σ _ _ hO c3 g5 => ?_
 have hL := hL.trans c3
 have rB := rB.le c3
 have rP := rP.le c3
 obtain ⟨i7, i8, rfl, rfl, g1, g2⟩ := g5
 obtain ⟨g6, g7, rfl, -⟩ := g1.form
 obtain ⟨g8, g9, rfl, -⟩ := g2.form
 have hO := zq61 hO
 refine zN hO 4 [] [(1, zq2 h), (2, zq1 0), (3, zq1 0), (6, zq1 0), (7, zq1 8), (11, zq1 9), (55, .agg #[zq8 g6 t4.Bodies g7, .int .i64 t4.Main, zq8 g8 t4.Points g9]), (56, zq1 0), (57, zq1 8)] ⟨rfl, rfl, rfl, rfl, rfl, rfl, rfl, rfl, rfl, trivial⟩ fun j => ?_
 refine zbn hO fun i9 σ hO => ?_
 have hO := zq62 hO
 refine zE hO (i := 1) rfl (off := 0) rfl rfl rfl rfl (Nat.le_of_ble_eq_true rfl) rfl fun σ hO => ?_
 have hO := hO.sel [0]
 have hO : Obs _ _ [some (h, ⟨[.slice AB 1 cB, .int .i64 m, .slice AP 4 cP], 31, 3, true⟩)] := hO
 refine zz hO [] [(1, zq2 h), (2, zq1 0), (3, zq1 0), (6, zq1 0), (7, zq1 8), (11, zq1 9), (13, zq1 0), (14, zq1 8)] ⟨rfl, rfl, rfl, rfl, rfl, rfl, rfl, rfl, trivial⟩ fun j => ?_
 -- what is answered
 refine zN hO 9 [0] [(1, zq2 h), (2, zq1 0), (3, zq1 0), (6, zq1 0), (7, zq1 8), (11, zq1 9), (13, zq1 0), (14, zq1 8), (70, .bool true)] ⟨⟨rfl, rfl⟩, fun _ => ⟨⟨rfl, rfl⟩, ⟨rfl, rfl⟩, fun _ => ⟨rfl, rfl, rfl, rfl, rfl, rfl, rfl, rfl, rfl, trivial⟩⟩⟩ fun j => ?_
 refine zbm rfl ?_
 refine zN hO 2 [0] [(1, zq2 h), (2, zq1 0), (3, zq1 0), (6, zq1 0), (7, zq1 8), (11, zq1 9), (13, zq1 0), (14, zq1 8), (70, .bool true), (72, .slice AP 4 cP)] ⟨⟨rfl, rfl⟩, rfl, rfl, rfl, rfl, rfl, rfl, rfl, rfl, rfl, rfl, trivial⟩ fun j => ?_
 refine zV (T := zr) rP hO.base rfl rfl (show zt _ 2 = some _ from rfl) (by decide) fun a _ g u => ?_
 obtain ⟨w, rfl, g⟩ := g
 obtain ⟨A, c, rfl, -⟩ := g.form
 refine zN hO 1 [] [(1, zq2 h), (2, zq1 0), (3, zq1 0), (6, zq1 0), (7, zq1 8), (11, zq1 9), (13, zq1 0), (14, zq1 8), (70, .bool true), (74, .pointer (some (a.add 1)))] ⟨rfl, rfl, rfl, rfl, rfl, rfl, rfl, rfl, rfl, rfl, trivial⟩ fun j => ?_
 refine zI rfl ((u.le hO.base).one 1 rfl) ?_
 refine zN hO 1 [] [(1, zq2 h), (2, zq1 0), (3, zq1 0), (6, zq1 0), (7, zq1 8), (11, zq1 9), (13, zq1 0), (14, zq1 8), (70, .bool true), (76, .bool true)] ⟨rfl, rfl, rfl, rfl, rfl, rfl, rfl, rfl, rfl, rfl, trivial⟩ fun j => ?_
 refine zM rfl ?_
 refine zN hO 1 [] [(1, zq2 h), (2, zq1 0), (3, zq1 0), (6, zq1 0), (7, zq1 8), (11, zq1 9), (13, zq1 0), (14, zq1 8), (78, .bool true)] ⟨rfl, rfl, rfl, rfl, rfl, rfl, rfl, rfl, rfl, trivial⟩ fun j => ?_
 refine zbm rfl ?_
 refine zN hO 2 [0] [(1, zq2 h), (2, zq1 0), (3, zq1 0), (6, zq1 0), (7, zq1 8), (11, zq1 9), (13, zq1 0), (14, zq1 8), (78, .bool true), (80, .slice AP 4 cP)] ⟨⟨rfl, rfl⟩, rfl, rfl, rfl, rfl, rfl, rfl, rfl, rfl, rfl, rfl, trivial⟩ fun j => ?_
 refine zV (T := zr) rP hO.base rfl rfl (show zt _ 1 = some _ from rfl) (by decide) fun a _ g u => ?_
 obtain ⟨w, rfl, g⟩ := g
 obtain ⟨A, c, rfl, -⟩ := g.form
 refine zN hO 1 [] [(1, zq2 h), (2, zq1 0), (3, zq1 0), (6, zq1 0), (7, zq1 8), (11, zq1 9), (13, zq1 0), (14, zq1 8), (78, .bool true), (82, .pointer (some (a.add 2)))] ⟨rfl, rfl, rfl, rfl, rfl, rfl, rfl, rfl, rfl, rfl, trivial⟩ fun j => ?_
 refine zI rfl ((u.le hO.base).one 2 rfl) ?_
 refine zN hO 2 [] [(1, zq2 h), (2, zq1 0), (3, zq1 0), (6, zq1 0), (7, zq1 8), (11, zq1 9), (13, zq1 0), (14, zq1 8), (78, .bool true), (85, .bool true)] ⟨rfl, rfl, rfl, rfl, rfl, rfl, rfl, rfl, rfl, rfl, trivial⟩ fun j => ?_
 refine zM rfl ?_
 refine zN hO 1 [] [(1, zq2 h), (2, zq1 0), (3, zq1 0), (6, zq1 0), (7, zq1 8), (11, zq1 9), (13, zq1 0), (14, zq1 8), (87, .bool true)] ⟨rfl, rfl, rfl, rfl, rfl, rfl, rfl, rfl, rfl, trivial⟩ fun j => ?_
 refine zbm rfl ?_
 refine zN hO 2 [0] [(1, zq2 h), (2, zq1 0), (3, zq1 0), (6, zq1 0), (7, zq1 8), (11, zq1 9), (13, zq1 0), (14, zq1 8), (87, .bool true), (89, .slice AP 4 cP)] ⟨⟨rfl, rfl⟩, rfl, rfl, rfl, rfl, rfl, rfl, rfl, rfl, rfl, rfl, trivial⟩ fun j => ?_
 refine zV (T := zr) rP hO.base rfl rfl (show zt _ 0 = some _ from rfl) (by decide) fun a _ g u => ?_
 obtain ⟨w, rfl, g⟩ := g
 obtain ⟨A, c, rfl, -⟩ := g.form
 refine zN hO 1 [] [(1, zq2 h), (2, zq1 0), (3, zq1 0), (6, zq1 0), (7, zq1 8), (11, zq1 9), (13, zq1 0), (14, zq1 8), (87, .bool true), (91, .pointer (some (a.add 2)))] ⟨rfl, rfl, rfl, rfl, rfl, rfl, rfl, rfl, rfl, rfl, trivial⟩ fun j => ?_
 refine zI rfl ((u.le hO.base).one 2 rfl) ?_
 refine zN hO 2 [] [(1, zq2 h), (2, zq1 0), (3, zq1 0), (6, zq1 0), (7, zq1 8), (11, zq1 9), (13, zq1 0), (14, zq1 8), (87, .bool true), (94, .bool true)] ⟨rfl, rfl, rfl, rfl, rfl, rfl, rfl, rfl, rfl, rfl, trivial⟩ fun j => ?_
 refine zM rfl ?_
 refine zN hO 4 [0] [(1, zq2 h), (2, zq1 0), (3, zq1 0), (6, zq1 0), (7, zq1 8), (11, zq1 9), (13, zq1 0), (14, zq1 8), (102, .bool true)] ⟨⟨rfl, rfl⟩, ⟨rfl, rfl⟩, fun _ => ⟨rfl, rfl, rfl, rfl, rfl, rfl, rfl, rfl, rfl, trivial⟩⟩ fun j => ?_
 refine zbm rfl ?_
 refine zN hO 2 [0] [(1, zq2 h), (2, zq1 0), (3, zq1 0), (6, zq1 0), (7, zq1 8), (11, zq1 9), (13, zq1 0), (14, zq1 8), (102, .bool true), (104, .slice AB 1 cB)] ⟨⟨rfl, rfl⟩, rfl, rfl, rfl, rfl, rfl, rfl, rfl, rfl, rfl, rfl, trivial⟩ fun j => ?_
 refine zV (T := zq) rB hO.base rfl rfl (show zt _ 0 = some _ from rfl) (by decide) fun a _ g u => ?_
 obtain ⟨w, w', rfl, g', g⟩ := g
 obtain ⟨A, c, rfl, -⟩ := g.form
 refine zN hO 1 [] [(1, zq2 h), (2, zq1 0), (3, zq1 0), (6, zq1 0), (7, zq1 8), (11, zq1 9), (13, zq1 0), (14, zq1 8), (102, .bool true), (106, .pointer (some (a.add 4)))] ⟨rfl, rfl, rfl, rfl, rfl, rfl, rfl, rfl, rfl, rfl, trivial⟩ fun j => ?_
 refine zI rfl ((u.le hO.base).one 4 rfl) ?_
 refine zN hO 2 [] [(1, zq2 h), (2, zq1 0), (3, zq1 0), (6, zq1 0), (7, zq1 8), (11, zq1 9), (13, zq1 0), (14, zq1 8), (102, .bool true), (109, .bool true)] ⟨rfl, rfl, rfl, rfl, rfl, rfl, rfl, rfl, rfl, rfl, trivial⟩ fun j => ?_
 refine zM rfl ?_
 refine zz hO [] [(0, .bool true)] ⟨⟨rfl, rfl⟩, fun _ => ⟨⟨rfl, rfl⟩, fun _ => ⟨⟨rfl, rfl⟩, fun _ => ⟨⟨rfl, rfl⟩, fun _ => ⟨⟨rfl, rfl⟩, fun _ => ⟨rfl, trivial⟩⟩⟩⟩⟩⟩ fun j => ?_
 refine zbb ?_
 have hO := hO.sel []
 exact hQ _ _ _ _ _ rfl hO hL ⟨rfl, rfl⟩
theorem zgn {τ : Hp}   {rr : Bool} (hF : zey  = some rr) :
  Ctr Try.prog 9 #[] τ [] (fun v τ' vs' => v = .bool rr ∧ vs' = []) := by
 cases hF
 exact zm6
def zl9 (gn : Nat) : Prop := ∀ {τ : Hp} {g : Value} {p0 : (List zi)} {h : Value} {p1 : (List zi)} (j : RdT zR τ g p0) (o : RdT zR τ h p1) {rr : Bool} (hF : (zcS gn) p0 p1 = some rr), Ctr Try.prog 37 #[g, h] τ [] (fun v τ' vs' => v = .bool rr ∧ vs' = [])
theorem zpd {gn : Nat} (ih_ref13_SameVals : zl9 gn) {τ : Hp} {v0 : Value} {p0 : (List zi)} {v1 : Value} {p1 : (List zi)} (r0 : RdT zR τ v0 p0) (r1 : RdT zR τ v1 p1) {rr : Bool} (hF : zfC (zcS gn) p0 p1 = some rr) :
  Ctr Try.prog 37 #[v0, v1] τ [] (fun v τ' vs' => v = .bool rr ∧ vs' = []) := by
 obtain ⟨h, o, rfl, -⟩ := r0.form
 obtain ⟨q, z, rfl, -⟩ := r1.form
 refine zbl (args := [.slice h p0.length o, .slice q p1.length z]) hm Try.func37 s37 rfl fun w0 σ hO Q hQ => ?_
 unfold zfC at hF
 have hL := Hp.le.refl τ
 show wpn _ _ a37.body _ _ _
 unfold a37
 dsimp only
 refine ze hO [] [] [0, 1] zqM fun j => ?_
 refine zj (ze hO [] [(10, .bool ((p0.length : Int) != (p1.length : Int)))] [0, 1] zqN fun j => ?_)
 refine zw hF rfl (fun hF => ?_) fun hF => ?_
 ·refine zj (zz hO [] [(4, .bool false)] zqL fun j => ?_)
  refine zbq ?_
  cases hF
  exact hQ _ _ _ _ _ rfl hO hL ⟨rfl, rfl⟩
 refine zF (zj (ze hO [] [(5, zq1 0)] [0, 1] zqN fun j => ?_))
 refine zba (zbP (fun (n : Nat) e' σ' => ∃ (g : Int) (τ' : Hp), agr [(0, zq8 h p0 o), (1, zq8 q p1 z), (5, zq1 g)] e' ∧ Obs τ' σ' [] ∧ Hp.le τ τ' ∧ zfm (zcS gn) p0 p1 n g = some rr) big ⟨0, _, zq0 zqM, hO, hL, hF⟩ ?_)
 clear hF hO hL
 rintro U e σ ⟨g, _, hA, hO, hL, hF⟩
 rw [← zQ _ _ hA]
 cases U with
 | zero => exact nomatch (show none = some rr from hF)
 | succ U =>
 replace hF : zd9 (zfm (zcS gn) p0 p1 U) (zcS gn) p0 p1 g = some rr := hF
 unfold zd9 at hF
 refine zj (ze hO [] [(14, .bool (decide (g < (p0.length : Int))))] [0, 1, 5] zqO fun j => ?_)
 refine zw hF rfl (fun hF => ?_) fun hF => ?_
 ·refine zF (zba (zco (zd hO 2 [] [(17, zq8 h p0 o), (18, zq1 g)] [0, 1, 5] zqP fun j => ?_)))
  obtain ⟨b3, b7, hF⟩ := zq7 hF
  refine zV (T := zR) (r0.le hL) hO.base rfl rfl b7 (by decide) fun a225 _ b8 b9 => ?_
  obtain ⟨i5, rfl, c2⟩ := zdm b8
  obtain ⟨i6, i7, rfl, -⟩ := c2.form
  refine zd hO 1 [] [(20, .pointer (some a225))] [0, 1, 5] zqO fun j => ?_
  refine zI rfl (b9.le hO.base).fst ?_
  refine zd hO 2 [] [(22, zq8 q p1 z), (23, zq1 g)] [0, 1, 5, 21] zqQ fun j => ?_
  obtain ⟨b4, c3, hF⟩ := zq7 hF
  refine zV (T := zR) (r1.le hL) hO.base rfl rfl c3 (by decide) fun a234 _ c4 c5 => ?_
  obtain ⟨i8, rfl, c6⟩ := zdm c4
  obtain ⟨i9, j0, rfl, -⟩ := c6.form
  refine zd hO 1 [] [(25, .pointer (some a234))] [0, 1, 5, 21] zqP fun j => ?_
  refine zI rfl (c5.le hO.base).fst ?_
  refine zd hO 2 [] [(28, .bool ((b3.Kind.toNat : Int) != (b4.Kind.toNat : Int)))] [0, 1, 5] zqO fun j => ?_
  obtain ⟨Y, c7, hF⟩ := zq7 hF
  refine zdE 2 [(40, .bool Y), (0, zq8 h p0 o), (1, zq8 q p1 z), (5, zq1 g)] (fun Q hQ => ?_) fun j => ?_
  ·have hF := c7
   rcases zbA hF with ⟨D, hF⟩ | ⟨D, hF⟩
   ·refine zbt (zq4 D) ?_
    refine zM (zq3 D) ?_
    refine zf ?_
    cases hF
    refine zg ?_
    exact hQ _ zqO
   refine zbm (zq4 D) ?_
   refine zd hO 2 [] [(29, zq8 h p0 o), (30, zq1 g)] [0, 1, 5, 28] zqQ fun j => ?_
   obtain ⟨b5, c8, hF⟩ := zq7 hF
   refine zV (T := zR) (r0.le hL) hO.base rfl rfl c8 (by decide) fun a246 _ c9 d0 => ?_
   obtain ⟨j1, rfl, d5⟩ := zdm c9
   obtain ⟨j2, j3, rfl, -⟩ := d5.form
   refine zd hO 1 [] [(32, .pointer (some (a246.add 1)))] [0, 1, 5, 28] zqP fun j => ?_
   refine zI rfl ((d0.le hO.base).one 1 rfl) ?_
   refine zN hO 2 [] [(0, zq8 h p0 o), (1, zq8 q p1 z), (5, zq1 g), (28, .bool ((b3.Kind.toNat : Int) != (b4.Kind.toNat : Int))), (33, .int .u8 (b5.Op.toNat : Int)), (34, zq8 q p1 z), (35, zq1 g)] zqR fun j => ?_
   obtain ⟨d6, d7, hF⟩ := zq7 hF
   refine zV (T := zR) (r1.le hL) hO.base rfl rfl d7 (by decide) fun a255 _ d8 d9 => ?_
   obtain ⟨j4, rfl, f0⟩ := zdm d8
   obtain ⟨j5, j6, rfl, -⟩ := f0.form
   refine zd hO 1 [] [(37, .pointer (some (a255.add 1)))] [0, 1, 5, 28, 33] zqQ fun j => ?_
   refine zI rfl ((d9.le hO.base).one 1 rfl) ?_
   refine zd hO 1 [] [(39, .bool ((b5.Op.toNat : Int) != (d6.Op.toNat : Int)))] [0, 1, 5, 28] zqP fun j => ?_
   refine zM (zq3 D) ?_
   refine zf ?_
   cases hF
   refine zg ?_
   exact hQ _ zqO
  refine zd hO 1 [] [(41, .bool Y)] [0, 1, 5] zqO fun j => ?_
  obtain ⟨Z, f1, hF⟩ := zq7 hF
  refine zdE 2 [(53, .bool Z), (0, zq8 h p0 o), (1, zq8 q p1 z), (5, zq1 g)] (fun Q hQ => ?_) fun j => ?_
  ·have hF := f1
   rcases zbA hF with ⟨G, hF⟩ | ⟨G, hF⟩
   ·refine zbt (zq4 G) ?_
    refine zM (zq3 G) ?_
    refine zf ?_
    cases hF
    refine zg ?_
    exact hQ _ zqO
   refine zbm (zq4 G) ?_
   refine zd hO 2 [] [(42, zq8 h p0 o), (43, zq1 g)] [0, 1, 5, 41] zqQ fun j => ?_
   obtain ⟨f2, f3, hF⟩ := zq7 hF
   refine zV (T := zR) (r0.le hL) hO.base rfl rfl f3 (by decide) fun a267 _ f4 f5 => ?_
   obtain ⟨j7, rfl, f6⟩ := zdm f4
   obtain ⟨j8, j9, rfl, -⟩ := f6.form
   refine zN hO 1 [] [(0, zq8 h p0 o), (1, zq8 q p1 z), (5, zq1 g), (41, .bool Y), (45, .pointer (some (a267.add 2)))] zqP fun j => ?_
   refine zI rfl ((f5.le hO.base).one 2 rfl) ?_
   refine zd hO 2 [] [(47, zq8 q p1 z), (48, zq1 g)] [0, 1, 5, 41, 46] zqR fun j => ?_
   obtain ⟨f7, f8, hF⟩ := zq7 hF
   refine zV (T := zR) (r1.le hL) hO.base rfl rfl f8 (by decide) fun a276 _ f9 g0 => ?_
   obtain ⟨k0, rfl, g1⟩ := zdm f9
   obtain ⟨k1, k2, rfl, -⟩ := g1.form
   refine zd hO 1 [] [(50, .pointer (some (a276.add 2)))] [0, 1, 5, 41, 46] zqQ fun j => ?_
   refine zI rfl ((g0.le hO.base).one 2 rfl) ?_
   refine zd hO 1 [] [(52, .bool (f2.Var != f7.Var))] [0, 1, 5, 41] zqP fun j => ?_
   refine zM (zq3 G) ?_
   refine zf ?_
   cases hF
   refine zg ?_
   exact hQ _ zqO
  refine zd hO 1 [] [(54, .bool Z)] [0, 1, 5] zqO fun j => ?_
  obtain ⟨b6, g2, hF⟩ := zq7 hF
  refine zdE 2 [(66, .bool b6), (0, zq8 h p0 o), (1, zq8 q p1 z), (5, zq1 g)] (fun Q hQ => ?_) fun j => ?_
  ·have hF := g2
   rcases zbA hF with ⟨I, hF⟩ | ⟨I, hF⟩
   ·refine zbt (zq4 I) ?_
    refine zM (zq3 I) ?_
    refine zf ?_
    cases hF
    refine zg ?_
    exact hQ _ zqO
   refine zbm (zq4 I) ?_
   refine zN hO 2 [] [(0, zq8 h p0 o), (1, zq8 q p1 z), (5, zq1 g), (54, .bool Z), (55, zq8 h p0 o), (56, zq1 g)] zqQ fun j => ?_
   obtain ⟨g3, g4, hF⟩ := zq7 hF
   refine zV (T := zR) (r0.le hL) hO.base rfl rfl g4 (by decide) fun a288 _ g5 g6 => ?_
   obtain ⟨k3, rfl, g7⟩ := zdm g5
   obtain ⟨k4, k5, rfl, -⟩ := g7.form
   refine zd hO 1 [] [(58, .pointer (some (a288.add 3)))] [0, 1, 5, 54] zqP fun j => ?_
   refine zI rfl ((g6.le hO.base).one 3 rfl) ?_
   refine zd hO 2 [] [(60, zq8 q p1 z), (61, zq1 g)] [0, 1, 5, 54, 59] zqR fun j => ?_
   obtain ⟨g8, g9, hF⟩ := zq7 hF
   refine zV (T := zR) (r1.le hL) hO.base rfl rfl g9 (by decide) fun a297 _ h0 h1 => ?_
   obtain ⟨k6, rfl, h2⟩ := zdm h0
   obtain ⟨k7, k8, rfl, -⟩ := h2.form
   refine zd hO 1 [] [(63, .pointer (some (a297.add 3)))] [0, 1, 5, 54, 59] zqQ fun j => ?_
   refine zI rfl ((h1.le hO.base).one 3 rfl) ?_
   refine zd hO 1 [] [(65, .bool (g3.Num != g8.Num))] [0, 1, 5, 54] zqP fun j => ?_
   refine zM (zq3 I) ?_
   refine zf ?_
   cases hF
   refine zg ?_
   exact hQ _ zqO
  refine zN hO 1 [] [(0, zq8 h p0 o), (1, zq8 q p1 z), (5, zq1 g), (67, .bool b6)] zqO fun j => ?_
  obtain ⟨h3, h4, hF⟩ := zq7 hF
  refine zb5 2 (fun e' σ' => ∃ (τ' : Hp), agr [(80, .bool h3), (0, zq8 h p0 o), (1, zq8 q p1 z), (5, zq1 g)] e' ∧ Obs τ' σ' [] ∧ Hp.le τ τ') ?_ ?_
  ·have hF := h4
   rcases zbA hF with ⟨S, hF⟩ | ⟨S, hF⟩
   ·refine zbt (zq4 S) ?_
    refine zM (zq3 S) ?_
    refine zf ?_
    cases hF
    refine zg ?_
    exact ⟨rfl, _, zq0 zqN, hO, hL⟩
   refine zbm (zq4 S) ?_
   refine zd hO 2 [] [(68, zq8 h p0 o), (69, zq1 g)] [0, 1, 5, 67] zqQ fun j => ?_
   obtain ⟨k9, h5, hF⟩ := zq7 hF
   refine zV (T := zR) (r0.le hL) hO.base rfl rfl h5 (by decide) fun a309 _ h6 h7 => ?_
   obtain ⟨l0, rfl, V⟩ := zdm h6
   obtain ⟨l1, l2, rfl, -⟩ := V.form
   refine zd hO 1 [] [(71, .pointer (some (a309.add 4)))] [0, 1, 5, 67] zqP fun j => ?_
   refine zI rfl ((h7.le hO.base).one 4 rfl) ?_
   refine zd hO 2 [] [(73, zq8 q p1 z), (74, zq1 g)] [0, 1, 5, 67, 72] zqR fun j => ?_
   obtain ⟨l3, h8, hF⟩ := zq7 hF
   refine zV (T := zR) (r1.le hL) hO.base rfl rfl h8 (by decide) fun a318 _ h9 b0 => ?_
   obtain ⟨l4, rfl, W⟩ := zdm h9
   obtain ⟨l5, l6, rfl, -⟩ := W.form
   refine zd hO 1 [] [(76, .pointer (some (a318.add 4)))] [0, 1, 5, 67, 72] zqQ fun j => ?_
   refine zI rfl ((b0.le hO.base).one 4 rfl) ?_
   obtain ⟨i0, i1, hF⟩ := zq7 hF
   refine zO hO (ih_ref13_SameVals V W i1) rfl fun _ σ _ _ hO X i2 => ?_
   have hL := hL.trans X
   have V := V.le X
   have b0 := b0.le X
   have W := W.le X
   obtain ⟨rfl, rfl⟩ := i2
   have hO : Obs _ _ [] := hO
   refine zd hO 1 [] [(79, .bool (!i0))] [0, 1, 5, 67] zqP fun j => ?_
   refine zM (zq3 S) ?_
   refine zf ?_
   cases hF
   refine zg ?_
   exact ⟨rfl, _, zq0 zqN, hO, hL⟩
  rintro e σ ⟨_, hA, hO, hL⟩
  rw [← zQ _ _ hA]
  refine zf (zbz (zw hF rfl (fun hF => ?_) fun hF => ?_))
  ·refine zj (zz hO [] [(4, .bool false)] zqL fun j => ?_)
   refine zbq (zbo (zX (zX (zbo (zX ?_)))))
   cases hF
   exact hQ _ _ _ _ _ rfl hO hL ⟨rfl, rfl⟩
  refine zF (zg (z8 (zk (zbf (ze hO [] [(5, zq1 (IntKind.i64.wrap (g + 1)))] [0, 1] zqN fun j => ?_)))))
  refine zg (zk ?_)
  exact ⟨U, Nat.lt_succ_self _, (IntKind.i64.wrap (g + 1)), _, zq0 zqM, hO, hL, hF⟩
 refine zbK (zbC (zbG (zk (zz hO [] [(4, .bool true)] zqL fun j => ?_))))
 refine zbb ?_
 cases hF
 exact hQ _ _ _ _ _ rfl hO hL ⟨rfl, rfl⟩
theorem zou (n : Nat) : zl9 n := by
 induction n with
 | zero =>
  intro τ j p0 o p1 g h rr hF; exact nomatch (show none = some rr from hF)
 | succ n ih =>
  intro τ j p0 o p1 g h rr hF; exact zpd ih g h hF
theorem zpF : ∀ {τ : Hp} {g : Value} {p0 : (List zi)} {h : Value} {p1 : (List zi)} (j : RdT zR τ g p0) (o : RdT zR τ h p1) {rr : Bool} (hF : ziN p0 p1 = some rr), Ctr Try.prog 37 #[g, h] τ [] (fun v τ' vs' => v = .bool rr ∧ vs' = []) := (zou big)
def zkB (gn : Nat) : Prop := ∀ {τ : Hp} {g : Value} {p0 : (List zh)} {h : Value} {p1 : (List zh)} (j : RdT zP τ g p0) (o : RdT zP τ h p1) {rr : Bool} (hF : (zcT gn) p0 p1 = some rr), Ctr Try.prog 18 #[g, h] τ [] (fun v τ' vs' => v = .bool rr ∧ vs' = [])
theorem zpH {gn : Nat} (ih_ref13_SameActs : zkB gn) {τ : Hp} {v0 : Value} {p0 : (List zh)} {v1 : Value} {p1 : (List zh)} (r0 : RdT zP τ v0 p0) (r1 : RdT zP τ v1 p1) {rr : Bool} (hF : zgs (zcT gn) p0 p1 = some rr) :
  Ctr Try.prog 18 #[v0, v1] τ [] (fun v τ' vs' => v = .bool rr ∧ vs' = []) := by
 obtain ⟨A0, c0, rfl, -⟩ := r0.form
 obtain ⟨A1, c1, rfl, -⟩ := r1.form
 refine zbl (args := [.slice A0 p0.length c0, .slice A1 p1.length c1]) hm Try.func18 s18 rfl fun w0 σ hO Q hQ => ?_
 unfold zgs at hF
 have hL := Hp.le.refl τ
 show wpn _ _ a18.body _ _ _
 unfold a18
 dsimp only
 refine ze hO [] [] [0, 1] zqM fun j => ?_
 refine zj (ze hO [] [(12, .bool ((p0.length : Int) != (p1.length : Int)))] [0, 1] zqN fun j => ?_)
 refine zw hF rfl (fun hF => ?_) fun hF => ?_
 ·refine zj (zz hO [] [(4, .bool false)] zqL fun j => ?_)
  refine zbq ?_
  cases hF
  exact hQ _ _ _ _ _ rfl hO hL ⟨rfl, rfl⟩
 refine zF (zj (ze hO [] [(5, zq1 0)] [0, 1] zqN fun j => ?_))
 refine zba (zbP (fun (n : Nat) e' σ' => ∃ (S : Int) (τ' : Hp), agr [(0, zq8 A0 p0 c0), (1, zq8 A1 p1 c1), (5, zq1 S)] e' ∧ Obs τ' σ' [] ∧ Hp.le τ τ' ∧ ze9 (zcT gn) p0 p1 n S = some rr) big ⟨0, _, zq0 zqM, hO, hL, hF⟩ ?_)
 clear hF hO hL
 rintro c6 e σ ⟨S, _, hA, hO, hL, hF⟩
 rw [← zQ _ _ hA]
 cases c6 with
 | zero => exact nomatch (show none = some rr from hF)
 | succ c6 =>
 replace hF : zee (ze9 (zcT gn) p0 p1 c6) (zcT gn) p0 p1 S = some rr := hF
 unfold zee at hF
 refine zj (ze hO [] [(16, .bool (decide (S < (p0.length : Int))))] [0, 1, 5] zqO fun j => ?_)
 refine zw hF rfl (fun hF => ?_) fun hF => ?_
 ·refine zF (zba (zd hO 2 [] [(19, zq8 A0 p0 c0), (20, zq1 S)] [0, 1, 5] zqP fun j => ?_))
  obtain ⟨g, d7, hF⟩ := zq7 hF
  refine zV (T := zP) (r0.le hL) hO.base rfl rfl d7 (by decide) fun a127 _ d8 d9 => ?_
  obtain ⟨h0, h1, h2, rfl, o, q, z⟩ := zk8 d8
  obtain ⟨U, V, rfl, -⟩ := o.form
  obtain ⟨W, X, rfl, -⟩ := q.form
  obtain ⟨Y, Z, rfl, -⟩ := z.form
  refine zI rfl ((d9.le hO.base).all rfl) ?_
  refine zbn hO fun c4 σ hO => ?_
  have hO := zq61 hO
  refine zE hO (i := 0) rfl (off := 0) rfl rfl rfl rfl (Nat.le_of_ble_eq_true rfl) rfl fun σ hO => ?_
  have hO := zq61 hO
  refine zf (zd hO 2 [] [(23, zq8 A1 p1 c1), (24, zq1 S)] [0, 1, 5, 6] zqQ fun j => ?_)
  obtain ⟨h, f0, hF⟩ := zq7 hF
  refine zV (T := zP) (r1.le hL) hO.base rfl rfl f0 (by decide) fun a145 _ f1 f2 => ?_
  obtain ⟨h3, h4, h5, rfl, D, G, I⟩ := zk8 f1
  obtain ⟨b0, b1, rfl, -⟩ := D.form
  obtain ⟨b2, b3, rfl, -⟩ := G.form
  obtain ⟨b4, b5, rfl, -⟩ := I.form
  refine zI rfl ((f2.le hO.base).all rfl) ?_
  refine zbn hO fun c5 σ hO => ?_
  have hO := zq62 hO
  refine zE hO (i := 1) rfl (off := 0) rfl rfl rfl rfl (Nat.le_of_ble_eq_true rfl) rfl fun σ hO => ?_
  have hO := zq62 hO
  refine zf (zd hO 18 [0, 1, 0, 1, 0, 1, 0, 1, 0, 1] [(60, .bool ((((((g.Kind.toNat : Int) != (h.Kind.toNat : Int)) || (g.Point != h.Point)) || (g.Var != h.Var)) || (g.Field != h.Field)) || (g.Call != h.Call)))] [0, 1, 5, 6, 7] (And.intro (And.intro rfl rfl) (And.intro (And.intro rfl rfl) (And.intro (And.intro rfl rfl) (And.intro (And.intro rfl rfl) (And.intro (And.intro rfl rfl) (fun _ => And.intro (And.intro rfl rfl) (And.intro (And.intro rfl rfl) (And.intro (And.intro rfl rfl) (fun _ => And.intro (And.intro rfl rfl) (And.intro (And.intro rfl rfl) (And.intro (And.intro rfl rfl) (fun _ => And.intro (And.intro rfl rfl) (And.intro (And.intro rfl rfl) (And.intro (And.intro rfl rfl) (fun _ => zq0 zqP))))))))))))))) fun j => ?_)
  obtain ⟨d5, f3, hF⟩ := zq7 hF
  refine zb5 2 (fun e' σ' => ∃ (τ' : Hp), agr [(67, .bool d5), (0, zq8 A0 p0 c0), (1, zq8 A1 p1 c1), (5, zq1 S), (6, zq2 c4), (7, zq2 c5)] e' ∧ Obs τ' σ' [zbS c4 (g.Kind.toNat : Int) g.Point g.Var g.Field g.Call (zq8 U g.Kids V) (zq8 W g.Body X) (zq8 Y g.Else Z), zbS c5 (h.Kind.toNat : Int) h.Point h.Var h.Field h.Call (zq8 b0 h.Kids b1) (zq8 b2 h.Body b3) (zq8 b4 h.Else b5)] ∧ Hp.le τ τ' ∧ RdT zR τ' (zq8 U g.Kids V) g.Kids ∧ RdT zP τ' (zq8 W g.Body X) g.Body ∧ RdT zP τ' (zq8 Y g.Else Z) g.Else ∧ RdT zR τ' (zq8 b0 h.Kids b1) h.Kids ∧ RdT zP τ' (zq8 b2 h.Body b3) h.Body ∧ RdT zP τ' (zq8 b4 h.Else b5) h.Else) ?_ ?_
  ·have hF := f3
   rcases zbA hF with ⟨b9, hF⟩ | ⟨b9, hF⟩
   ·refine zbt (zq4 b9) ?_
    refine zM (zq3 b9) ?_
    refine zf ?_
    cases hF
    refine zg ?_
    exact ⟨rfl, _, zq0 zqP, hO, hL, o, q, z, D, G, I⟩
   refine zbm (zq4 b9) ?_
   refine zd hO 4 [0, 1] [(62, zq8 U g.Kids V), (64, zq8 b0 h.Kids b1)] [0, 1, 5, 6, 7, 60] (And.intro (And.intro rfl rfl) (And.intro (And.intro rfl rfl) zqS)) fun j => ?_
   obtain ⟨f4, f5, hF⟩ := zq7 hF
   refine zO hO (zpF o D f5) rfl fun _ σ _ _ hO b6 f6 => ?_
   have hL := hL.trans b6
   have o := o.le b6
   have D := D.le b6
   have q := q.le b6
   have z := z.le b6
   have G := G.le b6
   have I := I.le b6
   obtain ⟨rfl, rfl⟩ := f6
   have hO := zq62 hO
   refine zd hO 1 [] [(66, .bool (!f4))] [0, 1, 5, 6, 7, 60] zqR fun j => ?_
   refine zM (zq3 b9) ?_
   refine zf ?_
   cases hF
   refine zg ?_
   exact ⟨rfl, _, zq0 zqP, hO, hL, o, q, z, D, G, I⟩
  rintro e σ ⟨_, hA, hO, hL, o, q, z, D, G, I⟩
  rw [← zQ _ _ hA]
  refine zd hO 1 [] [(68, .bool d5)] [0, 1, 5, 6, 7] zqQ fun j => ?_
  obtain ⟨d6, f7, hF⟩ := zq7 hF
  refine zb5 2 (fun e' σ' => ∃ (τ' : Hp), agr [(75, .bool d6), (0, zq8 A0 p0 c0), (1, zq8 A1 p1 c1), (5, zq1 S), (6, zq2 c4), (7, zq2 c5)] e' ∧ Obs τ' σ' [zbS c4 (g.Kind.toNat : Int) g.Point g.Var g.Field g.Call (zq8 U g.Kids V) (zq8 W g.Body X) (zq8 Y g.Else Z), zbS c5 (h.Kind.toNat : Int) h.Point h.Var h.Field h.Call (zq8 b0 h.Kids b1) (zq8 b2 h.Body b3) (zq8 b4 h.Else b5)] ∧ Hp.le τ τ' ∧ RdT zR τ' (zq8 U g.Kids V) g.Kids ∧ RdT zP τ' (zq8 W g.Body X) g.Body ∧ RdT zP τ' (zq8 Y g.Else Z) g.Else ∧ RdT zR τ' (zq8 b0 h.Kids b1) h.Kids ∧ RdT zP τ' (zq8 b2 h.Body b3) h.Body ∧ RdT zP τ' (zq8 b4 h.Else b5) h.Else) ?_ ?_
  ·have hF := f7
   rcases zbA hF with ⟨c2, hF⟩ | ⟨c2, hF⟩
   ·refine zbt (zq4 c2) ?_
    refine zM (zq3 c2) ?_
    refine zf ?_
    cases hF
    refine zg ?_
    exact ⟨rfl, _, zq0 zqP, hO, hL, o, q, z, D, G, I⟩
   refine zbm (zq4 c2) ?_
   refine zd hO 4 [0, 1] [(70, zq8 W g.Body X), (72, zq8 b2 h.Body b3)] [0, 1, 5, 6, 7, 68] (And.intro (And.intro rfl rfl) (And.intro (And.intro rfl rfl) zqS)) fun j => ?_
   obtain ⟨f8, f9, hF⟩ := zq7 hF
   refine zO hO (ih_ref13_SameActs q G f9) rfl fun _ σ _ _ hO b7 g0 => ?_
   have hL := hL.trans b7
   have q := q.le b7
   have G := G.le b7
   have o := o.le b7
   have z := z.le b7
   have D := D.le b7
   have I := I.le b7
   obtain ⟨rfl, rfl⟩ := g0
   have hO := zq62 hO
   refine zd hO 1 [] [(74, .bool (!f8))] [0, 1, 5, 6, 7, 68] zqR fun j => ?_
   refine zM (zq3 c2) ?_
   refine zf ?_
   cases hF
   refine zg ?_
   exact ⟨rfl, _, zq0 zqP, hO, hL, o, q, z, D, G, I⟩
  rintro e σ ⟨_, hA, hO, hL, o, q, z, D, G, I⟩
  rw [← zQ _ _ hA]
  refine zd hO 1 [] [(76, .bool d6)] [0, 1, 5, 6, 7] zqQ fun j => ?_
  obtain ⟨g1, g2, hF⟩ := zq7 hF
  refine zb5 2 (fun e' σ' => ∃ (τ' : Hp), agr [(83, .bool g1), (0, zq8 A0 p0 c0), (1, zq8 A1 p1 c1), (5, zq1 S)] e' ∧ Obs τ' σ' [zbS c4 (g.Kind.toNat : Int) g.Point g.Var g.Field g.Call (zq8 U g.Kids V) (zq8 W g.Body X) (zq8 Y g.Else Z), zbS c5 (h.Kind.toNat : Int) h.Point h.Var h.Field h.Call (zq8 b0 h.Kids b1) (zq8 b2 h.Body b3) (zq8 b4 h.Else b5)] ∧ Hp.le τ τ' ∧ RdT zR τ' (zq8 U g.Kids V) g.Kids ∧ RdT zP τ' (zq8 W g.Body X) g.Body ∧ RdT zP τ' (zq8 Y g.Else Z) g.Else ∧ RdT zR τ' (zq8 b0 h.Kids b1) h.Kids ∧ RdT zP τ' (zq8 b2 h.Body b3) h.Body ∧ RdT zP τ' (zq8 b4 h.Else b5) h.Else) ?_ ?_
  ·have hF := g2
   rcases zbA hF with ⟨c3, hF⟩ | ⟨c3, hF⟩
   ·refine zbt (zq4 c3) ?_
    refine zM (zq3 c3) ?_
    refine zf ?_
    cases hF
    refine zg ?_
    exact ⟨rfl, _, zq0 zqN, hO, hL, o, q, z, D, G, I⟩
   refine zbm (zq4 c3) ?_
   refine zd hO 4 [0, 1] [(78, zq8 Y g.Else Z), (80, zq8 b4 h.Else b5)] [0, 1, 5, 76] (And.intro (And.intro rfl rfl) (And.intro (And.intro rfl rfl) zqQ)) fun j => ?_
   obtain ⟨g3, g4, hF⟩ := zq7 hF
   refine zO hO (ih_ref13_SameActs z I g4) rfl fun _ σ _ _ hO b8 g5 => ?_
   have hL := hL.trans b8
   have z := z.le b8
   have I := I.le b8
   have o := o.le b8
   have q := q.le b8
   have D := D.le b8
   have G := G.le b8
   obtain ⟨rfl, rfl⟩ := g5
   have hO := zq62 hO
   refine zd hO 1 [] [(82, .bool (!g3))] [0, 1, 5, 76] zqP fun j => ?_
   refine zM (zq3 c3) ?_
   refine zf ?_
   cases hF
   refine zg ?_
   exact ⟨rfl, _, zq0 zqN, hO, hL, o, q, z, D, G, I⟩
  rintro e σ ⟨_, hA, hO, hL, o, q, z, D, G, I⟩
  rw [← zQ _ _ hA]
  refine zf (zbz (zw hF rfl (fun hF => ?_) fun hF => ?_))
  ·refine zj (zz hO [] [(4, .bool false)] zqL fun j => ?_)
   refine zbq (zbo (zX (zX (zbo (zX ?_)))))
   cases hF
   have hO := hO.sel []
   exact hQ _ _ _ _ _ rfl hO hL ⟨rfl, rfl⟩
  refine zF (zg (z8 (zk (zbf (ze hO [] [(5, zq1 (IntKind.i64.wrap (S + 1)))] [0, 1] zqN fun j => ?_)))))
  refine zg (zk ?_)
  have hO := hO.sel []
  exact ⟨c6, Nat.lt_succ_self _, (IntKind.i64.wrap (S + 1)), _, zq0 zqM, hO, hL, hF⟩
 refine zbK (zbC (zbG (zk (zz hO [] [(4, .bool true)] zqL fun j => ?_))))
 refine zbb ?_
 cases hF
 exact hQ _ _ _ _ _ rfl hO hL ⟨rfl, rfl⟩
theorem zmH (n : Nat) : zkB n := by
 induction n with
 | zero =>
  intro τ j p0 o p1 g h rr hF; exact nomatch (show none = some rr from hF)
 | succ n ih =>
  intro τ j p0 o p1 g h rr hF; exact zpH ih g h hF
theorem zoe : ∀ {τ : Hp} {g : Value} {p0 : (List zh)} {h : Value} {p1 : (List zh)} (j : RdT zP τ g p0) (o : RdT zP τ h p1) {rr : Bool} (hF : zhW p0 p1 = some rr), Ctr Try.prog 18 #[g, h] τ [] (fun v τ' vs' => v = .bool rr ∧ vs' = []) := (zmH big)
theorem zne {τ : Hp} {S : Value} {p0 : (List ByteArray)} {U : Value} {p1 : (List ByteArray)} (V : RdT Ty.str τ S p0) (W : RdT Ty.str τ U p1) {rr : Bool} (hF : zgy p0 p1 = some rr) :
  Ctr Try.prog 38 #[S, U] τ [] (fun v τ' vs' => v = .bool rr ∧ vs' = []) := by
 obtain ⟨z, D, rfl, -⟩ := V.form
 obtain ⟨G, I, rfl, -⟩ := W.form
 refine zbl (args := [.slice z p0.length D, .slice G p1.length I]) hm Try.func38 s38 rfl fun w0 σ hO Q hQ => ?_
 unfold zgy at hF
 have hL := Hp.le.refl τ
 show wpn _ _ a38.body _ _ _
 unfold a38
 dsimp only
 refine ze hO [] [] [0, 1] zqM fun j => ?_
 refine zj (ze hO [] [(10, .bool ((p0.length : Int) != (p1.length : Int)))] [0, 1] zqN fun j => ?_)
 refine zw hF rfl (fun hF => ?_) fun hF => ?_
 ·refine zj (zz hO [] [(4, .bool false)] zqL fun j => ?_)
  refine zbq ?_
  cases hF
  exact hQ _ _ _ _ _ rfl hO hL ⟨rfl, rfl⟩
 refine zF (zj (ze hO [] [(5, zq1 0)] [0, 1] zqN fun j => ?_))
 refine zba (zbP (fun (n : Nat) e' σ' => ∃ (g : Int) (τ' : Hp), agr [(0, zq8 z p0 D), (1, zq8 G p1 I), (5, zq1 g)] e' ∧ Obs τ' σ' [] ∧ Hp.le τ τ' ∧ zfn p0 p1 n g = some rr) big ⟨0, _, zq0 zqM, hO, hL, hF⟩ ?_)
 clear hF hO hL
 rintro h e σ ⟨g, _, hA, hO, hL, hF⟩
 rw [← zQ _ _ hA]
 cases h with
 | zero => exact nomatch (show none = some rr from hF)
 | succ h =>
 replace hF : zen (zfn p0 p1 h) p0 p1 g = some rr := hF
 unfold zen at hF
 refine zj (ze hO [] [(14, .bool (decide (g < (p0.length : Int))))] [0, 1, 5] zqO fun j => ?_)
 refine zw hF rfl (fun hF => ?_) fun hF => ?_
 ·refine zF (zba (zco (zd hO 2 [] [(17, zq8 z p0 D), (18, zq1 g)] [0, 1, 5] zqP fun j => ?_)))
  obtain ⟨o, X, hF⟩ := zq7 hF
  refine zV (T := Ty.str) (V.le hL) hO.base rfl rfl X (by decide) fun a33 _ Y Z => ?_
  obtain rfl : _ = ([.string o] : List Value) := Y
  refine zI rfl (Z.le hO.base).fst ?_
  refine zd hO 2 [] [(21, zq8 G p1 I), (22, zq1 g)] [0, 1, 5, 20] zqQ fun j => ?_
  obtain ⟨q, b0, hF⟩ := zq7 hF
  refine zV (T := Ty.str) (W.le hL) hO.base rfl rfl b0 (by decide) fun a38 _ b1 b2 => ?_
  obtain rfl : _ = ([.string q] : List Value) := b1
  refine zI rfl (b2.le hO.base).fst ?_
  refine ze hO [] [(25, .bool (!(zG o q)))] [0, 1, 5] zqO fun j => ?_
  refine zbz (zw hF rfl (fun hF => ?_) fun hF => ?_)
  ·refine zj (zz hO [] [(4, .bool false)] zqL fun j => ?_)
   refine zbq (zbo (zX (zX (zbo (zX ?_)))))
   cases hF
   exact hQ _ _ _ _ _ rfl hO hL ⟨rfl, rfl⟩
  refine zF (zg (z8 (zk (zbf (ze hO [] [(5, zq1 (IntKind.i64.wrap (g + 1)))] [0, 1] zqN fun j => ?_)))))
  refine zg (zk ?_)
  exact ⟨h, Nat.lt_succ_self _, (IntKind.i64.wrap (g + 1)), _, zq0 zqM, hO, hL, hF⟩
 refine zbK (zbC (zbG (zk (zz hO [] [(4, .bool true)] zqL fun j => ?_))))
 refine zbb ?_
 cases hF
 exact hQ _ _ _ _ _ rfl hO hL ⟨rfl, rfl⟩
theorem zmY {τ : Hp} {v0 : Value} {p0 : (List zC)} {v1 : Value} {p1 : (List zC)} (r0 : RdT zo τ v0 p0) (r1 : RdT zo τ v1 p1) {rr : Bool} (hF : zfz p0 p1 = some rr) :
  Ctr Try.prog 19 #[v0, v1] τ [] (fun v τ' vs' => v = .bool rr ∧ vs' = []) := by
 obtain ⟨D, G, rfl, -⟩ := r0.form
 obtain ⟨I, S, rfl, -⟩ := r1.form
 refine zbl (args := [.slice D p0.length G, .slice I p1.length S]) hm Try.func19 s19 rfl fun w0 σ hO Q hQ => ?_
 unfold zfz at hF
 have hL := Hp.le.refl τ
 show wpn _ _ a19.body _ _ _
 unfold a19
 dsimp only
 refine ze hO [] [] [0, 1] zqM fun j => ?_
 refine zj (ze hO [] [(10, .bool ((p0.length : Int) != (p1.length : Int)))] [0, 1] zqN fun j => ?_)
 refine zw hF rfl (fun hF => ?_) fun hF => ?_
 ·refine zj (zz hO [] [(4, .bool false)] zqL fun j => ?_)
  refine zbq ?_
  cases hF
  exact hQ _ _ _ _ _ rfl hO hL ⟨rfl, rfl⟩
 refine zF (zj (ze hO [] [(5, zq1 0)] [0, 1] zqN fun j => ?_))
 refine zba (zbP (fun (n : Nat) e' σ' => ∃ (g : Int) (τ' : Hp), agr [(0, zq8 D p0 G), (1, zq8 I p1 S), (5, zq1 g)] e' ∧ Obs τ' σ' [] ∧ Hp.le τ τ' ∧ zfa p0 p1 n g = some rr) big ⟨0, _, zq0 zqM, hO, hL, hF⟩ ?_)
 clear hF hO hL
 rintro V e σ ⟨g, _, hA, hO, hL, hF⟩
 rw [← zQ _ _ hA]
 cases V with
 | zero => exact nomatch (show none = some rr from hF)
 | succ V =>
 replace hF : zew (zfa p0 p1 V) p0 p1 g = some rr := hF
 unfold zew at hF
 refine zj (ze hO [] [(14, .bool (decide (g < (p0.length : Int))))] [0, 1, 5] zqO fun j => ?_)
 refine zw hF rfl (fun hF => ?_) fun hF => ?_
 ·refine zF (zba (zco (zd hO 2 [] [(17, zq8 D p0 G), (18, zq1 g)] [0, 1, 5] zqP fun j => ?_)))
  obtain ⟨b4, b6, hF⟩ := zq7 hF
  refine zV (T := zo) (r0.le hL) hO.base rfl rfl b6 (by decide) fun a183 _ b7 b8 => ?_
  obtain ⟨h2, rfl, b9⟩ := b7
  obtain ⟨h3, h4, rfl, -⟩ := b9.form
  refine zd hO 1 [] [(20, .pointer (some a183))] [0, 1, 5] zqO fun j => ?_
  refine zI rfl (b8.le hO.base).fst ?_
  refine zd hO 2 [] [(22, zq8 I p1 S), (23, zq1 g)] [0, 1, 5, 21] zqQ fun j => ?_
  obtain ⟨b5, c2, hF⟩ := zq7 hF
  refine zV (T := zo) (r1.le hL) hO.base rfl rfl c2 (by decide) fun a192 _ c3 c4 => ?_
  obtain ⟨h5, rfl, c5⟩ := c3
  obtain ⟨h6, h7, rfl, -⟩ := c5.form
  refine zd hO 1 [] [(25, .pointer (some a192))] [0, 1, 5, 21] zqP fun j => ?_
  refine zI rfl (c4.le hO.base).fst ?_
  refine zd hO 2 [] [(28, .bool (!(zG b4.Name b5.Name)))] [0, 1, 5] zqO fun j => ?_
  obtain ⟨Z, c6, hF⟩ := zq7 hF
  refine zdE 2 [(40, .bool Z), (0, zq8 D p0 G), (1, zq8 I p1 S), (5, zq1 g)] (fun Q hQ => ?_) fun j => ?_
  ·have hF := c6
   rcases zbA hF with ⟨o, hF⟩ | ⟨o, hF⟩
   ·refine zbt (zq4 o) ?_
    refine zM (zq3 o) ?_
    refine zf ?_
    cases hF
    refine zg ?_
    exact hQ _ zqO
   refine zbm (zq4 o) ?_
   refine zd hO 2 [] [(29, zq8 D p0 G), (30, zq1 g)] [0, 1, 5, 28] zqQ fun j => ?_
   obtain ⟨h, c7, hF⟩ := zq7 hF
   refine zV (T := zo) (r0.le hL) hO.base rfl rfl c7 (by decide) fun a204 _ c8 c9 => ?_
   obtain ⟨h8, rfl, d0⟩ := c8
   obtain ⟨h9, i0, rfl, -⟩ := d0.form
   refine zd hO 1 [] [(32, .pointer (some (a204.add 1)))] [0, 1, 5, 28] zqP fun j => ?_
   refine zI rfl ((c9.le hO.base).part (off := 1) (ds := [.int .u8 (h.Type_.Kind.toNat : Int), .int .i64 h.Type_.N, .string h.Type_.Name]) rfl rfl) ?_
   refine zN hO 2 [] [(0, zq8 D p0 G), (1, zq8 I p1 S), (5, zq1 g), (28, .bool (!(zG b4.Name b5.Name))), (33, .agg #[(.int .u8 (h.Type_.Kind.toNat : Int)), (.int .i64 h.Type_.N), (.string h.Type_.Name)]), (34, zq8 I p1 S), (35, zq1 g)] zqR fun j => ?_
   obtain ⟨U, d5, hF⟩ := zq7 hF
   refine zV (T := zo) (r1.le hL) hO.base rfl rfl d5 (by decide) fun a213 _ d6 d7 => ?_
   obtain ⟨i1, rfl, d8⟩ := d6
   obtain ⟨i2, i3, rfl, -⟩ := d8.form
   refine zd hO 1 [] [(37, .pointer (some (a213.add 1)))] [0, 1, 5, 28, 33] zqQ fun j => ?_
   refine zI rfl ((d7.le hO.base).part (off := 1) (ds := [.int .u8 (U.Type_.Kind.toNat : Int), .int .i64 U.Type_.N, .string U.Type_.Name]) rfl rfl) ?_
   refine zd hO 1 [] [(39, .bool (!(( (h.Type_.Kind.toNat : Int) == (U.Type_.Kind.toNat : Int)) && (( h.Type_.N == U.Type_.N) && ((zG h.Type_.Name U.Type_.Name) && true)))))] [0, 1, 5, 28] zqP fun j => ?_
   refine zM (zq3 o) ?_
   refine zf ?_
   cases hF
   refine zg ?_
   exact hQ _ zqO
  refine zd hO 1 [] [(41, .bool Z)] [0, 1, 5] zqO fun j => ?_
  obtain ⟨b0, d9, hF⟩ := zq7 hF
  refine zdE 2 [(53, .bool b0), (0, zq8 D p0 G), (1, zq8 I p1 S), (5, zq1 g)] (fun Q hQ => ?_) fun j => ?_
  ·have hF := d9
   rcases zbA hF with ⟨q, hF⟩ | ⟨q, hF⟩
   ·refine zbt (zq4 q) ?_
    refine zM (zq3 q) ?_
    refine zf ?_
    cases hF
    refine zg ?_
    exact hQ _ zqO
   refine zbm (zq4 q) ?_
   refine zd hO 2 [] [(42, zq8 D p0 G), (43, zq1 g)] [0, 1, 5, 41] zqQ fun j => ?_
   obtain ⟨f0, f1, hF⟩ := zq7 hF
   refine zV (T := zo) (r0.le hL) hO.base rfl rfl f1 (by decide) fun a225 _ f2 f3 => ?_
   obtain ⟨i4, rfl, f4⟩ := f2
   obtain ⟨i5, i6, rfl, -⟩ := f4.form
   refine zN hO 1 [] [(0, zq8 D p0 G), (1, zq8 I p1 S), (5, zq1 g), (41, .bool Z), (45, .pointer (some (a225.add 4)))] zqP fun j => ?_
   refine zI rfl ((f3.le hO.base).one 4 rfl) ?_
   refine zd hO 2 [] [(47, zq8 I p1 S), (48, zq1 g)] [0, 1, 5, 41, 46] zqR fun j => ?_
   obtain ⟨f5, f6, hF⟩ := zq7 hF
   refine zV (T := zo) (r1.le hL) hO.base rfl rfl f6 (by decide) fun a234 _ f7 f8 => ?_
   obtain ⟨i7, rfl, f9⟩ := f7
   obtain ⟨i8, i9, rfl, -⟩ := f9.form
   refine zd hO 1 [] [(50, .pointer (some (a234.add 4)))] [0, 1, 5, 41, 46] zqQ fun j => ?_
   refine zI rfl ((f8.le hO.base).one 4 rfl) ?_
   refine zd hO 1 [] [(52, .bool (f0.Words != f5.Words))] [0, 1, 5, 41] zqP fun j => ?_
   refine zM (zq3 q) ?_
   refine zf ?_
   cases hF
   refine zg ?_
   exact hQ _ zqO
  refine zd hO 1 [] [(54, .bool b0)] [0, 1, 5] zqO fun j => ?_
  obtain ⟨g0, g1, hF⟩ := zq7 hF
  refine zb5 2 (fun e' σ' => ∃ (τ' : Hp), agr [(67, .bool g0), (0, zq8 D p0 G), (1, zq8 I p1 S), (5, zq1 g)] e' ∧ Obs τ' σ' [] ∧ Hp.le τ τ') ?_ ?_
  ·have hF := g1
   rcases zbA hF with ⟨z, hF⟩ | ⟨z, hF⟩
   ·refine zbt (zq4 z) ?_
    refine zM (zq3 z) ?_
    refine zf ?_
    cases hF
    refine zg ?_
    exact ⟨rfl, _, zq0 zqN, hO, hL⟩
   refine zbm (zq4 z) ?_
   refine zN hO 2 [] [(0, zq8 D p0 G), (1, zq8 I p1 S), (5, zq1 g), (54, .bool b0), (55, zq8 D p0 G), (56, zq1 g)] zqQ fun j => ?_
   obtain ⟨j0, g2, hF⟩ := zq7 hF
   refine zV (T := zo) (r0.le hL) hO.base rfl rfl g2 (by decide) fun a246 _ g3 g4 => ?_
   obtain ⟨j1, rfl, W⟩ := g3
   obtain ⟨j2, j3, rfl, -⟩ := W.form
   refine zd hO 1 [] [(58, .pointer (some (a246.add 5)))] [0, 1, 5, 54] zqP fun j => ?_
   refine zI rfl ((g4.le hO.base).one 5 rfl) ?_
   refine zd hO 2 [] [(60, zq8 I p1 S), (61, zq1 g)] [0, 1, 5, 54, 59] zqR fun j => ?_
   obtain ⟨j4, g5, hF⟩ := zq7 hF
   refine zV (T := zo) (r1.le hL) hO.base rfl rfl g5 (by decide) fun a255 _ g6 b1 => ?_
   obtain ⟨j5, rfl, X⟩ := g6
   obtain ⟨j6, j7, rfl, -⟩ := X.form
   refine zd hO 1 [] [(63, .pointer (some (a255.add 5)))] [0, 1, 5, 54, 59] zqQ fun j => ?_
   refine zI rfl ((b1.le hO.base).one 5 rfl) ?_
   obtain ⟨g7, g8, hF⟩ := zq7 hF
   refine zO hO (zne W X g8) rfl fun _ σ _ _ hO Y g9 => ?_
   have hL := hL.trans Y
   have W := W.le Y
   have b1 := b1.le Y
   have X := X.le Y
   obtain ⟨rfl, rfl⟩ := g9
   have hO : Obs _ _ [] := hO
   refine zd hO 1 [] [(66, .bool (!g7))] [0, 1, 5, 54] zqP fun j => ?_
   refine zM (zq3 z) ?_
   refine zf ?_
   cases hF
   refine zg ?_
   exact ⟨rfl, _, zq0 zqN, hO, hL⟩
  rintro e σ ⟨_, hA, hO, hL⟩
  rw [← zQ _ _ hA]
  refine zf (zbz (zw hF rfl (fun hF => ?_) fun hF => ?_))
  ·refine zj (zz hO [] [(4, .bool false)] zqL fun j => ?_)
   refine zbq (zbo (zX (zX (zbo (zX ?_)))))
   cases hF
   exact hQ _ _ _ _ _ rfl hO hL ⟨rfl, rfl⟩
  refine zF (zg (z8 (zk (zbf (zz hO [] [(0, zq8 D p0 G), (1, zq8 I p1 S), (5, zq1 (IntKind.i64.wrap (g + 1)))] zqN fun j => ?_)))))
  refine zg (zk ?_)
  exact ⟨V, Nat.lt_succ_self _, (IntKind.i64.wrap (g + 1)), _, zq0 zqM, hO, hL, hF⟩
 refine zbK (zbC (zbG (zk (zz hO [] [(4, .bool true)] zqL fun j => ?_))))
 refine zbb ?_
 cases hF
 exact hQ _ _ _ _ _ rfl hO hL ⟨rfl, rfl⟩
end Go.Proofs.Ytakcaekikfcbpaa
