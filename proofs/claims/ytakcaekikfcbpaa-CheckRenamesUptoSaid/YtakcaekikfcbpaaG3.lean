import Derived.Test.YtakcaekikfcbpaaG2
namespace Go.Proofs.Ytakcaekikfcbpaa
open Go.Ab Go.RowKit
set_option linter.unusedVariables false
set_option linter.unusedSimpArgs false
set_option maxRecDepth 10000
set_option maxHeartbeats 1000000
theorem zod {v : Value} {k : Int} (h : zdp v = some k) : v = .iface 134 (.int .i64 k) := by
 unfold zdp at h
 split at h
 ·injection h with h
  rw [h]
 ·cases h
def zgf : zbe := (.seq (.reg [.s ⟨(some 6), .mv (.t 1), []⟩,
 .s ⟨(some 7), .tas 134 ((.int .i64 0)) (.t 6), []⟩,
 .s ⟨(some 5), .mv (.t 7), []⟩,
 .s ⟨(some 8), .ext 0 (.t 5), []⟩,
 .s ⟨(some 9), .ext 1 (.t 5), []⟩,
 .s ⟨(some 2), .mv (.t 8), []⟩,
 .s ⟨(some 3), .mv (.t 9), []⟩])
(.seq (.reg [.s ⟨(some 10), .mv (.t 3), []⟩])
(.cond (.t 10) (.reg [.s ⟨(some 11), .mv (.t 2), []⟩,
 .s ⟨none, .store 1 (.t 0) (.t 11), []⟩])
(.seq (.reg [.s ⟨(some 12), .mv (.t 1), []⟩,
 .s ⟨(some 13), .inil true (.t 12), []⟩])
(.cond (.t 13) (.reg [.s ⟨(some 14), .mv (.t 1), []⟩,
 .s ⟨none, .pan (.t 14), []⟩])
.skip)))))
def a50 : zhW := ⟨15, 4, 1, zgf⟩
theorem s50 : zie Try.prog Try.f50 = some a50.fn := by kernel_rfl
def zit : zbe := (.seq (.seq (.reg [.s ⟨(some 8), .mv (.t 0), []⟩,
 .s ⟨(some 9), .nilchk (.t 8), []⟩,
 .s ⟨(some 10), .faddr 0 (.t 9), []⟩,
 .s ⟨(some 11), .faddr 0 (.t 10), []⟩,
 .s ⟨(some 12), .load false 1 (.t 11), []⟩,
 .s ⟨(some 13), .lenL (.t 12), []⟩,
 .s ⟨(some 14), .mv (.c (.int .i64 0)), []⟩])
(.block 0 (.loop (.seq (.reg [.s ⟨(some 15), .bin .lss (.t 14) (.t 13), []⟩])
(.seq (.cond (.t 15) .skip
(.exit 0))
(.seq (.block 1 (.seq (.reg [.s ⟨(some 16), .mv (.t 14), []⟩,
 .s ⟨(some 4), .mv (.t 16), []⟩])
(.seq (.reg [.s ⟨(some 17), .mv (.t 0), []⟩,
 .s ⟨(some 18), .mv (.t 4), []⟩,
 .s ⟨(some 19), .call 51 [(.t 17), (.t 18)], []⟩])
(.reg [.s ⟨(some 20), .mv (.t 2), []⟩,
 .s ⟨(some 21), .bin .add (.t 20) (.c (.int .i64 1)), []⟩,
 .s ⟨(some 2), .mv (.t 21), []⟩]))))
(.reg [.s ⟨(some 22), .bin .add (.t 14) (.c (.int .i64 1)), []⟩,
 .s ⟨(some 14), .mv (.t 22), []⟩])))))))
(.seq (.seq (.reg [.s ⟨(some 23), .mv (.t 0), []⟩,
 .s ⟨(some 24), .nilchk (.t 23), []⟩,
 .s ⟨(some 25), .faddr 0 (.t 24), []⟩,
 .s ⟨(some 26), .faddr 1 (.t 25), []⟩,
 .s ⟨(some 27), .load false 1 (.t 26), []⟩,
 .s ⟨(some 28), .lenL (.t 27), []⟩,
 .s ⟨(some 29), .mv (.c (.int .i64 0)), []⟩])
(.block 2 (.loop (.seq (.reg [.s ⟨(some 30), .bin .lss (.t 29) (.t 28), []⟩])
(.seq (.cond (.t 30) .skip
(.exit 2))
(.seq (.block 3 (.seq (.reg [.s ⟨(some 31), .mv (.t 29), []⟩,
 .s ⟨(some 5), .mv (.t 31), []⟩])
(.seq (.reg [.s ⟨(some 32), .mv (.t 0), []⟩,
 .s ⟨(some 33), .mv (.t 5), []⟩,
 .s ⟨(some 34), .call 52 [(.t 32), (.t 33)], []⟩])
(.reg [.s ⟨(some 35), .mv (.t 2), []⟩,
 .s ⟨(some 36), .bin .add (.t 35) (.c (.int .i64 1)), []⟩,
 .s ⟨(some 2), .mv (.t 36), []⟩]))))
(.reg [.s ⟨(some 37), .bin .add (.t 29) (.c (.int .i64 1)), []⟩,
 .s ⟨(some 29), .mv (.t 37), []⟩])))))))
(.seq (.reg [.s ⟨(some 38), .mv (.t 0), []⟩,
 .s ⟨(some 39), .mv (.t 0), []⟩,
 .s ⟨(some 40), .call 53 [(.t 39), (.c (.string zqR))], []⟩,
 .s ⟨(some 41), .nilchk (.t 38), []⟩,
 .s ⟨(some 42), .faddr 2 (.t 41), []⟩,
 .s ⟨(some 43), .faddr 1 (.t 42), []⟩,
 .s ⟨none, .store 1 (.t 43) (.t 40), []⟩])
(.seq (.reg [.s ⟨(some 44), .mv (.t 0), []⟩,
 .s ⟨(some 45), .nilchk (.t 44), []⟩,
 .s ⟨(some 46), .faddr 2 (.t 45), []⟩,
 .s ⟨(some 47), .faddr 1 (.t 46), []⟩,
 .s ⟨(some 48), .load false 1 (.t 47), []⟩,
 .s ⟨(some 49), .bin .geq (.t 48) (.c (.int .i64 0)), []⟩,
 .s ⟨(some 50), .call 54 [(.t 49), (.c (.int .i64 8))], []⟩])
(.seq (.par [.s ⟨(some 51), .mv (.t 0), []⟩,
 .s ⟨(some 52), .nilchk (.t 51), []⟩,
 .s ⟨(some 53), .faddr 0 (.t 52), []⟩,
 .s ⟨(some 54), .faddr 1 (.t 53), []⟩,
 .s ⟨(some 55), .load false 1 (.t 54), []⟩,
 .s ⟨(some 56), .mv (.t 0), []⟩,
 .s ⟨(some 57), .nilchk (.t 56), []⟩,
 .s ⟨(some 58), .faddr 2 (.t 57), []⟩,
 .s ⟨(some 59), .faddr 1 (.t 58), []⟩,
 .s ⟨(some 60), .load false 1 (.t 59), []⟩,
 .s ⟨(some 61), .idx 7 (.t 55) (.t 60), []⟩,
 .s ⟨(some 62), .load true 7 (.t 61), []⟩,
 .s ⟨(some 6), .alloc 53 [(.string zqP), (.int .i64 0), (.slice none 0 0), (.int .u8 0), (.int .i64 0), (.string zqP), (.slice none 0 0)], [⟨none, (some 62), .load true 7 (.t 61)⟩, ⟨none, (some 60), .load false 1 (.t 59)⟩, ⟨none, (some 55), .load false 1 (.t 54)⟩]⟩,
 .s ⟨none, .store 7 (.t 6) (.t 62), []⟩])
(.seq (.reg [.s ⟨(some 63), .faddr 2 (.t 6), []⟩,
 .s ⟨(some 64), .load false 1 (.t 63), []⟩,
 .s ⟨(some 65), .lenL (.t 64), []⟩,
 .s ⟨(some 66), .bin .eql (.t 65) (.c (.int .i64 0)), []⟩,
 .s ⟨(some 67), .mv (.t 66), []⟩,
 .g 67 true [⟨(some 68), .faddr 3 (.t 6), []⟩,
 ⟨(some 69), .faddr 0 (.t 68), []⟩,
 ⟨(some 70), .load false 1 (.t 69), []⟩,
 ⟨(some 71), .bin .eql (.t 70) (.c (.int .u8 0)), []⟩],
 .s ⟨(some 72), .pick (.t 67) (.t 71) (.c (.bool false)), []⟩,
 .s ⟨(some 73), .call 54 [(.t 72), (.c (.int .i64 8))], []⟩])
(.seq (.reg [.s ⟨(some 74), .mv (.t 2), []⟩,
 .s ⟨(some 2), .mv (.t 74), []⟩,
 .s ⟨none, .store 1 (.t 3) (.c (.int .i64 0)), []⟩])
.ret)))))))
def a34 : zeM := ⟨75, [.t 2, .c 3 false 1], (.pre (.reg [.s ⟨(some 2), .mv (.c (.int .i64 0)), []⟩,
 .s ⟨(some 3), .alloc 35 [(.int .i64 0)], []⟩])
(.dfr [.s ⟨(some 7), .mkfn (.func 50) [] [(.t 3)], []⟩] 7 [] zit))⟩
theorem s34 : zfQ Try.prog [3] Try.f34 = some a34.fn := by kernel_rfl
theorem znD {w0 : Base} {g : Nat} {h : Int} {τ σ : Hp} {o q v z : Ob} (hO : Obs τ σ [o, q, v, z, some (g, ⟨[.int .i64 h], 35, 1, true⟩)]) :
  zch Try.prog w0 50 #[.pointer (some ⟨g, 0, none⟩)] .returning σ fun u' σ' => settle u' = .returning ∧ Obs τ σ' [o, q, v, z, some (g, ⟨[.int .i64 h], 35, 1, true⟩)] := by
 refine zlU (args := [.pointer (some ⟨g, 0, none⟩)]) hm Try.func50 s50 rfl ?_
 show wpn _ _ zgf _ _ _
 unfold zgf
 refine zA hO [] [(1, .nilIface), (3, .bool false)] ⟨rfl, rfl, trivial⟩ fun j => ?_
 refine zA hO [] [(1, .nilIface), (10, .bool false)] ⟨rfl, rfl, trivial⟩ fun j => ?_
 refine zbC (zgn rfl ?_)
 refine zl (zA hO [] [(13, .bool false)] ⟨rfl, trivial⟩ fun j => ?_)
 refine zgn rfl ?_
 refine zF (zg ?_)
 exact ⟨.inr rfl, rfl, hO⟩
theorem zoD {w0 : Base} {g : Nat} {D k : Int} {τ σ : Hp} {h o q z : Ob} (hO : Obs τ σ [h, o, q, z, some (g, ⟨[.int .i64 D], 35, 1, true⟩)]) :
  zch Try.prog w0 50 #[.pointer (some ⟨g, 0, none⟩)] (.panicking [{ v := .iface 134 (.int .i64 k), recovered := false }]) σ fun u' σ' => settle u' = .returning ∧ Obs τ σ' [h, o, q, z, some (g, ⟨[.int .i64 k], 35, 1, true⟩)] := by
 refine zlU (args := [.pointer (some ⟨g, 0, none⟩)]) hm Try.func50 s50 rfl ?_
 show wpn _ _ zgf _ _ _
 unfold zgf
 refine zA hO [] [(0, zrh g), (2, zrg k), (3, .bool true)] ⟨rfl, rfl, rfl, trivial⟩ fun j => ?_
 refine zA hO [] [(0, zrh g), (2, zrg k), (10, .bool true)] ⟨rfl, rfl, rfl, trivial⟩ fun j => ?_
 refine zbC (zgZ rfl ?_)
 refine zK hO 1 [] [(0, zrh g), (11, zrg k)] ⟨rfl, rfl, trivial⟩ fun j => ?_
 refine zC hO (i := 4) rfl (off := 0) rfl rfl rfl rfl (Nat.le_of_ble_eq_true rfl) rfl fun σ hO => ?_
 refine zf (zg ?_)
 exact ⟨.inr rfl, rfl, hO⟩
section
variable {P : Program} {w0 : Base} {Q : Exit → Env → Hp → Prop} {e : Env} {σ : Hp}
theorem zor {l : List XI} (h : wpn P w0 (.seq (.reg l) .skip) Q e σ) : wpn P w0 (.par l) Q e σ := h
end
theorem zqo {w0 : Base} {g : Nat} {j : Int} {τ σ : Hp} {o q v z : Ob} (hO : Obs τ σ [some (g, ⟨[.int .i64 j], 35, 1, true⟩), o, q, v, z]) :
  zch Try.prog w0 50 #[.pointer (some ⟨g, 0, none⟩)] .returning σ fun u' σ' => settle u' = .returning ∧ Obs τ σ' [some (g, ⟨[.int .i64 j], 35, 1, true⟩), o, q, v, z] :=
 (znD (hO.sel [1, 2, 3, 4, 0])).mono fun u' σ' h => ⟨h.1, h.2.sel [4, 0, 1, 2, 3]⟩
theorem zpO {w0 : Base} {W : Nat} {Y k : Int} {τ σ : Hp} {I S U V : Ob} (hO : Obs τ σ [some (W, ⟨[.int .i64 Y], 35, 1, true⟩), I, S, U, V]) :
  zch Try.prog w0 50 #[.pointer (some ⟨W, 0, none⟩)] (.panicking [{ v := .iface 134 (.int .i64 k), recovered := false }]) σ fun u' σ' => settle u' = .returning ∧ Obs τ σ' [some (W, ⟨[.int .i64 k], 35, 1, true⟩), I, S, U, V] :=
 (zoD (hO.sel [1, 2, 3, 4, 0])).mono fun u' σ' h => ⟨h.1, h.2.sel [4, 0, 1, 2, 3]⟩
def wK (X : Nat) (q : zb) (τ' : Hp) (I S U V : Ob) : Prop := ∃ (g j o z D G : Value), I = zn X g j o q.tree.Main z q.fn D G ∧ RdT zx τ' g q.prog.Structs ∧ RdT zr τ' j q.prog.Funcs ∧ za zp 59 τ' o q.tree.Bodies S ∧ za zo 87 τ' z q.tree.Points U ∧ RdT zq τ' D q.vars ∧ za (Ty.int .i64) 3 τ' G q.scope V
theorem znn {τ : Hp} {q0 : zb} {g : Nat} {f7 f8 f9 : Value} {Y : Ob} {g3 : Value} {Z : Ob} {g5 g8 : Value} {b0 : Ob} (b2 : RdT zx τ f7 q0.prog.Structs) (b4 : RdT zr τ f8 q0.prog.Funcs) (b5 : za zp 59 τ f9 q0.tree.Bodies Y) (b6 : za zo 87 τ g3 q0.tree.Points Z) (b7 : RdT zq τ g5 q0.vars) (b8 : za (Ty.int .i64) 3 τ g8 q0.scope b0) {rr : Int × Int × zb} (hF : zdY q0 = some rr) :
  Ctr Try.prog 34 #[.pointer (some ⟨g, 0, none⟩)] τ [zn g f7 f8 f9 q0.tree.Main g3 q0.fn g5 g8, Y, Z, b0] (fun v τ' vs' => ∃ (i6 i7 i8 : Value) (i9 : Ob) (j0 : Value) (j1 : Ob) (j2 j3 : Value) (j4 : Ob), v = .tuple #[.int .i64 rr.1, .int .i64 rr.2.1] ∧ vs' = [zn g i6 i7 i8 rr.2.2.tree.Main j0 rr.2.2.fn j2 j3, i9, j1, j4] ∧ RdT zx τ' i6 rr.2.2.prog.Structs ∧ RdT zr τ' i7 rr.2.2.prog.Funcs ∧ za zp 59 τ' i8 rr.2.2.tree.Bodies i9 ∧ za zo 87 τ' j0 rr.2.2.tree.Points j1 ∧ RdT zq τ' j2 rr.2.2.vars ∧ za (Ty.int .i64) 3 τ' j3 rr.2.2.scope j4) := by
 obtain ⟨b9, c2, rfl, -⟩ := b2.form
 obtain ⟨c3, c4, rfl, -⟩ := b4.form
 obtain ⟨c5, c6, rfl, -⟩ := b5.form
 obtain ⟨c7, c8, rfl, -⟩ := b6.form
 obtain ⟨c9, d0, rfl, -⟩ := b7.form
 obtain ⟨d5, d6, rfl, -⟩ := b8.form
 refine zbu.np (Kp := fun _ _ _ => False) (zkJ (J := [3]) (af := a34) (args := [.pointer (some ⟨g, 0, none⟩)]) hm Try.func34 s34 rfl fun w0 σ hO Q hQ hP => ?_) (fun _ _ _ _ h => h)
 unfold zdY at hF
 have hL := Hp.le.refl τ
 show zds _ _ _ a34.body _ _ _
 unfold a34
 dsimp only [zds]
 refine zbd (zK hO 1 [] [(0, zrh g), (2, zrg 0)] ⟨rfl, rfl, trivial⟩ fun j => ?_)
 refine zbl hO fun G σ hO => ?_
 refine zf (zg (zk ?_))
 have hO := hO.sel [4, 0, 1, 2, 3]
 have hO : Obs _ _ [some (G, ⟨[.int .i64 0], 35, 1, true⟩), zn g (.slice b9 q0.prog.Structs.length c2) (.slice c3 q0.prog.Funcs.length c4) (.slice c5 q0.tree.Bodies.length c6) q0.tree.Main (.slice c7 q0.tree.Points.length c8) q0.fn (.slice c9 q0.vars.length d0) (.slice d5 q0.scope.length d6), Y, Z, b0] := hO
 refine zbd (zA hO [] [(0, zrh g), (2, zrg 0), (3, zrh G), (7, .func (.func 50) #[] #[.pointer (some ⟨G, 0, none⟩)])] ⟨rfl, rfl, rfl, rfl, trivial⟩ fun j => ?_)
 refine zg ?_
 refine ⟨rfl, 50, #[.pointer (some ⟨G, 0, none⟩)], rfl, by kernel_rfl, ?_⟩
 simp only [List.map_nil, Array.empty_append]
 have key : ∀ (e1 : Env), e1 0 = .pointer (some ⟨g, 0, none⟩) → e1 2 = .int .i64 0 → e1 3 = .pointer (some ⟨G, 0, none⟩) → zbT Try.prog w0 zit.code (dpost Try.prog w0 [3] 50 #[.pointer (some ⟨G, 0, none⟩)] e1 Q) e1 σ := ?_
 ·exact key _ rfl rfl rfl
 intro e1 t0 t2 t3
 have hRet : ∀ (n k : Int) (q : zb) (e' : Env) (σ' τ' : Hp) (X I S U : Ob), rr = (n, k, q) → wK g q τ' X I S U → Hp.le τ τ' → Obs τ' σ' [some (G, ⟨[.int .i64 k], 35, 1, true⟩), X, I, S, U] → e' 2 = .int .i64 n → e' 3 = .pointer (some ⟨G, 0, none⟩) → Q .ret e' σ' := by
  rintro n k q e' σ' τ' X I S U rfl ⟨u0, u1, u2, u4, u6, u7, rfl, h0, V, W, h4, h6, h7⟩ hle hO h2' h3'
  refine hQ e' σ' [.int .i64 n, .int .i64 k] τ' _ ?_ (hO.sel [1, 2, 3, 4]) hle ⟨u0, u1, u2, I, u4, S, u6, u7, U, rfl, rfl, h0, V, W, h4, h6, h7⟩
  rw [← h2']
  exact zcv (zb8 h3' (hO.val (i := 0) rfl (off := 0) (agg := false) (n := 1) rfl) rfl)
 obtain ⟨D, hD⟩ : ∃ D, D = dpost Try.prog w0 [3] 50 #[.pointer (some ⟨G, 0, none⟩)] e1 Q := ⟨_, rfl⟩
 have hDp : ∀ (n k0 k : Int) (v : Value) (ch : List PanicEntry) (q : zb) (e' : Env) (σ' τ' : Hp) (X I S U : Ob), zdp v = some k → ch = [{ v := v, recovered := false }] → rr = (n, k, q) → wK g q τ' X I S U → Hp.le τ τ' → Obs τ' σ' [some (G, ⟨[.int .i64 k0], 35, 1, true⟩), X, I, S, U] → e' 2 = .int .i64 n → D (.panic ch) e' σ' := by
  rintro n k0 k v ch q e' σ' τ' X I S U hs rfl hr hK hle hO h2'
  subst hD
  intro hJ
  have h3' := (hJ 3 (List.mem_cons_self ..)).trans t3
  rw [zod hs]
  exact (zpO hO).mono fun u' σ'' h => .inl ⟨h.1, hRet n k q e' σ'' τ' X I S U hr hK hle h.2 h2' h3'⟩
 have hDr : ∀ (n k : Int) (q : zb) (e' : Env) (σ' τ' : Hp) (X I S U : Ob), rr = (n, k, q) → wK g q τ' X I S U → Hp.le τ τ' → Obs τ' σ' [some (G, ⟨[.int .i64 k], 35, 1, true⟩), X, I, S, U] → e' 2 = .int .i64 n → D .ret e' σ' := by
  rintro n k q e' σ' τ' X I S U hr hK hle hO h2'
  subst hD
  intro hJ
  have h3' := (hJ 3 (List.mem_cons_self ..)).trans t3
  exact (zqo hO).mono fun u' σ'' h => ⟨h.1, hRet n k q e' σ'' τ' X I S U hr hK hle h.2 h2' h3'⟩
 rw [← hD]
 clear hD hRet hQ hP
 unfold zit
 have hA : agr [(0, .pointer (some ⟨g, 0, none⟩)), (2, .int .i64 0), (3, .pointer (some ⟨G, 0, none⟩))] e1 := ⟨t0, t2, t3, trivial⟩
 rw [← zV _ _ hA]
 -- structs
 refine zcq (zcq (zcE (fun _ _ => False) rfl (fun _ _ _ h => h.elim) ?_))
 refine zbd (zA hO [1] [(0, zrh g), (2, zrg 0), (3, zrh G), (13, zrg (q0.prog.Structs.length : Int)), (14, zrg 0)] ⟨⟨rfl, rfl⟩, rfl, rfl, rfl, rfl, rfl, trivial⟩ fun j => ?_)
 refine zg (zk ?_)
 obtain ⟨R, hR⟩ : ∃ R, R = wS q0 big 0 0 := ⟨_, rfl⟩
 rw [← hR] at hF
 refine zhd (lpE (fun (n : Nat) e' σ' => ∃ (z o : Int) (τ' : Hp), agr [(0, zrh g), (2, zrg z), (3, zrh G), (13, zrg (q0.prog.Structs.length : Int)), (14, zrg o)] e' ∧ Obs τ' σ' [some (G, ⟨[.int .i64 0], 35, 1, true⟩), zn g (zrn b9 q0.prog.Structs c2) (zrn c3 q0.prog.Funcs c4) (zrn c5 q0.tree.Bodies c6) q0.tree.Main (zrn c7 q0.tree.Points c8) q0.fn (zrn c9 q0.vars d0) (zrn d5 q0.scope d6), Y, Z, b0] ∧ Hp.le τ τ' ∧ R = wS q0 n z o) big ⟨0, 0, _, ⟨rfl, rfl, rfl, rfl, rfl, trivial⟩, hO, hL, hR⟩ ?_)
 clear hR hO hL
 rintro k e σ ⟨z, o, τ1, hA, hO, hL, hR⟩
 rw [← zV _ _ hA]
 cases k with
 | zero =>
  rw [show R = none from hR] at hF
  cases hF
 | succ k =>
 replace hR : R = if (decide (o < (q0.prog.Structs.length : Int))) = true then (match zdB q0 o with
  | none => none
  | some (.error v) => some (.error (z, v))
  | some (.ok _) => wS q0 k (IntKind.i64.wrap (z + 1)) (IntKind.i64.wrap (o + 1))) else some (.ok z) := hR
 refine zcq (zcE (fun _ _ => False) rfl (fun _ _ _ h => h.elim) ?_)
 refine zbd (zA hO [] [(0, zrh g), (2, zrg z), (3, zrh G), (13, zrg (q0.prog.Structs.length : Int)), (14, zrg o), (15, .bool (decide (o < (q0.prog.Structs.length : Int))))] ⟨rfl, rfl, rfl, rfl, rfl, rfl, trivial⟩ fun j => ?_)
 refine zg (zk ?_)
 refine zcq (zll (t := decide (o < (q0.prog.Structs.length : Int))) rfl (fun ht => skE ?_) (fun ht => exE ?_))
 ·rw [if_pos ht] at hR
  refine zk ?_
  refine zcq (zhd (zcq (zcE (fun _ _ => False) rfl (fun _ _ _ h => h.elim) ?_)))
  refine zbd (zA hO [] [(0, zrh g), (2, zrg z), (3, zrh G), (4, zrg o), (13, zrg (q0.prog.Structs.length : Int)), (14, zrg o)] ⟨rfl, rfl, rfl, rfl, rfl, rfl, trivial⟩ fun j => ?_)
  refine zg (zk ?_)
  refine zcq (rE (fun ch σ' => ∃ (v : Value) (τ' : Hp), R = some (.error (z, v)) ∧ ch = [{ v := v, recovered := false }] ∧ Obs τ' σ' [some (G, ⟨[.int .i64 0], 35, 1, true⟩), zn g (.slice b9 q0.prog.Structs.length c2) (.slice c3 q0.prog.Funcs.length c4) (.slice c5 q0.tree.Bodies.length c6) q0.tree.Main (.slice c7 q0.tree.Points.length c8) q0.fn (.slice c9 q0.vars.length d0) (.slice d5 q0.scope.length d6), Y, Z, b0] ∧ Hp.le τ τ') 2 rfl ?_ ?_)
  ·rintro ch e' σ' ⟨v, τ', V, W, h3, h4⟩ he
   rw [V] at hF
   obtain ⟨kk, hk, hr⟩ := Option.map_eq_some_iff.1 hF
   exact hDp z _ kk v ch q0 e' σ' τ' _ _ _ _ hk W hr.symm ⟨_, _, _, _, _, _, rfl, b2.le h4, b4.le h4, b5.le h4, b6.le h4, b7.le h4, b8.le h4⟩ h4 h3 he
  refine zK hO 2 [] [(0, zrh g), (2, zrg z), (3, zrh G), (13, zrg (q0.prog.Structs.length : Int)), (14, zrg o), (17, zrh g), (18, zrg o)] ⟨rfl, rfl, rfl, rfl, rfl, rfl, rfl, trivial⟩ fun j => ?_
  rcases hf : zdB q0 o with _ | ⟨v | u⟩
  ·rw [hf] at hR
   rw [show R = none from hR] at hF
   cases hF
  ·rw [hf] at hR
   refine zbs (hs := [_]) hO (zlS (b2.le hL) (b4.le hL) (b5.le hL) (b6.le hL) (b7.le hL) (b8.le hL) hf) zqY rfl fun _ σ τ' _ hO V W => ?_
   obtain ⟨rfl, rfl⟩ := W
   exact ⟨v, τ', hR, rfl, hO, hL.trans V⟩
  ·rw [hf] at hR
   refine zbq (hs := [_]) hO (zlS (b2.le hL) (b4.le hL) (b5.le hL) (b6.le hL) (b7.le hL) (b8.le hL) hf) zqY rfl fun _ σ τ' _ hO V W => ?_
   obtain ⟨rfl, rfl⟩ := W
   have hL := hL.trans V
   have hO : Obs _ _ [some (G, ⟨[.int .i64 0], 35, 1, true⟩), zn g (.slice b9 q0.prog.Structs.length c2) (.slice c3 q0.prog.Funcs.length c4) (.slice c5 q0.tree.Bodies.length c6) q0.tree.Main (.slice c7 q0.tree.Points.length c8) q0.fn (.slice c9 q0.vars.length d0) (.slice d5 q0.scope.length d6), Y, Z, b0] := hO
   refine zf (zg (zk (zcE (fun _ _ => False) rfl (fun _ _ _ h => h.elim) ?_)))
   refine zbd (zA hO [] [(0, zrh g), (2, zrg (IntKind.i64.wrap (z + 1))), (3, zrh G), (13, zrg (q0.prog.Structs.length : Int)), (14, zrg o)] ⟨rfl, rfl, rfl, rfl, rfl, trivial⟩ fun j => ?_)
   refine zg (z3 (zk (zcE (fun _ _ => False) rfl (fun _ _ _ h => h.elim) ?_)))
   refine zbd (zA hO [] [(0, zrh g), (2, zrg (IntKind.i64.wrap (z + 1))), (3, zrh G), (13, zrg (q0.prog.Structs.length : Int)), (14, zrg (IntKind.i64.wrap (o + 1)))] ⟨rfl, rfl, rfl, rfl, rfl, trivial⟩ fun j => ?_)
   refine zg (zk ?_)
   exact ⟨k, Nat.lt_succ_self _, _, _, _, ⟨rfl, rfl, rfl, rfl, rfl, trivial⟩, hO, hL, hR⟩
 rw [ht] at hR
 replace hR : R = some (.ok z) := hR
 rw [hR] at hF
 clear hR
 refine zbB (zbB (zbD (zk ?_)))
 -- bodies
 replace hF : (match wB q0.prog.Funcs.length big q0 z 0 with
   | none => none
   | some (.error x) => (zdp x.2.1).map fun k => (x.1, k, x.2.2)
   | some (.ok x) => wT x.1 x.2) = some rr := hF
 refine zcq (zcq (zcE (fun _ _ => False) rfl (fun _ _ _ h => h.elim) ?_))
 refine zbd (zA hO [1] [(0, zrh g), (2, zrg z), (3, zrh G), (28, zrg (q0.prog.Funcs.length : Int)), (29, zrg 0)] ⟨⟨rfl, rfl⟩, rfl, rfl, rfl, rfl, rfl, trivial⟩ fun j => ?_)
 refine zg (zk ?_)
 obtain ⟨R, hR⟩ : ∃ R, R = wB q0.prog.Funcs.length big q0 z 0 := ⟨_, rfl⟩
 rw [← hR] at hF
 obtain ⟨len, hlen⟩ : ∃ n, n = q0.prog.Funcs.length := ⟨_, rfl⟩
 rw [← hlen] at hR
 rw [← hlen]
 have hK : wK g q0 τ1 (zn g (.slice b9 q0.prog.Structs.length c2) (.slice c3 q0.prog.Funcs.length c4) (.slice c5 q0.tree.Bodies.length c6) q0.tree.Main (.slice c7 q0.tree.Points.length c8) q0.fn (.slice c9 q0.vars.length d0) (.slice d5 q0.scope.length d6)) Y Z b0 := ⟨_, _, _, _, _, _, rfl, b2.le hL, b4.le hL, b5.le hL, b6.le hL, b7.le hL, b8.le hL⟩
 refine zhd (lpE (fun (n : Nat) e' σ' => ∃ (q : zb) (z o : Int) (τ' : Hp) (X I S U : Ob), agr [(0, zrh g), (2, zrg z), (3, zrh G), (28, zrg (len : Int)), (29, zrg o)] e' ∧ Obs τ' σ' [some (G, ⟨[.int .i64 0], 35, 1, true⟩), X, I, S, U] ∧ wK g q τ' X I S U ∧ Hp.le τ τ' ∧ R = wB len n q z o) big ⟨q0, z, 0, τ1, _, _, _, _, ⟨rfl, rfl, rfl, rfl, rfl, trivial⟩, hO, hK, hL, hR⟩ ?_)
 clear hR hO hL hK hlen hA
 clear b2 b4 b5 b6 b7 b8
 rintro k e σ ⟨q, z, o, τ1, X, I, S, U, hA, hO, ⟨u0, u1, u2, u4, u6, u7, rfl, f2, d9, g9, i0, i1, i2⟩, hL, hR⟩
 rw [← zV _ _ hA]
 cases k with
 | zero =>
  rw [show R = none from hR] at hF
  cases hF
 | succ k =>
 replace hR : R = if (decide (o < (len : Int))) = true then (match zdw q o with
  | none => none
  | some (.error v) => some (.error (z, v.1, v.2))
  | some (.ok q') => wB len k q' (IntKind.i64.wrap (z + 1)) (IntKind.i64.wrap (o + 1))) else some (.ok (z, q)) := hR
 refine zcq (zcE (fun _ _ => False) rfl (fun _ _ _ h => h.elim) ?_)
 refine zbd (zA hO [] [(0, zrh g), (2, zrg z), (3, zrh G), (28, zrg (len : Int)), (29, zrg o), (30, .bool (decide (o < (len : Int))))] ⟨rfl, rfl, rfl, rfl, rfl, rfl, trivial⟩ fun j => ?_)
 refine zg (zk ?_)
 refine zcq (zll (t := decide (o < (len : Int))) rfl (fun ht => skE ?_) (fun ht => exE ?_))
 ·rw [if_pos ht] at hR
  refine zk ?_
  refine zcq (zhd (zcq (zcE (fun _ _ => False) rfl (fun _ _ _ h => h.elim) ?_)))
  refine zbd (zA hO [] [(0, zrh g), (2, zrg z), (3, zrh G), (5, zrg o), (28, zrg (len : Int)), (29, zrg o)] ⟨rfl, rfl, rfl, rfl, rfl, rfl, trivial⟩ fun j => ?_)
  refine zg (zk ?_)
  refine zcq (rE (fun ch σ' => ∃ (v : Value) (q' : zb) (τ' : Hp) (X I S U : Ob), R = some (.error (z, v, q')) ∧ ch = [{ v := v, recovered := false }] ∧ wK g q' τ' X I S U ∧ Obs τ' σ' [some (G, ⟨[.int .i64 0], 35, 1, true⟩), X, I, S, U] ∧ Hp.le τ τ') 2 rfl ?_ ?_)
  ·rintro ch e' σ' ⟨v, q', τ', X, I, S, U, V, W, h3, h4, h5⟩ he
   rw [V] at hF
   obtain ⟨kk, hk, hr⟩ := Option.map_eq_some_iff.1 hF
   exact hDp z _ kk v ch q' e' σ' τ' _ _ _ _ hk W hr.symm h3 h5 h4 he
  refine zK hO 2 [] [(0, zrh g), (2, zrg z), (3, zrh G), (28, zrg (len : Int)), (29, zrg o), (32, zrh g), (33, zrg o)] ⟨rfl, rfl, rfl, rfl, rfl, rfl, rfl, trivial⟩ fun j => ?_
  rcases hf : zdw q o with _ | ⟨v | q'⟩
  ·rw [hf] at hR
   rw [show R = none from hR] at hF
   cases hF
  ·rw [hf] at hR
   refine zbs (hs := [_]) hO (zkO f2 d9 g9 i0 i1 i2 hf) zqY rfl fun _ σ τ' _ hO V W => ?_
   obtain ⟨v0, v1, v2, p1, v4, p2, v6, v7, p3, rfl, rfl, g0, g1, g2, g4, g6, g7⟩ := W
   exact ⟨v.1, v.2, τ', _, _, _, _, hR, rfl, ⟨_, _, _, _, _, _, rfl, g0, g1, g2, g4, g6, g7⟩, hO, hL.trans V⟩
  ·rw [hf] at hR
   refine zbq (hs := [_]) hO (zkO f2 d9 g9 i0 i1 i2 hf) zqY rfl fun _ σ τ' _ hO V W => ?_
   obtain ⟨v0, v1, v2, p1, v4, p2, v6, v7, p3, rfl, rfl, g0, g1, g2, g4, g6, g7⟩ := W
   have hL := hL.trans V
   have hO := zrl5 hO
   refine zf (zg (zk (zcE (fun _ _ => False) rfl (fun _ _ _ h => h.elim) ?_)))
   refine zbd (zA hO [] [(0, zrh g), (2, zrg (IntKind.i64.wrap (z + 1))), (3, zrh G), (28, zrg (len : Int)), (29, zrg o)] ⟨rfl, rfl, rfl, rfl, rfl, trivial⟩ fun j => ?_)
   refine zg (z3 (zk (zcE (fun _ _ => False) rfl (fun _ _ _ h => h.elim) ?_)))
   refine zbd (zA hO [] [(0, zrh g), (2, zrg (IntKind.i64.wrap (z + 1))), (3, zrh G), (28, zrg (len : Int)), (29, zrg (IntKind.i64.wrap (o + 1)))] ⟨rfl, rfl, rfl, rfl, rfl, trivial⟩ fun j => ?_)
   refine zg (zk ?_)
   exact ⟨k, Nat.lt_succ_self _, q', _, _, τ', _, _, _, _, ⟨rfl, rfl, rfl, rfl, rfl, trivial⟩, hO, ⟨_, _, _, _, _, _, rfl, g0, g1, g2, g4, g6, g7⟩, hL, hR⟩
 rw [ht] at hR
 replace hR : R = some (.ok (z, q)) := hR
 rw [hR] at hF
 clear hR
 replace hF : wT z q = some rr := hF
 refine zbB (zbB (zbD (zk ?_)))
 -- main
 unfold wT at hF
 obtain ⟨m, k9, hF⟩ := zrm hF
 obtain ⟨A0, c0, rfl, -⟩ := f2.form
 obtain ⟨A1, c1, rfl, -⟩ := d9.form
 refine zcq (zcE (fun _ _ => False) rfl (fun _ _ _ h => h.elim) ?_)
 refine zbd (zK hO 2 [] [(0, zrh g), (2, zrg z), (3, zrh G), (38, zrh g), (39, zrh g)] ⟨rfl, rfl, rfl, rfl, rfl, trivial⟩ fun j => ?_)
 refine zce (hs := [_]) hO (zlm f2 d9 g9 i0 i1 i2 k9) rfl fun _ σ τ' _ hO V W => ?_
 obtain ⟨rfl, rfl⟩ := W
 have hL := hL.trans V
 have hO := zrl5 hO
 refine zK hO 3 [] [(0, zrh g), (2, zrg z), (3, zrh G), (40, zrg m), (43, .pointer (some ⟨g, 3, none⟩))] ⟨rfl, rfl, rfl, rfl, rfl, trivial⟩ fun j => ?_
 refine zC hO (i := 1) rfl (off := 3) rfl rfl rfl rfl (Nat.le_of_ble_eq_true rfl) rfl fun σ hO => ?_
 have hO : Obs _ _ [some (G, ⟨[.int .i64 0], 35, 1, true⟩), zn g (.slice A0 q.prog.Structs.length c0) (.slice A1 q.prog.Funcs.length c1) u2 m u4 q.fn u6 u7, I, S, U] := hO
 have hK : ∀ τ2, Hp.le τ' τ2 → wK g (wM q m) τ2 (zn g (.slice A0 q.prog.Structs.length c0) (.slice A1 q.prog.Funcs.length c1) u2 m u4 q.fn u6 u7) I S U := fun τ2 W => ⟨_, _, _, _, _, _, rfl, (f2.le V).le W, (d9.le V).le W, (g9.le V).le W, (i0.le V).le W, (i1.le V).le W, (i2.le V).le W⟩
 refine zf (zg (zk ?_))
 refine zcq (rE (fun ch σ' => ∃ (v : Value) (τ2 : Hp) (k : Int), zdp v = some k ∧ rr = (z, k, wM q m) ∧ ch = [{ v := v, recovered := false }] ∧ Obs τ2 σ' [some (G, ⟨[.int .i64 0], 35, 1, true⟩), zn g (.slice A0 q.prog.Structs.length c0) (.slice A1 q.prog.Funcs.length c1) u2 m u4 q.fn u6 u7, I, S, U] ∧ Hp.le τ' τ2) 2 rfl ?_ ?_)
 ·rintro ch e' σ' ⟨v, τ2, kk, h3, h4, h5, h6, h7⟩ he
  exact hDp z _ kk v ch _ e' σ' τ2 _ _ _ _ h3 h5 h4 (hK _ h7) (hL.trans h7) h6 he
 refine zK hO 6 [1] [(0, zrh g), (2, zrg z), (3, zrh G), (49, .bool (decide (m ≥ 0)))] ⟨⟨rfl, rfl⟩, rfl, rfl, rfl, rfl, trivial⟩ fun j => ?_
 rcases hf : zbx (decide (m ≥ 0)) 8 with _ | ⟨v | u⟩
 ·rw [hf] at hF
  cases hF
 ·rw [hf] at hF
  obtain ⟨kk, hk, hr⟩ := Option.map_eq_some_iff.1 hF
  refine zbV hO (zbk hf) zqY rfl fun _ σ τ2 _ hO h3 h4 => ?_
  obtain ⟨rfl, rfl⟩ := h4
  exact ⟨v, τ2, kk, hk, hr.symm, rfl, hO, h3⟩
 rw [hf] at hF
 replace hF : (zs q.prog.Funcs m).bind _ = some rr := hF
 refine zb0 hO (zbk hf) zqY rfl fun _ σ τ2 _ hO h3 h4 => ?_
 obtain ⟨rfl, rfl⟩ := h4
 have hO : Obs _ _ [some (G, ⟨[.int .i64 0], 35, 1, true⟩), zn g (.slice A0 q.prog.Structs.length c0) (.slice A1 q.prog.Funcs.length c1) u2 m u4 q.fn u6 u7, I, S, U] := hO
 refine zf (zg (zk ?_))
 obtain ⟨d, hd, hF⟩ := zrm hF
 clear hf
 -- the declaration
 refine zcq (zcE (fun _ _ => False) rfl (fun _ _ _ h => h.elim) ?_)
 refine zor (zK hO 10 [1, 1] [(0, zrh g), (2, zrg z), (3, zrh G), (54, .pointer (some ⟨g, 1, none⟩)), (55, zrn A1 q.prog.Funcs c1), (59, .pointer (some ⟨g, 3, none⟩)), (60, zrg m)] ⟨⟨rfl, rfl⟩, ⟨rfl, rfl⟩, rfl, rfl, rfl, rfl, rfl, rfl, rfl, trivial⟩ fun j => ?_)
 refine zO (T := zr) ((d9.le V).le h3) hO.base rfl rfl hd (by decide) fun a5 _ k6 m7 => ?_
 obtain ⟨v8, m8, rfl, r9, l1⟩ := k6
 obtain ⟨m9, n0, rfl, -⟩ := r9.form
 obtain ⟨n1, n2, rfl, -⟩ := l1.form
 refine zE rfl ((m7.le hO.base).all rfl) ?_
 refine zcp (zbl hO fun n3 σ hO => ?_)
 have hO := zrl6 hO
 refine zf (zcj ⟨(zbp rfl ((m7.le hO.base).all rfl) rfl), (zbp rfl (hO.val (i := 1) (off := 3) (agg := false) (n := 1) rfl rfl) rfl), (zbp rfl (hO.val (i := 1) (off := 1) (agg := false) (n := 1) rfl rfl) rfl), trivial⟩ ?_)
 refine zC hO (i := 5) rfl (off := 0) rfl rfl rfl rfl (Nat.le_of_ble_eq_true rfl) rfl fun σ hO => ?_
 have hO := zrl6 hO
 refine zf (zg (zk ?_))
 refine zcq (rE (fun ch σ' => ∃ (v : Value) (τ3 : Hp) (k : Int), zdp v = some k ∧ rr = (z, k, wM q m) ∧ ch = [{ v := v, recovered := false }] ∧ Obs τ3 σ' [some (G, ⟨[.int .i64 0], 35, 1, true⟩), zn g (.slice A0 q.prog.Structs.length c0) (.slice A1 q.prog.Funcs.length c1) u2 m u4 q.fn u6 u7, I, S, U] ∧ Hp.le τ' τ3) 2 rfl ?_ ?_)
 ·rintro ch e' σ' ⟨v, τ3, kk, h5, h6, h7, h8, h9⟩ he
  exact hDp z _ kk v ch _ e' σ' τ3 _ _ _ _ h5 h7 h6 (hK _ h9) (hL.trans h9) h8 he
 refine zK hO 7 [5, 5] [(0, zrh g), (2, zrg z), (3, zrh G), (72, .bool (((d.Params.length : Int) == 0) && ((d.Result.Kind.toNat : Int) == 0)))] ⟨⟨rfl, rfl⟩, ⟨rfl, rfl⟩, ⟨⟨rfl, rfl⟩, fun J => ⟨rfl, rfl, rfl, rfl, trivial⟩⟩⟩ fun j => ?_
 rcases hf : zbx (((d.Params.length : Int) == 0) && ((d.Result.Kind.toNat : Int) == 0)) 8 with _ | ⟨v | u⟩
 ·rw [hf] at hF
  cases hF
 ·rw [hf] at hF
  obtain ⟨kk, hk, hr⟩ := Option.map_eq_some_iff.1 hF
  refine zbV hO (zbk hf) zqY rfl fun _ σ τ3 _ hO h5 h6 => ?_
  obtain ⟨rfl, rfl⟩ := h6
  exact ⟨v, τ3, kk, hk, hr.symm, rfl, hO.sel [0, 1, 2, 3, 4], h3.trans h5⟩
 rw [hf] at hF
 replace hF : some (z, (0 : Int), wM q m) = some rr := hF
 refine zb0 hO (zbk hf) zqY rfl fun _ σ τ3 _ hO h5 h6 => ?_
 obtain ⟨rfl, rfl⟩ := h6
 have hO := zrl6 hO
 refine zf (zg (zk ?_))
 injection hF with hF
 -- OK is stored
 refine zcE (fun _ _ => False) rfl (fun _ _ _ h => h.elim) ?_
 refine zK hO 2 [] [(2, zrg z), (3, zrh G)] ⟨rfl, rfl, trivial⟩ fun j => ?_
 refine zC hO (i := 0) rfl (off := 0) rfl rfl rfl rfl (Nat.le_of_ble_eq_true rfl) rfl fun σ hO => ?_
 refine zf (zba ?_)
 exact hDr z 0 (wM q m) _ _ _ _ _ _ _ hF.symm (hK _ (h3.trans h5)) (hL.trans (h3.trans h5)) (hO.sel [0, 1, 2, 3, 4]) rfl
theorem znA {τ : Hp} {p0 : zM} {g h : Value} (o : RdT zq τ g p0.Vars) (q : RdT zN τ h p0.Acts) {rr : Bool} (hF : zjM p0 = some rr) :
  Ctr Try.prog 36 #[.agg #[.string p0.Name, .int .i64 p0.Params, .bool p0.Result, g, h]] τ [] (fun v τ' vs' => v = .bool rr ∧ vs' = []) := by
 obtain ⟨z, D, rfl, -⟩ := o.form
 obtain ⟨G, I, rfl, -⟩ := q.form
 refine zbi (args := [.agg #[.string p0.Name, .int .i64 p0.Params, .bool p0.Result, (.slice z p0.Vars.length D), (.slice G p0.Acts.length I)]]) hm Try.func36 s36 rfl fun w0 σ hO Q hQ => ?_
 unfold zjM at hF
 have hL := Hp.le.refl τ
 show wpn _ _ a36.body _ _ _
 unfold a36
 dsimp only
 refine zbQ (n := 5) hO rfl rfl fun S σ hO => ?_
 have hO := zrl1 hO
 refine ze hO [] [] [1] zq0 fun j => ?_
 refine zA hO [0] [(2, .bool (decide ((p0.Vars.length : Int) > 64)))] (And.intro (And.intro rfl rfl) zq0) fun j => ?_
 refine zba ?_
 cases hF
 have hO := hO.sel []
 exact hQ _ _ _ _ _ rfl hO hL ⟨rfl, rfl⟩
theorem zmH {τ : Hp} {S : Value} {p0 : (List zM)} (U : RdT zp τ S p0) {rr : Int} (hF : zhU p0 = some rr) :
  Ctr Try.prog 55 #[S, .func (.func 36) #[] #[]] τ [] (fun v τ' vs' => v = .int .i64 rr ∧ vs' = []) := by
 obtain ⟨G, I, rfl, -⟩ := U.form
 refine zbi (args := [.slice G p0.length I, .func (.func 36) #[] #[]]) hm Try.func55 s55 rfl fun w0 σ hO Q hQ => ?_
 unfold zhU at hF
 have hL := Hp.le.refl τ
 show wpn _ _ a55.body _ _ _
 unfold a55
 dsimp only
 refine ze hO [] [] [0, 1] zq1 fun j => ?_
 refine zl (ze hO [] [(7, zrg (p0.length : Int)), (8, zrg 0)] [0, 1] zq3 fun j => ?_)
 refine zY (zbH (fun (n : Nat) e' σ' => ∃ (g : Int) (τ' : Hp), agr [(0, zrn G p0 I), (1, .func (.func 36) #[] #[]), (7, zrg (p0.length : Int)), (8, zrg g)] e' ∧ Obs τ' σ' [] ∧ Hp.le τ τ' ∧ zhQ p0 n g = some rr) big ⟨0, _, zrf zq2, hO, hL, hF⟩ ?_)
 clear hF hO hL
 rintro h e σ ⟨g, _, hA, hO, hL, hF⟩
 rw [← zV _ _ hA]
 cases h with
 | zero => exact nomatch (show none = some rr from hF)
 | succ h =>
 replace hF : zik (zhQ p0 h) p0 g = some rr := hF
 unfold zik at hF
 refine ze hO [] [(9, .bool (decide (g < (p0.length : Int))))] [0, 1, 7, 8] zq4 fun j => ?_
 refine zy hF rfl (fun hF => ?_) fun hF => ?_
 ·refine zF (zY (ze hO [] [(5, zrg g)] [0, 1, 7, 8] zq4 fun j => ?_))
  refine zd hO 3 [] [(11, .func (.func 36) #[] #[]), (12, zrn G p0 I), (13, zrg g)] [0, 1, 5, 7, 8] zq7 fun j => ?_
  obtain ⟨Z, V, hF⟩ := zrm hF
  refine zO (T := zp) (U.le hL) hO.base rfl rfl V (by decide) fun a46 _ W D => ?_
  obtain ⟨b0, b1, rfl, o, q⟩ := W
  obtain ⟨b2, b3, rfl, -⟩ := o.form
  obtain ⟨b4, b5, rfl, -⟩ := q.form
  refine zE rfl ((D.le hO.base).all rfl) ?_
  obtain ⟨b6, X, hF⟩ := zrm hF
  refine zfN rfl (by kernel_rfl) hO (znA o q X) rfl fun _ σ _ _ hO z Y => ?_
  have hL := hL.trans z
  have D := D.le z
  have o := o.le z
  have q := q.le z
  obtain ⟨rfl, rfl⟩ := Y
  have hO : Obs _ _ [] := hO
  refine zf (zbC (zy hF rfl (fun hF => ?_) fun hF => ?_))
  ·refine zl (zA hO [] [(4, zrg g)] zq0 fun j => ?_)
   refine zbt (zbo (zbc (zbc (zbo (zbc ?_)))))
   cases hF
   exact hQ _ _ _ _ _ rfl hO hL ⟨rfl, rfl⟩
  refine zF (zg (z3 (zk (zbd (ze hO [] [(8, zrg (IntKind.i64.wrap (g + 1)))] [0, 1, 7] zq3 fun j => ?_)))))
  refine zg (zk ?_)
  exact ⟨h, Nat.lt_succ_self _, (IntKind.i64.wrap (g + 1)), _, zrf zq2, hO, hL, hF⟩
 refine zbF (zbB (zbD (zk (zA hO [] [(4, zrg (-1))] zq0 fun j => ?_))))
 refine zba ?_
 cases hF
 exact hQ _ _ _ _ _ rfl hO hL ⟨rfl, rfl⟩
theorem zpV {τ : Hp} {g : Value} {p0 : (List zM)} (h : RdT zp τ g p0) {rr : Bool} (hF : zhe p0 = some rr) :
  Ctr Try.prog 35 #[g, .func (.func 36) #[] #[]] τ [] (fun v τ' vs' => v = .bool rr ∧ vs' = []) := by
 obtain ⟨o, q, rfl, -⟩ := h.form
 refine zbi (args := [.slice o p0.length q, .func (.func 36) #[] #[]]) hm Try.func35 s35 rfl fun w0 σ hO Q hQ => ?_
 unfold zhe at hF
 have hL := Hp.le.refl τ
 show wpn _ _ a35.body _ _ _
 unfold a35
 dsimp only
 refine ze hO [] [] [0, 1] zq1 fun j => ?_
 refine zK hO 2 [] [(5, zrn o p0 q), (6, .func (.func 36) #[] #[])] zq1 fun j => ?_
 obtain ⟨z, D, hF⟩ := zrm hF
 refine zL hO (zmH (h.le hL) D) rfl fun _ σ _ _ hO G I => ?_
 have hL := hL.trans G
 obtain ⟨rfl, rfl⟩ := I
 have hO : Obs _ _ [] := hO
 refine zA hO [] [(4, .bool (decide (z ≥ 0)))] zq0 fun j => ?_
 refine zba ?_
 cases hF
 exact hQ _ _ _ _ _ rfl hO hL ⟨rfl, rfl⟩
theorem ze5 {τ : Hp} {p0 : zm} {o Y : Value} (Z : RdT zx τ o p0.Structs) (b0 : RdT zr τ Y p0.Funcs) {rr : zw × Int × Int} (hF : zcI p0 = some rr) :
  Ctr Try.prog 17 #[.agg #[o, Y]] τ [] (fun v τ' vs' => ∃ (o b1 : Value), v = .tuple #[.agg #[o, .int .i64 rr.1.Main, b1], .int .i64 rr.2.1, .int .i64 rr.2.2] ∧ vs' = [] ∧ RdT zp τ' o rr.1.Bodies ∧ RdT zo τ' b1 rr.1.Points) := by
 obtain ⟨b5, b6, rfl, -⟩ := Z.form
 obtain ⟨b7, b8, rfl, -⟩ := b0.form
 refine zbi (args := [.agg #[(zrn b5 p0.Structs b6), (zrn b7 p0.Funcs b8)]]) hm Try.func17 s17 rfl fun w0 σ hO Q hQ => ?_
 unfold zcI at hF
 have hL := Hp.le.refl τ
 show wpn _ _ a17.body _ _ _
 unfold a17
 dsimp only
 refine zbQ (n := 2) hO rfl rfl fun b2 σ hO => ?_
 have hO := zrl1 hO
 refine zbl hO fun b3 σ hO => ?_
 have hO := zrl2 hO
 refine ze hO [] [] [1, 2] zq1 fun j => ?_
 refine zd hO 2 [0] [(10, .agg #[(zrn b5 p0.Structs b6), (zrn b7 p0.Funcs b8), (.slice none 0 0), (.int .i64 0), (.slice none 0 0), (.int .i64 0), (.slice none 0 0), (.slice none 0 0)])] [1, 2] (And.intro (And.intro rfl rfl) zq2) fun j => ?_
 refine zbQ (n := 8) hO rfl rfl fun b4 σ hO => ?_
 have hO := zrl3 hO
 refine ze hO [] [(5, zrh b4)] [1, 2] zq2 fun j => ?_
 refine zl (zd hO 1 [] [(13, zrh b4)] [1, 2, 5] zq3 fun j => ?_)
 have hO := hO.no
 have hO := zrl4 hO
 have w5 := za.nil0 (T := zp) (ty := 59) hO
 have hO := hO.no
 have hO := zrl5 hO
 have w6 := za.nil0 (T := zo) (ty := 87) hO
 have hO := hO.no
 have hO := zrl6 hO
 have w7 := za.nil0 (T := (Ty.int .i64)) (ty := 3) hO
 obtain ⟨g, h9, hF⟩ := zrm hF
 refine zce (hs := [_, _]) hO (znn (q0 := (⟨(⟨p0.Structs, p0.Funcs⟩ : zm), (⟨([] : List zM), 0, ([] : List zH)⟩ : zw), 0, [], ([] : List Int)⟩ : zb)) (Z.le hL) (b0.le hL) w5 w6 (RdT.nil zq _) w7 h9) rfl fun _ σ _ _ hO c4 c5 => ?_
 have hL := hL.trans c4
 obtain ⟨f2, f3, f4, f5, f6, f7, f8, f9, g0, rfl, rfl, q, z, W, S, D, G⟩ := c5
 obtain ⟨g1, g2, rfl, -⟩ := q.form
 obtain ⟨g3, g4, rfl, -⟩ := z.form
 obtain ⟨c0, c1, rfl, -⟩ := W.form
 obtain ⟨c6, c7, rfl, -⟩ := S.form
 obtain ⟨g5, g6, rfl, -⟩ := D.form
 obtain ⟨g7, g8, rfl, -⟩ := G.form
 have hO := zrl6 hO
 refine ze hO [] [(6, zrg g.1), (7, zrg g.2.1)] [1, 2, 5] zq4 fun j => ?_
 refine zl (ze hO [] [(18, .bool (g.2.1 != 0))] [1, 2, 5, 6, 7] zq5 fun j => ?_)
 refine zy hF rfl (fun hF => ?_) fun hF => ?_
 ·refine zl (zd hO 3 [] [(19, .agg #[(.slice none 0 0), (.int .i64 0), (.slice none 0 0)]), (20, zrg g.1), (21, zrg g.2.1)] [2] zq3 fun j => ?_)
  refine zC hO (i := 1) rfl (off := 0) rfl rfl rfl rfl (Nat.le_of_ble_eq_true rfl) rfl fun σ hO => ?_
  have hO := zrl6 hO
  refine ze hO [] [(3, zrg g.1), (4, zrg g.2.1)] [2] zq2 fun j => ?_
  refine zbt ?_
  cases hF
  have X := hO.val (i := 1) rfl (off := 0) (agg := true) (n := 3) rfl
  have hO := hO.sel []
  exact hQ _ _ _ _ _ (zb8 rfl (X) (zcv (zcv rfl))) hO hL ⟨_, _, rfl, rfl, (RdT.nil _ _), (RdT.nil _ _)⟩
 refine zF (zd hO 5 [2] [(26, zrn c0 g.2.2.tree.Bodies c1)] [1, 2, 5] (And.intro (And.intro rfl rfl) zq3) fun j => ?_)
 obtain ⟨c2, c9, hF⟩ := zrm hF
 have hO := hO.sel [0, 1, 2, 4, 5, 3]
 refine zce (hs := [_, _, _, _, _]) hO (Ctr.lendG W (fun _ _ _ _ h => h) fun _ g9 d0 => zpV d0 c9) rfl fun _ σ _ _ hO I d5 => ?_
 have hL := hL.trans I
 have W := W.le I
 have q := q.le I
 have z := z.le I
 have S := S.le I
 have D := D.le I
 have G := G.le I
 obtain ⟨_, rfl, rfl, rfl⟩ := d5
 have hO := zrl6 hO
 have hO := hO.sel [0, 1, 2, 5, 3, 4]
 have hO := zrl6 hO
 refine ze hO [] [(8, .bool c2)] [1, 2, 5] zq3 fun j => ?_
 refine zl (zA hO [0, 2] [(2, zrh b3), (5, zrh b4), (43, .bool ((c2 || (decide ((p0.Funcs.length : Int) > 64))) || (decide ((g.2.2.tree.Points.length : Int) > 1000))))] (And.intro (And.intro rfl rfl) (And.intro (And.intro rfl rfl) (fun _ => And.intro (And.intro rfl rfl) (And.intro (And.intro rfl rfl) (fun _ => zrf zq1))))) fun j => ?_)
 refine zy hF rfl (fun hF => ?_) fun hF => ?_
 ·refine zl (zd hO 1 [] [(44, .agg #[(.slice none 0 0), (.int .i64 0), (.slice none 0 0)])] [2] zq1 fun j => ?_)
  refine zC hO (i := 1) rfl (off := 0) rfl rfl rfl rfl (Nat.le_of_ble_eq_true rfl) rfl fun σ hO => ?_
  have hO := zrl6 hO
  refine ze hO [] [(3, zrg 0), (4, zrg 11)] [2] zq2 fun j => ?_
  refine zbt ?_
  cases hF
  have X := hO.val (i := 1) rfl (off := 0) (agg := true) (n := 3) rfl
  have hO := hO.sel []
  exact hQ _ _ _ _ _ (zb8 rfl (X) (zcv (zcv rfl))) hO hL ⟨_, _, rfl, rfl, (RdT.nil _ _), (RdT.nil _ _)⟩
 refine zF (zd hO 4 [2] [(48, .agg #[(zrn c0 g.2.2.tree.Bodies c1), (.int .i64 g.2.2.tree.Main), (zrn c6 g.2.2.tree.Points c7)])] [2] (And.intro (And.intro rfl rfl) zq1) fun j => ?_)
 refine zC hO (i := 1) rfl (off := 0) rfl rfl rfl rfl (Nat.le_of_ble_eq_true rfl) rfl fun σ hO => ?_
 have hO := zrl6 hO
 refine ze hO [] [(3, zrg 0), (4, zrg 0)] [2] zq2 fun j => ?_
 refine zba ?_
 obtain ⟨_, U, b9, hO⟩ := W.share hO (i := 3) rfl
 have hL := hL.trans U
 have S := S.le U
 have q := q.le U
 have z := z.le U
 have D := D.le U
 have G := G.le U
 have hO := zrl6 hO
 obtain ⟨_, V, d6, hO⟩ := S.share hO (i := 4) rfl
 have hL := hL.trans V
 have b9 := b9.le V
 have q := q.le V
 have z := z.le V
 have D := D.le V
 have G := G.le V
 have hO := zrl6 hO
 cases hF
 have X := hO.val (i := 1) rfl (off := 0) (agg := true) (n := 3) rfl
 have hO := hO.sel []
 exact hQ _ _ _ _ _ (zb8 rfl (X) (zcv (zcv rfl))) hO hL ⟨_, _, rfl, rfl, b9, d6⟩
theorem zeu {τ : Hp} {p0 : Int}  {rr : zc} (hF : zgm p0 = some rr) :
  Ctr Try.prog 25 #[.int .i64 p0] τ [] (fun v τ' vs' => ∃ (g : Value), v = .agg #[.int .u8 rr.Kind.toNat, .int .i64 rr.Num, .string rr.Name, .string rr.Field, .string rr.Op, g] ∧ vs' = [] ∧ RdT z5 τ' g rr.Kids) := by
 refine zbi (args := [.int .i64 p0]) hm Try.func25 s25 rfl fun w0 σ hO Q hQ => ?_
 unfold zgm at hF
 have hL := Hp.le.refl τ
 show wpn _ _ a25.body _ _ _
 unfold a25
 dsimp only
 refine zbl hO fun o σ hO => ?_
 have hO := zrl1 hO
 refine zf (zd hO 2 [] [(4, .agg #[(.int .u8 1), (.int .i64 p0), (.string zqP), (.string zqP), (.string zqP), (.slice none 0 0)])] [2] zq1 fun j => ?_)
 refine zC hO (i := 0) rfl (off := 0) rfl rfl rfl rfl (Nat.le_of_ble_eq_true rfl) rfl fun σ hO => ?_
 have hO := zrl1 hO
 refine zf (zba ?_)
 cases hF
 have h := hO.val (i := 0) rfl (off := 0) (agg := true) (n := 6) rfl
 have hO := hO.sel []
 exact hQ _ _ _ _ _ (zb8 rfl (h) rfl) hO hL ⟨_, rfl, rfl, (RdT.nil _ _)⟩
theorem zeK {τ : Hp} {p0 : ByteArray}  {rr : zc} (hF : zgw p0 = some rr) :
  Ctr Try.prog 39 #[.string p0] τ [] (fun v τ' vs' => ∃ (g : Value), v = .agg #[.int .u8 rr.Kind.toNat, .int .i64 rr.Num, .string rr.Name, .string rr.Field, .string rr.Op, g] ∧ vs' = [] ∧ RdT z5 τ' g rr.Kids) := by
 refine zbi (args := [.string p0]) hm Try.func39 s39 rfl fun w0 σ hO Q hQ => ?_
 unfold zgw at hF
 have hL := Hp.le.refl τ
 show wpn _ _ a39.body _ _ _
 unfold a39
 dsimp only
 refine zbl hO fun o σ hO => ?_
 have hO := zrl1 hO
 refine zf (zd hO 2 [] [(4, .agg #[(.int .u8 3), (.int .i64 0), (.string p0), (.string zqP), (.string zqP), (.slice none 0 0)])] [2] zq1 fun j => ?_)
 refine zC hO (i := 0) rfl (off := 0) rfl rfl rfl rfl (Nat.le_of_ble_eq_true rfl) rfl fun σ hO => ?_
 have hO := zrl1 hO
 refine zf (zba ?_)
 cases hF
 have h := hO.val (i := 0) rfl (off := 0) (agg := true) (n := 6) rfl
 have hO := hO.sel []
 exact hQ _ _ _ _ _ (zb8 rfl (h) rfl) hO hL ⟨_, rfl, rfl, (RdT.nil _ _)⟩
theorem zhf {τ : Hp} {p0 : ByteArray} {p1 : zc} {D : Value} {g : zc} {G : Value} (I : RdT z5 τ D p1.Kids) (S : RdT z5 τ G g.Kids) {rr : zc} (hF : zgJ p0 p1 g = some rr) :
  Ctr Try.prog 40 #[.string p0, .agg #[.int .u8 p1.Kind.toNat, .int .i64 p1.Num, .string p1.Name, .string p1.Field, .string p1.Op, D], .agg #[.int .u8 g.Kind.toNat, .int .i64 g.Num, .string g.Name, .string g.Field, .string g.Op, G]] τ [] (fun v τ' vs' => ∃ (U : Value), v = .agg #[.int .u8 rr.Kind.toNat, .int .i64 rr.Num, .string rr.Name, .string rr.Field, .string rr.Op, U] ∧ vs' = [] ∧ RdT z5 τ' U rr.Kids) := by
 obtain ⟨h, o, rfl, -⟩ := I.form
 obtain ⟨q, z, rfl, -⟩ := S.form
 refine zbi (args := [.string p0, .agg #[.int .u8 p1.Kind.toNat, .int .i64 p1.Num, .string p1.Name, .string p1.Field, .string p1.Op, (.slice h p1.Kids.length o)], .agg #[.int .u8 g.Kind.toNat, .int .i64 g.Num, .string g.Name, .string g.Field, .string g.Op, (.slice q g.Kids.length z)]]) hm Try.func40 s40 rfl fun w0 σ hO Q hQ => ?_
 unfold zgJ at hF
 have hL := Hp.le.refl τ
 show wpn _ _ a40.body _ _ _
 unfold a40
 dsimp only
 refine zbQ (n := 6) hO rfl rfl fun b4 σ hO => ?_
 have hO := zrl1 hO
 refine zbQ (n := 6) hO rfl rfl fun b5 σ hO => ?_
 have hO := zrl2 hO
 refine zbl hO fun b6 σ hO => ?_
 have hO := zrl3 hO
 refine zf (zd hO 3 [0, 1] [(7, .string p0), (8, .agg #[(.int .u8 (p1.Kind.toNat : Int)), (.int .i64 p1.Num), (.string p1.Name), (.string p1.Field), (.string p1.Op), (zrn h p1.Kids o)]), (9, .agg #[(.int .u8 (g.Kind.toNat : Int)), (.int .i64 g.Num), (.string g.Name), (.string g.Field), (.string g.Op), (zrn q g.Kids z)])] [6] (And.intro (And.intro rfl rfl) (And.intro (And.intro rfl rfl) zq3)) fun j => ?_)
 refine zbG (T := z5) (l := ([(⟨p1.Kind, p1.Num, p1.Name, p1.Field, p1.Op, p1.Kids⟩ : zc), (⟨g.Kind, g.Num, g.Name, g.Field, g.Op, g.Kids⟩ : zc)] : List zc)) (cs := [.int .u8 (p1.Kind.toNat : Int), .int .i64 p1.Num, .string p1.Name, .string p1.Field, .string p1.Op, zrn h p1.Kids o, .int .u8 (g.Kind.toNat : Int), .int .i64 g.Num, .string g.Name, .string g.Field, .string g.Op, zrn q g.Kids z]) hO rfl ⟨[.int .u8 (p1.Kind.toNat : Int), .int .i64 p1.Num, .string p1.Name, .string p1.Field, .string p1.Op, zrn h p1.Kids o], _, rfl, (zcR ⟨_, rfl, (I.le hL)⟩), ⟨[.int .u8 (g.Kind.toNat : Int), .int .i64 g.Num, .string g.Name, .string g.Field, .string g.Op, zrn q g.Kids z], _, rfl, (zcR ⟨_, rfl, (S.le hL)⟩), rfl⟩⟩ rfl (by decide) fun _ σ o9 V hO => ?_
 obtain ⟨Z, c8, rfl, -⟩ := V.form
 have hO := zrl4 hO
 refine zd hO 1 [] [(11, .agg #[(.int .u8 7), (.int .i64 0), (.string zqP), (.string zqP), (.string p0), (zrn Z ([(⟨p1.Kind, p1.Num, p1.Name, p1.Field, p1.Op, p1.Kids⟩ : zc), (⟨g.Kind, g.Num, g.Name, g.Field, g.Op, g.Kids⟩ : zc)] : List zc) c8)])] [6] zq1 fun j => ?_
 refine zC hO (i := 2) rfl (off := 0) rfl rfl rfl rfl (Nat.le_of_ble_eq_true rfl) rfl fun σ hO => ?_
 have hO := zrl4 hO
 refine zf (zba ?_)
 obtain ⟨_, W, X, hO⟩ := V.share hO (i := 3) rfl
 have hL := hL.trans W
 have hO := zrl4 hO
 cases hF
 have Y := hO.val (i := 2) rfl (off := 0) (agg := true) (n := 6) rfl
 have hO := hO.sel []
 exact hQ _ _ _ _ _ (zb8 rfl (Y) rfl) hO hL ⟨_, rfl, rfl, X⟩
theorem zqy {τ : Hp} {p0 : Int}  {rr : zm} (hF : zeg p0 = some rr) :
  Ctr Try.prog 21 #[.int .i64 p0] τ [] (fun v τ' vs' => ∃ (b7 b8 : Value), v = .agg #[b7, b8] ∧ vs' = [] ∧ RdT zx τ' b7 rr.Structs ∧ RdT zr τ' b8 rr.Funcs) := by
 refine zbi (args := [.int .i64 p0]) hm Try.func21 s21 rfl fun w0 σ hO Q hQ => ?_
 unfold zeg at hF
 have hL := Hp.le.refl τ
 show wpn _ _ a21.body _ _ _
 unfold a21
 dsimp only
 refine zbl hO fun b2 σ hO => ?_
 have hO := zrl1 hO
 refine zf ?_
 obtain ⟨q, h4, hF⟩ := zrm hF
 refine zL hO (zeK (p0 := zqQ) h4) rfl fun _ σ _ _ hO h5 h6 => ?_
 have hL := hL.trans h5
 obtain ⟨v7, rfl, rfl, r8⟩ := h6
 obtain ⟨A9, f1, rfl, -⟩ := r8.form
 have hO := zrl1 hO
 refine zbG (T := z5) (l := ([(⟨q.Kind, q.Num, q.Name, q.Field, q.Op, q.Kids⟩ : zc)] : List zc)) (cs := [.int .u8 (q.Kind.toNat : Int), .int .i64 q.Num, .string q.Name, .string q.Field, .string q.Op, zrn A9 q.Kids f1]) hO rfl ⟨[.int .u8 (q.Kind.toNat : Int), .int .i64 q.Num, .string q.Name, .string q.Field, .string q.Op, zrn A9 q.Kids f1], _, rfl, (zcR ⟨_, rfl, r8⟩), rfl⟩ rfl (by decide) fun _ σ j8 D hO => ?_
 obtain ⟨b9, c0, rfl, -⟩ := D.form
 have hO := zrl2 hO
 refine zd hO 1 [] [(7, .agg #[(.int .u8 8), (.int .i64 3), (.string zqP), (.string zqP), (.string zqP), (.int .u8 0), (.int .i64 0), (.string zqP), (zrn b9 ([(⟨q.Kind, q.Num, q.Name, q.Field, q.Op, q.Kids⟩ : zc)] : List zc) c0), (.slice none 0 0), (.slice none 0 0)])] [0, 2] zq2 fun j => ?_
 obtain ⟨j9, h3, hF⟩ := zrm hF
 refine zL hO (zeK (p0 := zqQ) h3) rfl fun _ σ _ _ hO f2 h7 => ?_
 have hL := hL.trans f2
 have D := D.le f2
 obtain ⟨k0, rfl, rfl, I⟩ := h7
 obtain ⟨k1, k2, rfl, -⟩ := I.form
 have hO := zrl2 hO
 obtain ⟨k3, h8, hF⟩ := zrm hF
 refine zL hO (zeu h8) rfl fun _ σ _ _ hO c1 h9 => ?_
 have hL := hL.trans c1
 have D := D.le c1
 have I := I.le c1
 obtain ⟨k4, rfl, rfl, W⟩ := h9
 obtain ⟨k5, k6, rfl, -⟩ := W.form
 have hO := zrl2 hO
 obtain ⟨g, i0, hF⟩ := zrm hF
 refine zL hO (zhf (p0 := zqV) I W i0) rfl fun _ σ _ _ hO X i1 => ?_
 have hL := hL.trans X
 have D := D.le X
 have I := I.le X
 have W := W.le X
 obtain ⟨k7, rfl, rfl, f3⟩ := i1
 obtain ⟨f4, f5, rfl, -⟩ := f3.form
 have hO := zrl2 hO
 refine zbG (T := z5) (l := ([(⟨g.Kind, g.Num, g.Name, g.Field, g.Op, g.Kids⟩ : zc)] : List zc)) (cs := [.int .u8 (g.Kind.toNat : Int), .int .i64 g.Num, .string g.Name, .string g.Field, .string g.Op, zrn f4 g.Kids f5]) hO rfl ⟨[.int .u8 (g.Kind.toNat : Int), .int .i64 g.Num, .string g.Name, .string g.Field, .string g.Op, zrn f4 g.Kids f5], _, rfl, (zcR ⟨_, rfl, f3⟩), rfl⟩ rfl (by decide) fun _ σ k8 Y hO => ?_
 obtain ⟨c2, c4, rfl, -⟩ := Y.form
 have hO := zrl3 hO
 refine zd hO 1 [] [(12, .agg #[(.int .u8 2), (.int .i64 4), (.string zqQ), (.string zqP), (.string zqP), (.int .u8 0), (.int .i64 0), (.string zqP), (zrn c2 ([(⟨g.Kind, g.Num, g.Name, g.Field, g.Op, g.Kids⟩ : zc)] : List zc) c4), (.slice none 0 0), (.slice none 0 0)])] [0, 2, 7] zq3 fun j => ?_
 obtain ⟨_, f6, c5, hO⟩ := D.share hO (i := 1) rfl
 have hL := hL.trans f6
 have Y := Y.le f6
 have hO := zrl3 hO
 obtain ⟨_, f7, i2, hO⟩ := Y.share hO (i := 2) rfl
 have hL := hL.trans f7
 have c5 := c5.le f7
 have hO := zrl3 hO
 refine zbG (T := zX) (l := ([(⟨(8 : UInt8), 3, zqP, zqP, zqP, (⟨(0 : UInt8), 0, zqP⟩ : zz), ([(⟨q.Kind, q.Num, q.Name, q.Field, q.Op, q.Kids⟩ : zc)] : List zc), [], []⟩ : zi), (⟨(2 : UInt8), 4, zqQ, zqP, zqP, (⟨(0 : UInt8), 0, zqP⟩ : zz), ([(⟨g.Kind, g.Num, g.Name, g.Field, g.Op, g.Kids⟩ : zc)] : List zc), [], []⟩ : zi)] : List zi)) (cs := [.int .u8 8, .int .i64 3, .string zqP, .string zqP, .string zqP, .int .u8 0, .int .i64 0, .string zqP, zrn b9 ([(⟨q.Kind, q.Num, q.Name, q.Field, q.Op, q.Kids⟩ : zc)] : List zc) c0, .slice none 0 0, .slice none 0 0, .int .u8 2, .int .i64 4, .string zqQ, .string zqP, .string zqP, .int .u8 0, .int .i64 0, .string zqP, zrn c2 ([(⟨g.Kind, g.Num, g.Name, g.Field, g.Op, g.Kids⟩ : zc)] : List zc) c4, .slice none 0 0, .slice none 0 0]) hO rfl ⟨[.int .u8 8, .int .i64 3, .string zqP, .string zqP, .string zqP, .int .u8 0, .int .i64 0, .string zqP, zrn b9 ([(⟨q.Kind, q.Num, q.Name, q.Field, q.Op, q.Kids⟩ : zc)] : List zc) c0, .slice none 0 0, .slice none 0 0], _, rfl, (zc4 ⟨_, _, _, rfl, c5, RdT.nil _ _, RdT.nil _ _⟩), ⟨[.int .u8 2, .int .i64 4, .string zqQ, .string zqP, .string zqP, .int .u8 0, .int .i64 0, .string zqP, zrn c2 ([(⟨g.Kind, g.Num, g.Name, g.Field, g.Op, g.Kids⟩ : zc)] : List zc) c4, .slice none 0 0, .slice none 0 0], _, rfl, (zc4 ⟨_, _, _, rfl, i2, RdT.nil _ _, RdT.nil _ _⟩), rfl⟩⟩ rfl (by decide) fun _ σ k9 z hO => ?_
 obtain ⟨Z, b0, rfl, -⟩ := z.form
 have hO := zrl4 hO
 refine ze hO [] [(3, .slice Z ([(⟨(8 : UInt8), 3, zqP, zqP, zqP, (⟨(0 : UInt8), 0, zqP⟩ : zz), ([(⟨q.Kind, q.Num, q.Name, q.Field, q.Op, q.Kids⟩ : zc)] : List zc), [], []⟩ : zi), (⟨(2 : UInt8), 4, zqQ, zqP, zqP, (⟨(0 : UInt8), 0, zqP⟩ : zz), ([(⟨g.Kind, g.Num, g.Name, g.Field, g.Op, g.Kids⟩ : zc)] : List zc), [], []⟩ : zi)] : List zi).length b0)] [0, 2] zq2 fun j => ?_
 refine zd hO 2 [] [(14, .agg #[(.int .u8 1), (.int .i64 0), (.string zqP)]), (15, zrg p0)] [2, 3] zq3 fun j => ?_
 obtain ⟨h, i3, hF⟩ := zrm hF
 refine zL hO (zeu i3) rfl fun _ σ _ _ hO f8 i4 => ?_
 have hL := hL.trans f8
 have z := z.le f8
 obtain ⟨l0, rfl, rfl, f9⟩ := i4
 obtain ⟨g0, g1, rfl, -⟩ := f9.form
 have hO := zrl4 hO
 refine zbG (T := z5) (l := ([(⟨h.Kind, h.Num, h.Name, h.Field, h.Op, h.Kids⟩ : zc)] : List zc)) (cs := [.int .u8 (h.Kind.toNat : Int), .int .i64 h.Num, .string h.Name, .string h.Field, .string h.Op, zrn g0 h.Kids g1]) hO rfl ⟨[.int .u8 (h.Kind.toNat : Int), .int .i64 h.Num, .string h.Name, .string h.Field, .string h.Op, zrn g0 h.Kids g1], _, rfl, (zcR ⟨_, rfl, f9⟩), rfl⟩ rfl (by decide) fun _ σ l1 G hO => ?_
 obtain ⟨c6, c7, rfl, -⟩ := G.form
 have hO := zrl5 hO
 refine zd hO 1 [] [(18, .agg #[(.int .u8 1), (.int .i64 1), (.string zqQ), (.string zqP), (.string zqP), (.int .u8 1), (.int .i64 0), (.string zqP), (zrn c6 ([(⟨h.Kind, h.Num, h.Name, h.Field, h.Op, h.Kids⟩ : zc)] : List zc) c7), (.slice none 0 0), (.slice none 0 0)])] [2, 3] zq2 fun j => ?_
 obtain ⟨l2, i5, hF⟩ := zrm hF
 refine zL hO (zeK (p0 := zqQ) i5) rfl fun _ σ _ _ hO c8 i6 => ?_
 have hL := hL.trans c8
 have z := z.le c8
 have G := G.le c8
 obtain ⟨l3, rfl, rfl, S⟩ := i6
 obtain ⟨l4, l5, rfl, -⟩ := S.form
 have hO := zrl5 hO
 obtain ⟨l6, i7, hF⟩ := zrm hF
 refine zL hO (zeu i7) rfl fun _ σ _ _ hO b1 i8 => ?_
 have hL := hL.trans b1
 have z := z.le b1
 have G := G.le b1
 have S := S.le b1
 obtain ⟨l7, rfl, rfl, b3⟩ := i8
 obtain ⟨l8, l9, rfl, -⟩ := b3.form
 have hO := zrl5 hO
 obtain ⟨o, i9, hF⟩ := zrm hF
 refine zL hO (zhf (p0 := zqW) S b3 i9) rfl fun _ σ _ _ hO U j0 => ?_
 have hL := hL.trans U
 have z := z.le U
 have G := G.le U
 have S := S.le U
 have b3 := b3.le U
 obtain ⟨m0, rfl, rfl, g2⟩ := j0
 obtain ⟨g3, g4, rfl, -⟩ := g2.form
 have hO := zrl5 hO
 refine zbG (T := z5) (l := ([(⟨o.Kind, o.Num, o.Name, o.Field, o.Op, o.Kids⟩ : zc)] : List zc)) (cs := [.int .u8 (o.Kind.toNat : Int), .int .i64 o.Num, .string o.Name, .string o.Field, .string o.Op, zrn g3 o.Kids g4]) hO rfl ⟨[.int .u8 (o.Kind.toNat : Int), .int .i64 o.Num, .string o.Name, .string o.Field, .string o.Op, zrn g3 o.Kids g4], _, rfl, (zcR ⟨_, rfl, g2⟩), rfl⟩ rfl (by decide) fun _ σ m1 b4 hO => ?_
 obtain ⟨c9, d0, rfl, -⟩ := b4.form
 have hO := zrl6 hO
 refine zd hO 2 [] [(24, .agg #[(.int .u8 7), (.int .i64 2), (.string zqP), (.string zqP), (.string zqP), (.int .u8 0), (.int .i64 0), (.string zqP), (zrn c9 ([(⟨o.Kind, o.Num, o.Name, o.Field, o.Op, o.Kids⟩ : zc)] : List zc) d0), (.slice Z ([(⟨(8 : UInt8), 3, zqP, zqP, zqP, (⟨(0 : UInt8), 0, zqP⟩ : zz), ([(⟨q.Kind, q.Num, q.Name, q.Field, q.Op, q.Kids⟩ : zc)] : List zc), [], []⟩ : zi), (⟨(2 : UInt8), 4, zqQ, zqP, zqP, (⟨(0 : UInt8), 0, zqP⟩ : zz), ([(⟨g.Kind, g.Num, g.Name, g.Field, g.Op, g.Kids⟩ : zc)] : List zc), [], []⟩ : zi)] : List zi).length b0), (.slice none 0 0)])] [2, 18] zq2 fun j => ?_
 obtain ⟨_, d5, V, hO⟩ := G.share hO (i := 4) rfl
 have hL := hL.trans d5
 have b4 := b4.le d5
 have z := z.le d5
 have hO := zrl6 hO
 obtain ⟨_, d6, d7, hO⟩ := b4.share hO (i := 5) rfl
 have hL := hL.trans d6
 have V := V.le d6
 have z := z.le d6
 have hO := zrl6 hO
 obtain ⟨_, d8, j1, hO⟩ := z.share hO (i := 3) rfl
 have hL := hL.trans d8
 have V := V.le d8
 have d7 := d7.le d8
 have hO := zrl6 hO
 refine zbG (T := zX) (l := ([(⟨(1 : UInt8), 1, zqQ, zqP, zqP, (⟨(1 : UInt8), 0, zqP⟩ : zz), ([(⟨h.Kind, h.Num, h.Name, h.Field, h.Op, h.Kids⟩ : zc)] : List zc), [], []⟩ : zi), (⟨(7 : UInt8), 2, zqP, zqP, zqP, (⟨(0 : UInt8), 0, zqP⟩ : zz), ([(⟨o.Kind, o.Num, o.Name, o.Field, o.Op, o.Kids⟩ : zc)] : List zc), ([(⟨(8 : UInt8), 3, zqP, zqP, zqP, (⟨(0 : UInt8), 0, zqP⟩ : zz), ([(⟨q.Kind, q.Num, q.Name, q.Field, q.Op, q.Kids⟩ : zc)] : List zc), [], []⟩ : zi), (⟨(2 : UInt8), 4, zqQ, zqP, zqP, (⟨(0 : UInt8), 0, zqP⟩ : zz), ([(⟨g.Kind, g.Num, g.Name, g.Field, g.Op, g.Kids⟩ : zc)] : List zc), [], []⟩ : zi)] : List zi), []⟩ : zi)] : List zi)) (cs := [.int .u8 1, .int .i64 1, .string zqQ, .string zqP, .string zqP, .int .u8 1, .int .i64 0, .string zqP, zrn c6 ([(⟨h.Kind, h.Num, h.Name, h.Field, h.Op, h.Kids⟩ : zc)] : List zc) c7, .slice none 0 0, .slice none 0 0, .int .u8 7, .int .i64 2, .string zqP, .string zqP, .string zqP, .int .u8 0, .int .i64 0, .string zqP, zrn c9 ([(⟨o.Kind, o.Num, o.Name, o.Field, o.Op, o.Kids⟩ : zc)] : List zc) d0, .slice Z ([(⟨(8 : UInt8), 3, zqP, zqP, zqP, (⟨(0 : UInt8), 0, zqP⟩ : zz), ([(⟨q.Kind, q.Num, q.Name, q.Field, q.Op, q.Kids⟩ : zc)] : List zc), [], []⟩ : zi), (⟨(2 : UInt8), 4, zqQ, zqP, zqP, (⟨(0 : UInt8), 0, zqP⟩ : zz), ([(⟨g.Kind, g.Num, g.Name, g.Field, g.Op, g.Kids⟩ : zc)] : List zc), [], []⟩ : zi)] : List zi).length b0, .slice none 0 0]) hO rfl ⟨[.int .u8 1, .int .i64 1, .string zqQ, .string zqP, .string zqP, .int .u8 1, .int .i64 0, .string zqP, zrn c6 ([(⟨h.Kind, h.Num, h.Name, h.Field, h.Op, h.Kids⟩ : zc)] : List zc) c7, .slice none 0 0, .slice none 0 0], _, rfl, (zc4 ⟨_, _, _, rfl, V, RdT.nil _ _, RdT.nil _ _⟩), ⟨[.int .u8 7, .int .i64 2, .string zqP, .string zqP, .string zqP, .int .u8 0, .int .i64 0, .string zqP, zrn c9 ([(⟨o.Kind, o.Num, o.Name, o.Field, o.Op, o.Kids⟩ : zc)] : List zc) d0, .slice Z ([(⟨(8 : UInt8), 3, zqP, zqP, zqP, (⟨(0 : UInt8), 0, zqP⟩ : zz), ([(⟨q.Kind, q.Num, q.Name, q.Field, q.Op, q.Kids⟩ : zc)] : List zc), [], []⟩ : zi), (⟨(2 : UInt8), 4, zqQ, zqP, zqP, (⟨(0 : UInt8), 0, zqP⟩ : zz), ([(⟨g.Kind, g.Num, g.Name, g.Field, g.Op, g.Kids⟩ : zc)] : List zc), [], []⟩ : zi)] : List zi).length b0, .slice none 0 0], _, rfl, (zc4 ⟨_, _, _, rfl, d7, j1, RdT.nil _ _⟩), rfl⟩⟩ rfl (by decide) fun _ σ m2 d9 hO => ?_
 obtain ⟨b5, b6, rfl, -⟩ := d9.form
 have hO := zrl7 hO
 refine ze hO [] [(4, .slice b5 ([(⟨(1 : UInt8), 1, zqQ, zqP, zqP, (⟨(1 : UInt8), 0, zqP⟩ : zz), ([(⟨h.Kind, h.Num, h.Name, h.Field, h.Op, h.Kids⟩ : zc)] : List zc), [], []⟩ : zi), (⟨(7 : UInt8), 2, zqP, zqP, zqP, (⟨(0 : UInt8), 0, zqP⟩ : zz), ([(⟨o.Kind, o.Num, o.Name, o.Field, o.Op, o.Kids⟩ : zc)] : List zc), ([(⟨(8 : UInt8), 3, zqP, zqP, zqP, (⟨(0 : UInt8), 0, zqP⟩ : zz), ([(⟨q.Kind, q.Num, q.Name, q.Field, q.Op, q.Kids⟩ : zc)] : List zc), [], []⟩ : zi), (⟨(2 : UInt8), 4, zqQ, zqP, zqP, (⟨(0 : UInt8), 0, zqP⟩ : zz), ([(⟨g.Kind, g.Num, g.Name, g.Field, g.Op, g.Kids⟩ : zc)] : List zc), [], []⟩ : zi)] : List zi), []⟩ : zi)] : List zi).length b6)] [2] zq1 fun j => ?_
 refine zd hO 2 [] [(27, .agg #[(.string zqR), (.int .i64 1), (.slice none 0 0), (.int .u8 0), (.int .i64 0), (.string zqP), (.slice b5 ([(⟨(1 : UInt8), 1, zqQ, zqP, zqP, (⟨(1 : UInt8), 0, zqP⟩ : zz), ([(⟨h.Kind, h.Num, h.Name, h.Field, h.Op, h.Kids⟩ : zc)] : List zc), [], []⟩ : zi), (⟨(7 : UInt8), 2, zqP, zqP, zqP, (⟨(0 : UInt8), 0, zqP⟩ : zz), ([(⟨o.Kind, o.Num, o.Name, o.Field, o.Op, o.Kids⟩ : zc)] : List zc), ([(⟨(8 : UInt8), 3, zqP, zqP, zqP, (⟨(0 : UInt8), 0, zqP⟩ : zz), ([(⟨q.Kind, q.Num, q.Name, q.Field, q.Op, q.Kids⟩ : zc)] : List zc), [], []⟩ : zi), (⟨(2 : UInt8), 4, zqQ, zqP, zqP, (⟨(0 : UInt8), 0, zqP⟩ : zz), ([(⟨g.Kind, g.Num, g.Name, g.Field, g.Op, g.Kids⟩ : zc)] : List zc), [], []⟩ : zi)] : List zi), []⟩ : zi)] : List zi).length b6)])] [2] zq1 fun j => ?_
 obtain ⟨_, g5, g6, hO⟩ := d9.share hO (i := 6) rfl
 have hL := hL.trans g5
 have hO := zrl7 hO
 refine zbG (T := zr) (l := ([(⟨zqR, 1, [], (⟨(0 : UInt8), 0, zqP⟩ : zz), ([(⟨(1 : UInt8), 1, zqQ, zqP, zqP, (⟨(1 : UInt8), 0, zqP⟩ : zz), ([(⟨h.Kind, h.Num, h.Name, h.Field, h.Op, h.Kids⟩ : zc)] : List zc), [], []⟩ : zi), (⟨(7 : UInt8), 2, zqP, zqP, zqP, (⟨(0 : UInt8), 0, zqP⟩ : zz), ([(⟨o.Kind, o.Num, o.Name, o.Field, o.Op, o.Kids⟩ : zc)] : List zc), ([(⟨(8 : UInt8), 3, zqP, zqP, zqP, (⟨(0 : UInt8), 0, zqP⟩ : zz), ([(⟨q.Kind, q.Num, q.Name, q.Field, q.Op, q.Kids⟩ : zc)] : List zc), [], []⟩ : zi), (⟨(2 : UInt8), 4, zqQ, zqP, zqP, (⟨(0 : UInt8), 0, zqP⟩ : zz), ([(⟨g.Kind, g.Num, g.Name, g.Field, g.Op, g.Kids⟩ : zc)] : List zc), [], []⟩ : zi)] : List zi), []⟩ : zi)] : List zi)⟩ : zG)] : List zG)) (cs := [.string zqR, .int .i64 1, .slice none 0 0, .int .u8 0, .int .i64 0, .string zqP, .slice b5 ([(⟨(1 : UInt8), 1, zqQ, zqP, zqP, (⟨(1 : UInt8), 0, zqP⟩ : zz), ([(⟨h.Kind, h.Num, h.Name, h.Field, h.Op, h.Kids⟩ : zc)] : List zc), [], []⟩ : zi), (⟨(7 : UInt8), 2, zqP, zqP, zqP, (⟨(0 : UInt8), 0, zqP⟩ : zz), ([(⟨o.Kind, o.Num, o.Name, o.Field, o.Op, o.Kids⟩ : zc)] : List zc), ([(⟨(8 : UInt8), 3, zqP, zqP, zqP, (⟨(0 : UInt8), 0, zqP⟩ : zz), ([(⟨q.Kind, q.Num, q.Name, q.Field, q.Op, q.Kids⟩ : zc)] : List zc), [], []⟩ : zi), (⟨(2 : UInt8), 4, zqQ, zqP, zqP, (⟨(0 : UInt8), 0, zqP⟩ : zz), ([(⟨g.Kind, g.Num, g.Name, g.Field, g.Op, g.Kids⟩ : zc)] : List zc), [], []⟩ : zi)] : List zi), []⟩ : zi)] : List zi).length b6]) hO rfl ⟨[.string zqR, .int .i64 1, .slice none 0 0, .int .u8 0, .int .i64 0, .string zqP, .slice b5 ([(⟨(1 : UInt8), 1, zqQ, zqP, zqP, (⟨(1 : UInt8), 0, zqP⟩ : zz), ([(⟨h.Kind, h.Num, h.Name, h.Field, h.Op, h.Kids⟩ : zc)] : List zc), [], []⟩ : zi), (⟨(7 : UInt8), 2, zqP, zqP, zqP, (⟨(0 : UInt8), 0, zqP⟩ : zz), ([(⟨o.Kind, o.Num, o.Name, o.Field, o.Op, o.Kids⟩ : zc)] : List zc), ([(⟨(8 : UInt8), 3, zqP, zqP, zqP, (⟨(0 : UInt8), 0, zqP⟩ : zz), ([(⟨q.Kind, q.Num, q.Name, q.Field, q.Op, q.Kids⟩ : zc)] : List zc), [], []⟩ : zi), (⟨(2 : UInt8), 4, zqQ, zqP, zqP, (⟨(0 : UInt8), 0, zqP⟩ : zz), ([(⟨g.Kind, g.Num, g.Name, g.Field, g.Op, g.Kids⟩ : zc)] : List zc), [], []⟩ : zi)] : List zi), []⟩ : zi)] : List zi).length b6], _, rfl, ⟨_, _, rfl, RdT.nil _ _, g6⟩, rfl⟩ rfl (by decide) fun _ σ j7 f0 hO => ?_
 obtain ⟨g7, g8, rfl, -⟩ := f0.form
 have hO := zrl8 hO
 refine zK hO 1 [] [(2, zrh b2), (29, .agg #[(.slice none 0 0), (.slice g7 ([(⟨zqR, 1, [], (⟨(0 : UInt8), 0, zqP⟩ : zz), ([(⟨(1 : UInt8), 1, zqQ, zqP, zqP, (⟨(1 : UInt8), 0, zqP⟩ : zz), ([(⟨h.Kind, h.Num, h.Name, h.Field, h.Op, h.Kids⟩ : zc)] : List zc), [], []⟩ : zi), (⟨(7 : UInt8), 2, zqP, zqP, zqP, (⟨(0 : UInt8), 0, zqP⟩ : zz), ([(⟨o.Kind, o.Num, o.Name, o.Field, o.Op, o.Kids⟩ : zc)] : List zc), ([(⟨(8 : UInt8), 3, zqP, zqP, zqP, (⟨(0 : UInt8), 0, zqP⟩ : zz), ([(⟨q.Kind, q.Num, q.Name, q.Field, q.Op, q.Kids⟩ : zc)] : List zc), [], []⟩ : zi), (⟨(2 : UInt8), 4, zqQ, zqP, zqP, (⟨(0 : UInt8), 0, zqP⟩ : zz), ([(⟨g.Kind, g.Num, g.Name, g.Field, g.Op, g.Kids⟩ : zc)] : List zc), [], []⟩ : zi)] : List zi), []⟩ : zi)] : List zi)⟩ : zG)] : List zG).length g8)])] zq1 fun j => ?_
 refine zC hO (i := 0) rfl (off := 0) rfl rfl rfl rfl (Nat.le_of_ble_eq_true rfl) rfl fun σ hO => ?_
 have hO := zrl8 hO
 refine zf (zba ?_)
 obtain ⟨_, g9, h0, hO⟩ := f0.share hO (i := 7) rfl
 have hL := hL.trans g9
 have hO := zrl8 hO
 cases hF
 have j2 := hO.val (i := 0) rfl (off := 0) (agg := true) (n := 2) rfl
 have hO := hO.sel []
 exact hQ _ _ _ _ _ (zb8 rfl (j2) rfl) hO hL ⟨_, _, rfl, rfl, (RdT.nil _ _), h0⟩
theorem zj1 {τ : Hp} {p0 : Int}  {rr : zm} (hF : zeg p0 = some rr) :
  Ctr Try.prog 21 #[.int .i64 p0] τ [] (fun v τ' vs' => ∃ (bF bL bK : Nat) (k1 : List zc) (V1 : Value) (x : zc) (V3 : Value) (inn : List zi) (V2 : Value), v = .agg #[.slice none 0 0, .slice (some ⟨bF, 0, none⟩) 1 1] ∧ vs' = [some (bF, ⟨[.string zqR, .int .i64 1, .slice none 0 0, .int .u8 0, .int .i64 0, .string zqP, .slice (some ⟨bL, 0, none⟩) 2 2], 53, 7, true⟩), some (bL, ⟨[.int .u8 1, .int .i64 1, .string zqQ, .string zqP, .string zqP, .int .u8 1, .int .i64 0, .string zqP, V1, .slice none 0 0, .slice none 0 0, .int .u8 7, .int .i64 2, .string zqP, .string zqP, .string zqP, .int .u8 0, .int .i64 0, .string zqP, .slice (some ⟨bK, 0, none⟩) 1 1, V2, .slice none 0 0], 73, 22, true⟩), some (bK, ⟨[.int .u8 (x.Kind.toNat : Int), .int .i64 x.Num, .string x.Name, .string x.Field, .string x.Op, V3], 71, 6, true⟩)] ∧ RdT z5 τ' V1 k1 ∧ RdT z5 τ' V3 x.Kids ∧ RdT zX τ' V2 inn ∧ rr = (⟨[], [⟨zqR, 1, [], ⟨0, 0, zqP⟩, [⟨1, 1, zqQ, zqP, zqP, ⟨1, 0, zqP⟩, k1, [], []⟩, ⟨7, 2, zqP, zqP, zqP, ⟨0, 0, zqP⟩, [⟨x.Kind, x.Num, x.Name, x.Field, x.Op, x.Kids⟩], inn, []⟩]⟩]⟩ : zm)) := by
 refine zbi (args := [.int .i64 p0]) hm Try.func21 s21 rfl fun w0 σ hO Q hQ => ?_
 unfold zeg at hF
 have hL := Hp.le.refl τ
 show wpn _ _ a21.body _ _ _
 unfold a21
 dsimp only
 refine zbl hO fun b2 σ hO => ?_
 have hO := zrl1 hO
 refine zf ?_
 obtain ⟨o, h4, hF⟩ := zrm hF
 refine zL hO (zeK (p0 := zqQ) h4) rfl fun _ σ _ _ hO h5 h6 => ?_
 have hL := hL.trans h5
 obtain ⟨v7, rfl, rfl, r8⟩ := h6
 obtain ⟨A9, c6, rfl, -⟩ := r8.form
 have hO := zrl1 hO
 refine zbG (T := z5) (l := ([(⟨o.Kind, o.Num, o.Name, o.Field, o.Op, o.Kids⟩ : zc)] : List zc)) (cs := [.int .u8 (o.Kind.toNat : Int), .int .i64 o.Num, .string o.Name, .string o.Field, .string o.Op, zrn A9 o.Kids c6]) hO rfl ⟨[.int .u8 (o.Kind.toNat : Int), .int .i64 o.Num, .string o.Name, .string o.Field, .string o.Op, zrn A9 o.Kids c6], _, rfl, (zcR ⟨_, rfl, r8⟩), rfl⟩ rfl (by decide) fun _ σ i6 D hO => ?_
 obtain ⟨b3, b4, rfl, -⟩ := D.form
 have hO := zrl2 hO
 refine zd hO 1 [] [(7, .agg #[(.int .u8 8), (.int .i64 3), (.string zqP), (.string zqP), (.string zqP), (.int .u8 0), (.int .i64 0), (.string zqP), (zrn b3 ([(⟨o.Kind, o.Num, o.Name, o.Field, o.Op, o.Kids⟩ : zc)] : List zc) b4), (.slice none 0 0), (.slice none 0 0)])] [0, 2] zq2 fun j => ?_
 obtain ⟨i7, f9, hF⟩ := zrm hF
 refine zL hO (zeK (p0 := zqQ) f9) rfl fun _ σ _ _ hO c7 g0 => ?_
 have hL := hL.trans c7
 have D := D.le c7
 obtain ⟨i8, rfl, rfl, S⟩ := g0
 obtain ⟨i9, j0, rfl, -⟩ := S.form
 have hO := zrl2 hO
 obtain ⟨j1, g1, hF⟩ := zrm hF
 refine zL hO (zeu g1) rfl fun _ σ _ _ hO b5 g2 => ?_
 have hL := hL.trans b5
 have D := D.le b5
 have S := S.le b5
 obtain ⟨j2, rfl, rfl, X⟩ := g2
 obtain ⟨j3, j4, rfl, -⟩ := X.form
 have hO := zrl2 hO
 obtain ⟨g, g3, hF⟩ := zrm hF
 refine zL hO (zhf (p0 := zqV) S X g3) rfl fun _ σ _ _ hO Y g4 => ?_
 have hL := hL.trans Y
 have D := D.le Y
 have S := S.le Y
 have X := X.le Y
 obtain ⟨j5, rfl, rfl, c8⟩ := g4
 obtain ⟨c9, d0, rfl, -⟩ := c8.form
 have hO := zrl2 hO
 refine zbG (T := z5) (l := ([(⟨g.Kind, g.Num, g.Name, g.Field, g.Op, g.Kids⟩ : zc)] : List zc)) (cs := [.int .u8 (g.Kind.toNat : Int), .int .i64 g.Num, .string g.Name, .string g.Field, .string g.Op, zrn c9 g.Kids d0]) hO rfl ⟨[.int .u8 (g.Kind.toNat : Int), .int .i64 g.Num, .string g.Name, .string g.Field, .string g.Op, zrn c9 g.Kids d0], _, rfl, (zcR ⟨_, rfl, c8⟩), rfl⟩ rfl (by decide) fun _ σ j6 Z hO => ?_
 obtain ⟨b6, b7, rfl, -⟩ := Z.form
 have hO := zrl3 hO
 refine zd hO 1 [] [(12, .agg #[(.int .u8 2), (.int .i64 4), (.string zqQ), (.string zqP), (.string zqP), (.int .u8 0), (.int .i64 0), (.string zqP), (zrn b6 ([(⟨g.Kind, g.Num, g.Name, g.Field, g.Op, g.Kids⟩ : zc)] : List zc) b7), (.slice none 0 0), (.slice none 0 0)])] [0, 2, 7] zq3 fun j => ?_
 obtain ⟨_, d5, b8, hO⟩ := D.share hO (i := 1) rfl
 have hL := hL.trans d5
 have Z := Z.le d5
 have hO := zrl3 hO
 obtain ⟨_, d6, g5, hO⟩ := Z.share hO (i := 2) rfl
 have hL := hL.trans d6
 have b8 := b8.le d6
 have hO := zrl3 hO
 refine zbG (T := zX) (l := ([(⟨(8 : UInt8), 3, zqP, zqP, zqP, (⟨(0 : UInt8), 0, zqP⟩ : zz), ([(⟨o.Kind, o.Num, o.Name, o.Field, o.Op, o.Kids⟩ : zc)] : List zc), [], []⟩ : zi), (⟨(2 : UInt8), 4, zqQ, zqP, zqP, (⟨(0 : UInt8), 0, zqP⟩ : zz), ([(⟨g.Kind, g.Num, g.Name, g.Field, g.Op, g.Kids⟩ : zc)] : List zc), [], []⟩ : zi)] : List zi)) (cs := [.int .u8 8, .int .i64 3, .string zqP, .string zqP, .string zqP, .int .u8 0, .int .i64 0, .string zqP, zrn b3 ([(⟨o.Kind, o.Num, o.Name, o.Field, o.Op, o.Kids⟩ : zc)] : List zc) b4, .slice none 0 0, .slice none 0 0, .int .u8 2, .int .i64 4, .string zqQ, .string zqP, .string zqP, .int .u8 0, .int .i64 0, .string zqP, zrn b6 ([(⟨g.Kind, g.Num, g.Name, g.Field, g.Op, g.Kids⟩ : zc)] : List zc) b7, .slice none 0 0, .slice none 0 0]) hO rfl ⟨[.int .u8 8, .int .i64 3, .string zqP, .string zqP, .string zqP, .int .u8 0, .int .i64 0, .string zqP, zrn b3 ([(⟨o.Kind, o.Num, o.Name, o.Field, o.Op, o.Kids⟩ : zc)] : List zc) b4, .slice none 0 0, .slice none 0 0], _, rfl, (zc4 ⟨_, _, _, rfl, b8, RdT.nil _ _, RdT.nil _ _⟩), ⟨[.int .u8 2, .int .i64 4, .string zqQ, .string zqP, .string zqP, .int .u8 0, .int .i64 0, .string zqP, zrn b6 ([(⟨g.Kind, g.Num, g.Name, g.Field, g.Op, g.Kids⟩ : zc)] : List zc) b7, .slice none 0 0, .slice none 0 0], _, rfl, (zc4 ⟨_, _, _, rfl, g5, RdT.nil _ _, RdT.nil _ _⟩), rfl⟩⟩ rfl (by decide) fun _ σ j7 z hO => ?_
 obtain ⟨b9, c0, rfl, -⟩ := z.form
 have hO := zrl4 hO
 refine ze hO [] [(3, .slice b9 ([(⟨(8 : UInt8), 3, zqP, zqP, zqP, (⟨(0 : UInt8), 0, zqP⟩ : zz), ([(⟨o.Kind, o.Num, o.Name, o.Field, o.Op, o.Kids⟩ : zc)] : List zc), [], []⟩ : zi), (⟨(2 : UInt8), 4, zqQ, zqP, zqP, (⟨(0 : UInt8), 0, zqP⟩ : zz), ([(⟨g.Kind, g.Num, g.Name, g.Field, g.Op, g.Kids⟩ : zc)] : List zc), [], []⟩ : zi)] : List zi).length c0)] [0, 2] zq2 fun j => ?_
 refine zd hO 2 [] [(14, .agg #[(.int .u8 1), (.int .i64 0), (.string zqP)]), (15, zrg p0)] [2, 3] zq3 fun j => ?_
 obtain ⟨q, g6, hF⟩ := zrm hF
 refine zL hO (zeu g6) rfl fun _ σ _ _ hO d7 g7 => ?_
 have hL := hL.trans d7
 have z := z.le d7
 obtain ⟨j8, rfl, rfl, d8⟩ := g7
 obtain ⟨d9, f0, rfl, -⟩ := d8.form
 have hO := zrl4 hO
 refine zbG (T := z5) (l := ([(⟨q.Kind, q.Num, q.Name, q.Field, q.Op, q.Kids⟩ : zc)] : List zc)) (cs := [.int .u8 (q.Kind.toNat : Int), .int .i64 q.Num, .string q.Name, .string q.Field, .string q.Op, zrn d9 q.Kids f0]) hO rfl ⟨[.int .u8 (q.Kind.toNat : Int), .int .i64 q.Num, .string q.Name, .string q.Field, .string q.Op, zrn d9 q.Kids f0], _, rfl, (zcR ⟨_, rfl, d8⟩), rfl⟩ rfl (by decide) fun _ σ j9 G hO => ?_
 obtain ⟨f1, f2, rfl, -⟩ := G.form
 have hO := zrl5 hO
 refine zd hO 1 [] [(18, .agg #[(.int .u8 1), (.int .i64 1), (.string zqQ), (.string zqP), (.string zqP), (.int .u8 1), (.int .i64 0), (.string zqP), (zrn f1 ([(⟨q.Kind, q.Num, q.Name, q.Field, q.Op, q.Kids⟩ : zc)] : List zc) f2), (.slice none 0 0), (.slice none 0 0)])] [2, 3] zq2 fun j => ?_
 obtain ⟨k0, g8, hF⟩ := zrm hF
 refine zL hO (zeK (p0 := zqQ) g8) rfl fun _ σ _ _ hO c1 g9 => ?_
 have hL := hL.trans c1
 have z := z.le c1
 have G := G.le c1
 obtain ⟨k2, rfl, rfl, U⟩ := g9
 obtain ⟨k3, k4, rfl, -⟩ := U.form
 have hO := zrl5 hO
 obtain ⟨k5, h0, hF⟩ := zrm hF
 refine zL hO (zeu h0) rfl fun _ σ _ _ hO b0 h1 => ?_
 have hL := hL.trans b0
 have z := z.le b0
 have G := G.le b0
 have U := U.le b0
 obtain ⟨k6, rfl, rfl, b1⟩ := h1
 obtain ⟨k7, k8, rfl, -⟩ := b1.form
 have hO := zrl5 hO
 obtain ⟨I, h2, hF⟩ := zrm hF
 refine zL hO (zhf (p0 := zqW) U b1 h2) rfl fun _ σ _ _ hO W h3 => ?_
 have hL := hL.trans W
 have z := z.le W
 have G := G.le W
 have U := U.le W
 have b1 := b1.le W
 obtain ⟨k9, rfl, rfl, V⟩ := h3
 obtain ⟨h7, h8, rfl, -⟩ := V.form
 have hO := zrl5 hO
 refine ziA (cs := [.int .u8 (I.Kind.toNat : Int), .int .i64 I.Num, .string I.Name, .string I.Field, .string I.Op, .slice h7 I.Kids.length h8]) hO rfl fun bK σ hO => ?_
 have hO := zrl6 hO
 refine zd hO 2 [] [(24, .agg #[.int .u8 7, .int .i64 2, .string zqP, .string zqP, .string zqP, .int .u8 0, .int .i64 0, .string zqP, .slice (some ⟨bK, 0, none⟩) 1 1, .slice b9 ([(⟨(8 : UInt8), 3, zqP, zqP, zqP, (⟨(0 : UInt8), 0, zqP⟩ : zz), ([(⟨o.Kind, o.Num, o.Name, o.Field, o.Op, o.Kids⟩ : zc)] : List zc), [], []⟩ : zi), (⟨(2 : UInt8), 4, zqQ, zqP, zqP, (⟨(0 : UInt8), 0, zqP⟩ : zz), ([(⟨g.Kind, g.Num, g.Name, g.Field, g.Op, g.Kids⟩ : zc)] : List zc), [], []⟩ : zi)] : List zi).length c0, .slice none 0 0])] [2, 18] zq2 fun j => ?_
 obtain ⟨_, c2, c4, hO⟩ := G.share hO (i := 4) rfl
 have hL := hL.trans c2
 have z := z.le c2
 have V := V.le c2
 have hO := zrl6 hO
 obtain ⟨_, c5, h9, hO⟩ := z.share hO (i := 3) rfl
 have hL := hL.trans c5
 have c4 := c4.le c5
 have V := V.le c5
 have hO := zrl6 hO
 refine ziA (cs := [.int .u8 1, .int .i64 1, .string zqQ, .string zqP, .string zqP, .int .u8 1, .int .i64 0, .string zqP, zrn f1 ([(⟨q.Kind, q.Num, q.Name, q.Field, q.Op, q.Kids⟩ : zc)] : List zc) f2, .slice none 0 0, .slice none 0 0, .int .u8 7, .int .i64 2, .string zqP, .string zqP, .string zqP, .int .u8 0, .int .i64 0, .string zqP, .slice (some ⟨bK, 0, none⟩) 1 1, .slice b9 ([(⟨(8 : UInt8), 3, zqP, zqP, zqP, (⟨(0 : UInt8), 0, zqP⟩ : zz), ([(⟨o.Kind, o.Num, o.Name, o.Field, o.Op, o.Kids⟩ : zc)] : List zc), [], []⟩ : zi), (⟨(2 : UInt8), 4, zqQ, zqP, zqP, (⟨(0 : UInt8), 0, zqP⟩ : zz), ([(⟨g.Kind, g.Num, g.Name, g.Field, g.Op, g.Kids⟩ : zc)] : List zc), [], []⟩ : zi)] : List zi).length c0, .slice none 0 0]) hO rfl fun bL σ hO => ?_
 have hO := zrl7 hO
 refine ze hO [] [(4, .slice (some ⟨bL, 0, none⟩) 2 2)] [2] zq1 fun j => ?_
 refine zd hO 2 [] [(27, .agg #[.string zqR, .int .i64 1, .slice none 0 0, .int .u8 0, .int .i64 0, .string zqP, .slice (some ⟨bL, 0, none⟩) 2 2])] [2] zq1 fun j => ?_
 refine ziA (cs := [.string zqR, .int .i64 1, .slice none 0 0, .int .u8 0, .int .i64 0, .string zqP, .slice (some ⟨bL, 0, none⟩) 2 2]) hO rfl fun bF σ hO => ?_
 have hO := zrl8 hO
 refine zK hO 1 [] [(2, zrh b2), (29, .agg #[(.slice none 0 0), .slice (some ⟨bF, 0, none⟩) 1 1])] zq1 fun j => ?_
 refine zC hO (i := 0) rfl (off := 0) rfl rfl rfl rfl (Nat.le_of_ble_eq_true rfl) rfl fun σ hO => ?_
 have hO := zrl8 hO
 refine zf (zba ?_)
 cases hF
 have i0 := hO.val (i := 0) rfl (off := 0) (agg := true) (n := 2) rfl
 have hO := hO.sel [7, 6, 5]
 exact hQ _ _ _ _ _ (zb8 rfl (i0) rfl) hO hL ⟨bF, bL, bK, _, _, I, _, _, _, rfl, rfl, c4, V, h9, rfl⟩
def zlq (p : zm) : Option zm := match p with
 | ⟨s, [⟨a, b, c, d, [x, y]⟩]⟩ => some ⟨s, [⟨a, b, c, d, [⟨x.Kind, x.Line, zqT, x.Field, x.Call, x.Type_, x.Kids, x.Body, x.Else⟩, y]⟩]⟩
 | _ => none
def zk4 (p : zm) : Option zm := match p with
 | ⟨s, [⟨a, b, c, d, [x, y]⟩]⟩ => some ⟨s, [⟨a, b, c, d, [x, ⟨y.Kind, y.Line, y.Name, y.Field, y.Call, y.Type_, [⟨1, 1, zqP, zqP, zqP, []⟩], y.Body, y.Else⟩]⟩]⟩
 | _ => none
def okT : Option (zw × Int × Int) → Bool
 | some (⟨[⟨_, _, _, _, [_, _]⟩], _, [⟨_, _, []⟩, ⟨_, _, [_]⟩, ⟨_, n2, _⟩, _]⟩, n, e) => n == 0 && (e == 0 && n2 == 3)
 | _ => false
def okE (n e : Int) : Option (zw × Int × Int) → Bool
 | some (_, k, h) => (k == n || n == -1) && h == e
 | _ => false
def zj0 (F : zm → Option (zw × Int × Int)) : Option zm → Bool
 | none => false
 | some p => okT (F p) && (okE 0 8 ((zlq p).bind F) && (okE (-1) 9 ((zk4 p).bind F) && okE 0 8 (F ⟨[], []⟩)))
theorem znz {o : Option (zw × Int × Int)} (h : okT o = true) : ∃ nm pr rs vs a1 a2 m g j q v s1 z s2 D, o = some ((⟨[⟨nm, pr, rs, vs, [a1, a2]⟩], m, [⟨g, j, []⟩, ⟨q, v, [s1]⟩, ⟨z, 3, s2⟩, D]⟩ : zw), 0, 0) := by
 unfold okT at h
 split at h
 ·simp only [Bool.and_eq_true, beq_iff_eq] at h
  obtain ⟨rfl, rfl, rfl⟩ := h
  exact ⟨_, _, _, _, _, _, _, _, _, _, _, _, _, _, _, rfl⟩
 ·cases h
theorem ziY {n e : Int} {o : Option (zw × Int × Int)} (h : okE n e o = true) : ∃ t k, o = some (t, k, e) ∧ (n ≠ -1 → k = n) := by
 unfold okE at h
 split at h
 ·simp only [Bool.and_eq_true, Bool.or_eq_true, beq_iff_eq] at h
  obtain ⟨g, rfl⟩ := h
  exact ⟨_, _, rfl, fun hn => g.resolve_right hn⟩
 ·cases h
theorem okW : zj0 zcI (zeg 2) = true := by kernel_rfl
theorem zmV : ∃ p, zeg 2 = some p ∧ (∃ nm pr rs vs a1 a2 m q v z D s1 G s2 I, zcI p = some ((⟨[⟨nm, pr, rs, vs, [a1, a2]⟩], m, [⟨q, v, []⟩, ⟨z, D, [s1]⟩, ⟨G, 3, s2⟩, I]⟩ : zw), 0, 0)) ∧ (∃ t, (zlq p).bind zcI = some (t, 0, 8)) ∧ (∃ t k, (zk4 p).bind zcI = some (t, k, 9)) ∧ ∃ t, zcI ⟨[], []⟩ = some (t, 0, 8) := by
 have h := okW
 generalize zeg 2 = o at h ⊢
 generalize zcI = F at h ⊢
 cases o with
 | none => cases h
 | some p =>
  simp only [zj0, Bool.and_eq_true] at h
  obtain ⟨S, U, V, W⟩ := h
  obtain ⟨X, k2, g, Y⟩ := ziY U
  obtain ⟨Z, k3, g3, e3⟩ := ziY V
  obtain ⟨t4, k4, j, e4⟩ := ziY W
  rw [Y (by decide)] at g
  rw [e4 (by decide)] at j
  exact ⟨p, rfl, znz S, ⟨X, g⟩, ⟨Z, k3, g3⟩, t4, j⟩
theorem zoA {τ : Hp} : Ctr Try.prog 9 #[] τ [] (fun v τ' vs' => v = .bool true ∧ vs' = []) := by
 obtain ⟨p, hp, ⟨nm, pr, rs, vs, a1, a2, m, f0, l0, f1, l1, s1, f2, s2, x3, ht⟩, ⟨t2, hn⟩, ⟨t3, k3, hk⟩, t4, h4⟩ := zmV
 refine zbi (args := []) hm Try.func9 s9 rfl fun w0 σ hO Q hQ => ?_
 have hL := Hp.le.refl τ
 show wpn _ _ a9.body _ _ _
 unfold a9
 dsimp only
 refine zA hO [] [] trivial fun j => ?_
 refine zL hO (zqy hp) rfl fun _ σ _ _ hO h5 h6 => ?_
 have hL := hL.trans h5
 obtain ⟨v7, v8, rfl, rfl, r7, r8⟩ := h6
 have hO : Obs _ _ [] := hO
 refine zL hO (ze5 r7 r8 ht) rfl fun _ σ _ _ hO h9 d6 => ?_
 have hL := hL.trans h9
 obtain ⟨i0, i1, rfl, rfl, rB, rP⟩ := d6
 obtain ⟨AB, cB, rfl, -⟩ := rB.form
 obtain ⟨AP, cP, rfl, -⟩ := rP.form
 have hO : Obs _ _ [] := hO
 refine zK hO 4 [] [(18, .agg #[.slice AB 1 cB, .int .i64 m, .slice AP 4 cP]), (19, zrg 0), (20, zrg 0)] ⟨rfl, rfl, rfl, trivial⟩ fun j => ?_
 refine zbl hO fun h σ hO => ?_
 have hO := zrl1 hO
 refine zC hO (i := 0) rfl (off := 0) rfl rfl rfl rfl (Nat.le_of_ble_eq_true rfl) rfl fun σ hO => ?_
 have hO := zrl1 hO
 refine zA hO [] [(1, zrh h), (2, zrg 0), (3, zrg 0)] ⟨rfl, rfl, rfl, trivial⟩ fun j => ?_
 -- p
 refine zL hO (zj1 hp) rfl fun _ σ _ _ hO W d7 => ?_
 have hL := hL.trans W
 have rB := rB.le W
 have rP := rP.le W
 obtain ⟨bF, bL, bK, D, X, x, V3, inn, Y, rfl, rfl, o, U, z, hpe⟩ := d7
 have hO := zrl4 hO
 refine zbl hO fun b4 σ hO => ?_
 have hO := zrl5 hO
 refine zC hO (i := 4) rfl (off := 0) rfl rfl rfl rfl (Nat.le_of_ble_eq_true rfl) rfl fun σ hO => ?_
 have hO := zrl5 hO
 refine zf (zK hO 2 [4] [(1, zrh h), (2, zrg 0), (3, zrg 0), (4, zrh b4), (23, .slice (some ⟨bF, 0, none⟩) 1 1)] ⟨⟨rfl, rfl⟩, rfl, rfl, rfl, rfl, rfl, trivial⟩ fun j => ?_)
 refine zgc rfl rfl (by decide) (by decide) ?_
 refine zK hO 2 [1] [(1, zrh h), (2, zrg 0), (3, zrg 0), (4, zrh b4), (26, .slice (some ⟨bL, 0, none⟩) 2 2)] ⟨⟨rfl, rfl⟩, rfl, rfl, rfl, rfl, rfl, trivial⟩ fun j => ?_
 refine zgc rfl rfl (by decide) (by decide) ?_
 refine zK hO 1 [] [(1, zrh h), (2, zrg 0), (3, zrg 0), (4, zrh b4), (28, .pointer (some ⟨bL, 2, none⟩))] ⟨rfl, rfl, rfl, rfl, rfl, trivial⟩ fun j => ?_
 refine zC hO (i := 2) rfl (off := 2) rfl rfl rfl rfl (Nat.le_of_ble_eq_true rfl) rfl fun σ hO => ?_
 have hO : Obs _ _ [_, some (bF, ⟨[.string zqR, .int .i64 1, .slice none 0 0, .int .u8 0, .int .i64 0, .string zqP, .slice (some ⟨bL, 0, none⟩) 2 2], 53, 7, true⟩), some (bL, ⟨[.int .u8 1, .int .i64 1, .string zqT, .string zqP, .string zqP, .int .u8 1, .int .i64 0, .string zqP, X, .slice none 0 0, .slice none 0 0, .int .u8 7, .int .i64 2, .string zqP, .string zqP, .string zqP, .int .u8 0, .int .i64 0, .string zqP, .slice (some ⟨bK, 0, none⟩) 1 1, Y, .slice none 0 0], 73, 22, true⟩), some (bK, ⟨[.int .u8 (x.Kind.toNat : Int), .int .i64 x.Num, .string x.Name, .string x.Field, .string x.Op, V3], 71, 6, true⟩), _] := hO
 refine zf (zK hO 1 [4] [(1, zrh h), (2, zrg 0), (3, zrg 0), (30, .agg #[.slice none 0 0, .slice (some ⟨bF, 0, none⟩) 1 1])] ⟨⟨rfl, rfl⟩, rfl, rfl, rfl, rfl, trivial⟩ fun j => ?_)
 obtain ⟨_, G, rK, hO⟩ := (za.ofRow (T := z5) (l := [⟨x.Kind, x.Num, x.Name, x.Field, x.Op, x.Kids⟩]) (n := 1) (ty := 71) (bb := bK) ⟨[.int .u8 (x.Kind.toNat : Int), .int .i64 x.Num, .string x.Name, .string x.Field, .string x.Op, V3], _, rfl, zcR ⟨_, rfl, U⟩, rfl⟩ rfl rfl (by decide)).share hO (i := 3) rfl
 have hL := hL.trans G
 have rB := rB.le G
 have rP := rP.le G
 have o := o.le G
 have z := z.le G
 have hO := zrl5 hO
 obtain ⟨_, Z, rL, hO⟩ := (za.ofRow (T := zX) (l := [⟨1, 1, zqT, zqP, zqP, ⟨1, 0, zqP⟩, D, [], []⟩, ⟨7, 2, zqP, zqP, zqP, ⟨0, 0, zqP⟩, [⟨x.Kind, x.Num, x.Name, x.Field, x.Op, x.Kids⟩], inn, []⟩]) (n := 2) (ty := 73) (bb := bL) ⟨[.int .u8 1, .int .i64 1, .string zqT, .string zqP, .string zqP, .int .u8 1, .int .i64 0, .string zqP, X, .slice none 0 0, .slice none 0 0], _, rfl, zc4 ⟨_, _, _, rfl, o, RdT.nil _ _, RdT.nil _ _⟩, ⟨[.int .u8 7, .int .i64 2, .string zqP, .string zqP, .string zqP, .int .u8 0, .int .i64 0, .string zqP, .slice (some ⟨bK, 0, none⟩) 1 1, Y, .slice none 0 0], _, rfl, zc4 ⟨_, _, _, rfl, rK, z, RdT.nil _ _⟩, rfl⟩⟩ rfl rfl (by decide)).share hO (i := 2) rfl
 have hL := hL.trans Z
 have rB := rB.le Z
 have rP := rP.le Z
 have hO := zrl5 hO
 obtain ⟨_, b0, rF, hO⟩ := (za.ofRow (T := zr) (l := [⟨zqR, 1, [], ⟨0, 0, zqP⟩, [⟨1, 1, zqT, zqP, zqP, ⟨1, 0, zqP⟩, D, [], []⟩, ⟨7, 2, zqP, zqP, zqP, ⟨0, 0, zqP⟩, [⟨x.Kind, x.Num, x.Name, x.Field, x.Op, x.Kids⟩], inn, []⟩]⟩]) (n := 1) (ty := 53) (bb := bF) ⟨[.string zqR, .int .i64 1, .slice none 0 0, .int .u8 0, .int .i64 0, .string zqP, .slice (some ⟨bL, 0, none⟩) 2 2], _, rfl, ⟨_, _, rfl, RdT.nil _ _, rL⟩, rfl⟩ rfl rfl (by decide)).share hO (i := 1) rfl
 have hL := hL.trans b0
 have rB := rB.le b0
 have rP := rP.le b0
 have hO := zrl5 hO
 have hn : zcI (⟨[], [⟨zqR, 1, [], ⟨0, 0, zqP⟩, [⟨1, 1, zqT, zqP, zqP, ⟨1, 0, zqP⟩, D, [], []⟩, ⟨7, 2, zqP, zqP, zqP, ⟨0, 0, zqP⟩, [⟨x.Kind, x.Num, x.Name, x.Field, x.Op, x.Kids⟩], inn, []⟩]⟩]⟩ : zm) = some (t2, 0, 8) := by
  rw [hpe] at hn
  exact hn
 refine zL hO (ze5 (p0 := (⟨[], [⟨zqR, 1, [], ⟨0, 0, zqP⟩, [⟨1, 1, zqT, zqP, zqP, ⟨1, 0, zqP⟩, D, [], []⟩, ⟨7, 2, zqP, zqP, zqP, ⟨0, 0, zqP⟩, [⟨x.Kind, x.Num, x.Name, x.Field, x.Op, x.Kids⟩], inn, []⟩]⟩]⟩ : zm)) (RdT.nil _ _) rF hn) rfl fun _ σ _ _ hO b2 d8 => ?_
 have hL := hL.trans b2
 have rB := rB.le b2
 have rP := rP.le b2
 obtain ⟨i2, i3, rfl, rfl, g1, g2⟩ := d8
 obtain ⟨d9, f3, rfl, -⟩ := g1.form
 obtain ⟨f4, f5, rfl, -⟩ := g2.form
 have hO := zrl5 hO
 refine zK hO 4 [] [(1, zrh h), (2, zrg 0), (3, zrg 0), (32, .agg #[zrn d9 t2.Bodies f3, .int .i64 t2.Main, zrn f4 t2.Points f5]), (33, zrg 0), (34, zrg 8)] ⟨rfl, rfl, rfl, rfl, rfl, rfl, trivial⟩ fun j => ?_
 refine zbl hO fun b5 σ hO => ?_
 have hO := zrl6 hO
 refine zC hO (i := 5) rfl (off := 0) rfl rfl rfl rfl (Nat.le_of_ble_eq_true rfl) rfl fun σ hO => ?_
 have hO := hO.sel [0]
 have hO := zrl1 hO
 refine zA hO [] [(1, zrh h), (2, zrg 0), (3, zrg 0), (6, zrg 0), (7, zrg 8)] ⟨rfl, rfl, rfl, rfl, rfl, trivial⟩ fun j => ?_
 clear o z U rK rL rF hpe
 -- q
 refine zL hO (zj1 hp) rfl fun _ σ _ _ hO b7 f6 => ?_
 have hL := hL.trans b7
 have rB := rB.le b7
 have rP := rP.le b7
 obtain ⟨bF, bL, bK, D, X, x, V3, inn, Y, rfl, rfl, o, U, z, hpe⟩ := f6
 have hO := zrl4 hO
 refine zbl hO fun V σ hO => ?_
 have hO := zrl5 hO
 refine zC hO (i := 4) rfl (off := 0) rfl rfl rfl rfl (Nat.le_of_ble_eq_true rfl) rfl fun σ hO => ?_
 have hO := zrl5 hO
 refine zf (zcw (zK hO 2 [4] [(1, zrh h), (2, zrg 0), (3, zrg 0), (6, zrg 0), (7, zrg 8), (8, zrh V), (36, .pointer (some ⟨V, 1, none⟩)), (37, .slice (some ⟨bF, 0, none⟩) 1 1)] ⟨⟨rfl, rfl⟩, rfl, rfl, rfl, rfl, rfl, rfl, rfl, rfl, trivial⟩ fun j => ?_))
 refine zgc rfl rfl (by decide) (by decide) ?_
 refine zK hO 2 [1] [(1, zrh h), (2, zrg 0), (3, zrg 0), (6, zrg 0), (7, zrg 8), (8, zrh V), (36, .pointer (some ⟨V, 1, none⟩)), (37, .slice (some ⟨bF, 0, none⟩) 1 1), (39, .pointer (some ⟨bF, 6, none⟩)), (40, .slice (some ⟨bL, 0, none⟩) 2 2)] ⟨⟨rfl, rfl⟩, rfl, rfl, rfl, rfl, rfl, rfl, rfl, rfl, rfl, rfl, trivial⟩ fun j => ?_
 refine zgc rfl rfl (by decide) (by decide) ?_
 refine zK hO 2 [2] [(1, zrh h), (2, zrg 0), (3, zrg 0), (6, zrg 0), (7, zrg 8), (8, zrh V), (36, .pointer (some ⟨V, 1, none⟩)), (37, .slice (some ⟨bF, 0, none⟩) 1 1), (39, .pointer (some ⟨bF, 6, none⟩)), (40, .slice (some ⟨bL, 0, none⟩) 2 2), (42, .pointer (some ⟨bL, 19, none⟩)), (43, .slice (some ⟨bK, 0, none⟩) 1 1)] ⟨⟨rfl, rfl⟩, rfl, rfl, rfl, rfl, rfl, rfl, rfl, rfl, rfl, rfl, rfl, rfl, trivial⟩ fun j => ?_
 refine zcp (zL hO (zeu (p0 := 1) (rr := ⟨1, 1, zqP, zqP, zqP, []⟩) rfl) rfl fun _ σ _ _ hO I f7 => ?_)
 have hL := hL.trans I
 have rB := rB.le I
 have rP := rP.le I
 have o := o.le I
 have z := z.le I
 obtain ⟨i4, rfl, rfl, rN⟩ := f7
 obtain ⟨c6, c7, rfl, -⟩ := rN.form
 have hO := zrl5 hO
 refine zf (zcj ⟨(zbp rfl (hO.val (i := 2) rfl (off := 19) (agg := false) (n := 1) rfl) rfl), (zbp rfl (hO.val (i := 1) rfl (off := 6) (agg := false) (n := 1) rfl) rfl), (zbp rfl (hO.val (i := 4) rfl (off := 1) (agg := false) (n := 1) rfl) rfl), trivial⟩ ?_)
 refine zgc rfl rfl (by decide) (by decide) ?_
 refine zC hO (i := 3) rfl (off := 0) rfl rfl rfl rfl (Nat.le_of_ble_eq_true rfl) rfl fun σ hO => ?_
 have hO : Obs _ _ [_, some (bF, ⟨[.string zqR, .int .i64 1, .slice none 0 0, .int .u8 0, .int .i64 0, .string zqP, .slice (some ⟨bL, 0, none⟩) 2 2], 53, 7, true⟩), some (bL, ⟨[.int .u8 1, .int .i64 1, .string zqQ, .string zqP, .string zqP, .int .u8 1, .int .i64 0, .string zqP, X, .slice none 0 0, .slice none 0 0, .int .u8 7, .int .i64 2, .string zqP, .string zqP, .string zqP, .int .u8 0, .int .i64 0, .string zqP, .slice (some ⟨bK, 0, none⟩) 1 1, Y, .slice none 0 0], 73, 22, true⟩), some (bK, ⟨[.int .u8 1, .int .i64 1, .string zqP, .string zqP, .string zqP, .slice c6 0 c7], 71, 6, true⟩), _] := hO
 refine zf (zK hO 1 [4] [(1, zrh h), (2, zrg 0), (3, zrg 0), (6, zrg 0), (7, zrg 8), (47, .agg #[.slice none 0 0, .slice (some ⟨bF, 0, none⟩) 1 1])] ⟨⟨rfl, rfl⟩, rfl, rfl, rfl, rfl, rfl, rfl, trivial⟩ fun j => ?_)
 obtain ⟨_, S, rK, hO⟩ := (za.ofRow (T := z5) (l := [⟨1, 1, zqP, zqP, zqP, []⟩]) (n := 1) (ty := 71) (bb := bK) ⟨[.int .u8 1, .int .i64 1, .string zqP, .string zqP, .string zqP, .slice c6 0 c7], _, rfl, zcR ⟨_, rfl, rN⟩, rfl⟩ rfl rfl (by decide)).share hO (i := 3) rfl
 have hL := hL.trans S
 have rB := rB.le S
 have rP := rP.le S
 have o := o.le S
 have z := z.le S
 have hO := zrl5 hO
 obtain ⟨_, c0, rL, hO⟩ := (za.ofRow (T := zX) (l := [⟨1, 1, zqQ, zqP, zqP, ⟨1, 0, zqP⟩, D, [], []⟩, ⟨7, 2, zqP, zqP, zqP, ⟨0, 0, zqP⟩, [⟨1, 1, zqP, zqP, zqP, []⟩], inn, []⟩]) (n := 2) (ty := 73) (bb := bL) ⟨[.int .u8 1, .int .i64 1, .string zqQ, .string zqP, .string zqP, .int .u8 1, .int .i64 0, .string zqP, X, .slice none 0 0, .slice none 0 0], _, rfl, zc4 ⟨_, _, _, rfl, o, RdT.nil _ _, RdT.nil _ _⟩, ⟨[.int .u8 7, .int .i64 2, .string zqP, .string zqP, .string zqP, .int .u8 0, .int .i64 0, .string zqP, .slice (some ⟨bK, 0, none⟩) 1 1, Y, .slice none 0 0], _, rfl, zc4 ⟨_, _, _, rfl, rK, z, RdT.nil _ _⟩, rfl⟩⟩ rfl rfl (by decide)).share hO (i := 2) rfl
 have hL := hL.trans c0
 have rB := rB.le c0
 have rP := rP.le c0
 have hO := zrl5 hO
 obtain ⟨_, c1, rF, hO⟩ := (za.ofRow (T := zr) (l := [⟨zqR, 1, [], ⟨0, 0, zqP⟩, [⟨1, 1, zqQ, zqP, zqP, ⟨1, 0, zqP⟩, D, [], []⟩, ⟨7, 2, zqP, zqP, zqP, ⟨0, 0, zqP⟩, [⟨1, 1, zqP, zqP, zqP, []⟩], inn, []⟩]⟩]) (n := 1) (ty := 53) (bb := bF) ⟨[.string zqR, .int .i64 1, .slice none 0 0, .int .u8 0, .int .i64 0, .string zqP, .slice (some ⟨bL, 0, none⟩) 2 2], _, rfl, ⟨_, _, rfl, RdT.nil _ _, rL⟩, rfl⟩ rfl rfl (by decide)).share hO (i := 1) rfl
 have hL := hL.trans c1
 have rB := rB.le c1
 have rP := rP.le c1
 have hO := zrl5 hO
 have hk : zcI (⟨[], [⟨zqR, 1, [], ⟨0, 0, zqP⟩, [⟨1, 1, zqQ, zqP, zqP, ⟨1, 0, zqP⟩, D, [], []⟩, ⟨7, 2, zqP, zqP, zqP, ⟨0, 0, zqP⟩, [⟨1, 1, zqP, zqP, zqP, []⟩], inn, []⟩]⟩]⟩ : zm) = some (t3, k3, 9) := by
  rw [hpe] at hk
  exact hk
 refine zL hO (ze5 (p0 := (⟨[], [⟨zqR, 1, [], ⟨0, 0, zqP⟩, [⟨1, 1, zqQ, zqP, zqP, ⟨1, 0, zqP⟩, D, [], []⟩, ⟨7, 2, zqP, zqP, zqP, ⟨0, 0, zqP⟩, [⟨1, 1, zqP, zqP, zqP, []⟩], inn, []⟩]⟩]⟩ : zm)) (RdT.nil _ _) rF hk) rfl fun _ σ _ _ hO c2 f8 => ?_
 have hL := hL.trans c2
 have rB := rB.le c2
 have rP := rP.le c2
 obtain ⟨i5, i6, rfl, rfl, g1, g2⟩ := f8
 obtain ⟨f9, g0, rfl, -⟩ := g1.form
 obtain ⟨g3, g4, rfl, -⟩ := g2.form
 have hO := zrl5 hO
 refine zK hO 4 [] [(1, zrh h), (2, zrg 0), (3, zrg 0), (6, zrg 0), (7, zrg 8), (49, .agg #[zrn f9 t3.Bodies g0, .int .i64 t3.Main, zrn g3 t3.Points g4]), (50, zrg k3), (51, zrg 9)] ⟨rfl, rfl, rfl, rfl, rfl, rfl, rfl, rfl, trivial⟩ fun j => ?_
 refine zbl hO fun b9 σ hO => ?_
 have hO := zrl6 hO
 refine zC hO (i := 5) rfl (off := 0) rfl rfl rfl rfl (Nat.le_of_ble_eq_true rfl) rfl fun σ hO => ?_
 have hO := hO.sel [0]
 have hO := zrl1 hO
 refine zA hO [] [(1, zrh h), (2, zrg 0), (3, zrg 0), (6, zrg 0), (7, zrg 8), (11, zrg 9)] ⟨rfl, rfl, rfl, rfl, rfl, rfl, trivial⟩ fun j => ?_
 clear o z U rK rL rF hpe rN
 -- no program
 refine zK hO 1 [] [(1, zrh h), (2, zrg 0), (3, zrg 0), (6, zrg 0), (7, zrg 8), (11, zrg 9), (53, .agg #[.slice none 0 0, .slice none 0 0])] ⟨rfl, rfl, rfl, rfl, rfl, rfl, rfl, trivial⟩ fun j => ?_
 refine zL hO (ze5 (p0 := ⟨[], []⟩) (RdT.nil _ _) (RdT.nil _ _) h4) rfl fun _ σ _ _ hO c3 g5 => ?_
 have hL := hL.trans c3
 have rB := rB.le c3
 have rP := rP.le c3
 obtain ⟨i7, i8, rfl, rfl, g1, g2⟩ := g5
 obtain ⟨g6, g7, rfl, -⟩ := g1.form
 obtain ⟨g8, g9, rfl, -⟩ := g2.form
 have hO := zrl1 hO
 refine zK hO 4 [] [(1, zrh h), (2, zrg 0), (3, zrg 0), (6, zrg 0), (7, zrg 8), (11, zrg 9), (55, .agg #[zrn g6 t4.Bodies g7, .int .i64 t4.Main, zrn g8 t4.Points g9]), (56, zrg 0), (57, zrg 8)] ⟨rfl, rfl, rfl, rfl, rfl, rfl, rfl, rfl, rfl, trivial⟩ fun j => ?_
 refine zbl hO fun i9 σ hO => ?_
 have hO := zrl2 hO
 refine zC hO (i := 1) rfl (off := 0) rfl rfl rfl rfl (Nat.le_of_ble_eq_true rfl) rfl fun σ hO => ?_
 have hO := hO.sel [0]
 have hO : Obs _ _ [some (h, ⟨[.slice AB 1 cB, .int .i64 m, .slice AP 4 cP], 31, 3, true⟩)] := hO
 refine zA hO [] [(1, zrh h), (2, zrg 0), (3, zrg 0), (6, zrg 0), (7, zrg 8), (11, zrg 9), (13, zrg 0), (14, zrg 8)] ⟨rfl, rfl, rfl, rfl, rfl, rfl, rfl, rfl, trivial⟩ fun j => ?_
 -- what is answered
 refine zK hO 9 [0] [(1, zrh h), (2, zrg 0), (3, zrg 0), (6, zrg 0), (7, zrg 8), (11, zrg 9), (13, zrg 0), (14, zrg 8), (70, .bool true)] ⟨⟨rfl, rfl⟩, fun _ => ⟨⟨rfl, rfl⟩, ⟨rfl, rfl⟩, fun _ => ⟨rfl, rfl, rfl, rfl, rfl, rfl, rfl, rfl, rfl, trivial⟩⟩⟩ fun j => ?_
 refine zbn rfl ?_
 refine zK hO 2 [0] [(1, zrh h), (2, zrg 0), (3, zrg 0), (6, zrg 0), (7, zrg 8), (11, zrg 9), (13, zrg 0), (14, zrg 8), (70, .bool true), (72, .slice AP 4 cP)] ⟨⟨rfl, rfl⟩, rfl, rfl, rfl, rfl, rfl, rfl, rfl, rfl, rfl, rfl, trivial⟩ fun j => ?_
 refine zO (T := zo) rP hO.base rfl rfl (show zs _ 2 = some _ from rfl) (by decide) fun a _ g u => ?_
 obtain ⟨w, rfl, g⟩ := g
 obtain ⟨A, c, rfl, -⟩ := g.form
 refine zK hO 1 [] [(1, zrh h), (2, zrg 0), (3, zrg 0), (6, zrg 0), (7, zrg 8), (11, zrg 9), (13, zrg 0), (14, zrg 8), (70, .bool true), (74, .pointer (some (a.add 1)))] ⟨rfl, rfl, rfl, rfl, rfl, rfl, rfl, rfl, rfl, rfl, trivial⟩ fun j => ?_
 refine zE rfl ((u.le hO.base).one 1 rfl) ?_
 refine zK hO 1 [] [(1, zrh h), (2, zrg 0), (3, zrg 0), (6, zrg 0), (7, zrg 8), (11, zrg 9), (13, zrg 0), (14, zrg 8), (70, .bool true), (76, .bool true)] ⟨rfl, rfl, rfl, rfl, rfl, rfl, rfl, rfl, rfl, rfl, trivial⟩ fun j => ?_
 refine zW rfl ?_
 refine zK hO 1 [] [(1, zrh h), (2, zrg 0), (3, zrg 0), (6, zrg 0), (7, zrg 8), (11, zrg 9), (13, zrg 0), (14, zrg 8), (78, .bool true)] ⟨rfl, rfl, rfl, rfl, rfl, rfl, rfl, rfl, rfl, trivial⟩ fun j => ?_
 refine zbn rfl ?_
 refine zK hO 2 [0] [(1, zrh h), (2, zrg 0), (3, zrg 0), (6, zrg 0), (7, zrg 8), (11, zrg 9), (13, zrg 0), (14, zrg 8), (78, .bool true), (80, .slice AP 4 cP)] ⟨⟨rfl, rfl⟩, rfl, rfl, rfl, rfl, rfl, rfl, rfl, rfl, rfl, rfl, trivial⟩ fun j => ?_
 refine zO (T := zo) rP hO.base rfl rfl (show zs _ 1 = some _ from rfl) (by decide) fun a _ g u => ?_
 obtain ⟨w, rfl, g⟩ := g
 obtain ⟨A, c, rfl, -⟩ := g.form
 refine zK hO 1 [] [(1, zrh h), (2, zrg 0), (3, zrg 0), (6, zrg 0), (7, zrg 8), (11, zrg 9), (13, zrg 0), (14, zrg 8), (78, .bool true), (82, .pointer (some (a.add 2)))] ⟨rfl, rfl, rfl, rfl, rfl, rfl, rfl, rfl, rfl, rfl, trivial⟩ fun j => ?_
 refine zE rfl ((u.le hO.base).one 2 rfl) ?_
 refine zK hO 2 [] [(1, zrh h), (2, zrg 0), (3, zrg 0), (6, zrg 0), (7, zrg 8), (11, zrg 9), (13, zrg 0), (14, zrg 8), (78, .bool true), (85, .bool true)] ⟨rfl, rfl, rfl, rfl, rfl, rfl, rfl, rfl, rfl, rfl, trivial⟩ fun j => ?_
 refine zW rfl ?_
 refine zK hO 1 [] [(1, zrh h), (2, zrg 0), (3, zrg 0), (6, zrg 0), (7, zrg 8), (11, zrg 9), (13, zrg 0), (14, zrg 8), (87, .bool true)] ⟨rfl, rfl, rfl, rfl, rfl, rfl, rfl, rfl, rfl, trivial⟩ fun j => ?_
 refine zbn rfl ?_
 refine zK hO 2 [0] [(1, zrh h), (2, zrg 0), (3, zrg 0), (6, zrg 0), (7, zrg 8), (11, zrg 9), (13, zrg 0), (14, zrg 8), (87, .bool true), (89, .slice AP 4 cP)] ⟨⟨rfl, rfl⟩, rfl, rfl, rfl, rfl, rfl, rfl, rfl, rfl, rfl, rfl, trivial⟩ fun j => ?_
 refine zO (T := zo) rP hO.base rfl rfl (show zs _ 0 = some _ from rfl) (by decide) fun a _ g u => ?_
 obtain ⟨w, rfl, g⟩ := g
 obtain ⟨A, c, rfl, -⟩ := g.form
 refine zK hO 1 [] [(1, zrh h), (2, zrg 0), (3, zrg 0), (6, zrg 0), (7, zrg 8), (11, zrg 9), (13, zrg 0), (14, zrg 8), (87, .bool true), (91, .pointer (some (a.add 2)))] ⟨rfl, rfl, rfl, rfl, rfl, rfl, rfl, rfl, rfl, rfl, trivial⟩ fun j => ?_
 refine zE rfl ((u.le hO.base).one 2 rfl) ?_
 refine zK hO 2 [] [(1, zrh h), (2, zrg 0), (3, zrg 0), (6, zrg 0), (7, zrg 8), (11, zrg 9), (13, zrg 0), (14, zrg 8), (87, .bool true), (94, .bool true)] ⟨rfl, rfl, rfl, rfl, rfl, rfl, rfl, rfl, rfl, rfl, trivial⟩ fun j => ?_
 refine zW rfl ?_
 refine zK hO 4 [0] [(1, zrh h), (2, zrg 0), (3, zrg 0), (6, zrg 0), (7, zrg 8), (11, zrg 9), (13, zrg 0), (14, zrg 8), (102, .bool true)] ⟨⟨rfl, rfl⟩, ⟨rfl, rfl⟩, fun _ => ⟨rfl, rfl, rfl, rfl, rfl, rfl, rfl, rfl, rfl, trivial⟩⟩ fun j => ?_
 refine zbn rfl ?_
 refine zK hO 2 [0] [(1, zrh h), (2, zrg 0), (3, zrg 0), (6, zrg 0), (7, zrg 8), (11, zrg 9), (13, zrg 0), (14, zrg 8), (102, .bool true), (104, .slice AB 1 cB)] ⟨⟨rfl, rfl⟩, rfl, rfl, rfl, rfl, rfl, rfl, rfl, rfl, rfl, rfl, trivial⟩ fun j => ?_
 refine zO (T := zp) rB hO.base rfl rfl (show zs _ 0 = some _ from rfl) (by decide) fun a _ g u => ?_
 obtain ⟨w, w', rfl, g', g⟩ := g
 obtain ⟨A, c, rfl, -⟩ := g.form
 refine zK hO 1 [] [(1, zrh h), (2, zrg 0), (3, zrg 0), (6, zrg 0), (7, zrg 8), (11, zrg 9), (13, zrg 0), (14, zrg 8), (102, .bool true), (106, .pointer (some (a.add 4)))] ⟨rfl, rfl, rfl, rfl, rfl, rfl, rfl, rfl, rfl, rfl, trivial⟩ fun j => ?_
 refine zE rfl ((u.le hO.base).one 4 rfl) ?_
 refine zK hO 2 [] [(1, zrh h), (2, zrg 0), (3, zrg 0), (6, zrg 0), (7, zrg 8), (11, zrg 9), (13, zrg 0), (14, zrg 8), (102, .bool true), (109, .bool true)] ⟨rfl, rfl, rfl, rfl, rfl, rfl, rfl, rfl, rfl, rfl, trivial⟩ fun j => ?_
 refine zW rfl ?_
 refine zA hO [] [(0, .bool true)] ⟨⟨rfl, rfl⟩, fun _ => ⟨⟨rfl, rfl⟩, fun _ => ⟨⟨rfl, rfl⟩, fun _ => ⟨⟨rfl, rfl⟩, fun _ => ⟨⟨rfl, rfl⟩, fun _ => ⟨rfl, trivial⟩⟩⟩⟩⟩⟩ fun j => ?_
 refine zba ?_
 have hO := hO.sel []
 exact hQ _ _ _ _ _ rfl hO hL ⟨rfl, rfl⟩
theorem zli {τ : Hp}   {rr : Bool} (hF : ziL  = some rr) :
  Ctr Try.prog 9 #[] τ [] (fun v τ' vs' => v = .bool rr ∧ vs' = []) := by
 cases hF
 exact zoA
def zk2 (gn : Nat) : Prop := ∀ {τ : Hp} {g : Value} {p0 : (List zj)} {h : Value} {p1 : (List zj)} (j : RdT zR τ g p0) (o : RdT zR τ h p1) {rr : Bool} (hF : (zcQ gn) p0 p1 = some rr), Ctr Try.prog 37 #[g, h] τ [] (fun v τ' vs' => v = .bool rr ∧ vs' = [])
theorem zmT {gn : Nat} (ih_ref13_SameVals : zk2 gn) {τ : Hp} {v0 : Value} {p0 : (List zj)} {v1 : Value} {p1 : (List zj)} (r0 : RdT zR τ v0 p0) (r1 : RdT zR τ v1 p1) {rr : Bool} (hF : zgF (zcQ gn) p0 p1 = some rr) :
  Ctr Try.prog 37 #[v0, v1] τ [] (fun v τ' vs' => v = .bool rr ∧ vs' = []) := by
 obtain ⟨h, o, rfl, -⟩ := r0.form
 obtain ⟨q, z, rfl, -⟩ := r1.form
 refine zbi (args := [.slice h p0.length o, .slice q p1.length z]) hm Try.func37 s37 rfl fun w0 σ hO Q hQ => ?_
 unfold zgF at hF
 have hL := Hp.le.refl τ
 show wpn _ _ a37.body _ _ _
 unfold a37
 dsimp only
 refine ze hO [] [] [0, 1] zq1 fun j => ?_
 refine zl (ze hO [] [(10, .bool ((p0.length : Int) != (p1.length : Int)))] [0, 1] zq2 fun j => ?_)
 refine zy hF rfl (fun hF => ?_) fun hF => ?_
 ·refine zl (zA hO [] [(4, .bool false)] zq0 fun j => ?_)
  refine zbt ?_
  cases hF
  exact hQ _ _ _ _ _ rfl hO hL ⟨rfl, rfl⟩
 refine zF (zl (ze hO [] [(5, zrg 0)] [0, 1] zq2 fun j => ?_))
 refine zY (zbH (fun (n : Nat) e' σ' => ∃ (g : Int) (τ' : Hp), agr [(0, zrn h p0 o), (1, zrn q p1 z), (5, zrg g)] e' ∧ Obs τ' σ' [] ∧ Hp.le τ τ' ∧ zfn (zcQ gn) p0 p1 n g = some rr) big ⟨0, _, zrf zq1, hO, hL, hF⟩ ?_)
 clear hF hO hL
 rintro U e σ ⟨g, _, hA, hO, hL, hF⟩
 rw [← zV _ _ hA]
 cases U with
 | zero => exact nomatch (show none = some rr from hF)
 | succ U =>
 replace hF : zek (zfn (zcQ gn) p0 p1 U) (zcQ gn) p0 p1 g = some rr := hF
 unfold zek at hF
 refine zl (ze hO [] [(14, .bool (decide (g < (p0.length : Int))))] [0, 1, 5] zq3 fun j => ?_)
 refine zy hF rfl (fun hF => ?_) fun hF => ?_
 ·refine zF (zY (zcw (zd hO 2 [] [(17, zrn h p0 o), (18, zrg g)] [0, 1, 5] zq4 fun j => ?_)))
  obtain ⟨b3, b7, hF⟩ := zrm hF
  refine zO (T := zR) (r0.le hL) hO.base rfl rfl b7 (by decide) fun a225 _ b8 b9 => ?_
  obtain ⟨i5, rfl, c2⟩ := zdr b8
  obtain ⟨i6, i7, rfl, -⟩ := c2.form
  refine zd hO 1 [] [(20, .pointer (some a225))] [0, 1, 5] zq3 fun j => ?_
  refine zE rfl (b9.le hO.base).fst ?_
  refine zd hO 2 [] [(22, zrn q p1 z), (23, zrg g)] [0, 1, 5, 21] zq5 fun j => ?_
  obtain ⟨b4, c3, hF⟩ := zrm hF
  refine zO (T := zR) (r1.le hL) hO.base rfl rfl c3 (by decide) fun a234 _ c4 c5 => ?_
  obtain ⟨i8, rfl, c6⟩ := zdr c4
  obtain ⟨i9, j0, rfl, -⟩ := c6.form
  refine zd hO 1 [] [(25, .pointer (some a234))] [0, 1, 5, 21] zq4 fun j => ?_
  refine zE rfl (c5.le hO.base).fst ?_
  refine zd hO 2 [] [(28, .bool ((b3.Kind.toNat : Int) != (b4.Kind.toNat : Int)))] [0, 1, 5] zq3 fun j => ?_
  obtain ⟨Y, c7, hF⟩ := zrm hF
  refine zdF 2 [(40, .bool Y), (0, zrn h p0 o), (1, zrn q p1 z), (5, zrg g)] (fun Q hQ => ?_) fun j => ?_
  ·have hF := c7
   rcases zbL hF with ⟨D, hF⟩ | ⟨D, hF⟩
   ·refine zbz (zrj D) ?_
    refine zW (zri D) ?_
    refine zf ?_
    cases hF
    refine zg ?_
    exact hQ _ zq3
   refine zbn (zrj D) ?_
   refine zd hO 2 [] [(29, zrn h p0 o), (30, zrg g)] [0, 1, 5, 28] zq5 fun j => ?_
   obtain ⟨b5, c8, hF⟩ := zrm hF
   refine zO (T := zR) (r0.le hL) hO.base rfl rfl c8 (by decide) fun a246 _ c9 d0 => ?_
   obtain ⟨j1, rfl, d5⟩ := zdr c9
   obtain ⟨j2, j3, rfl, -⟩ := d5.form
   refine zd hO 1 [] [(32, .pointer (some (a246.add 1)))] [0, 1, 5, 28] zq4 fun j => ?_
   refine zE rfl ((d0.le hO.base).one 1 rfl) ?_
   refine zK hO 2 [] [(0, zrn h p0 o), (1, zrn q p1 z), (5, zrg g), (28, .bool ((b3.Kind.toNat : Int) != (b4.Kind.toNat : Int))), (33, .int .u8 (b5.Op.toNat : Int)), (34, zrn q p1 z), (35, zrg g)] zq6 fun j => ?_
   obtain ⟨d6, d7, hF⟩ := zrm hF
   refine zO (T := zR) (r1.le hL) hO.base rfl rfl d7 (by decide) fun a255 _ d8 d9 => ?_
   obtain ⟨j4, rfl, f0⟩ := zdr d8
   obtain ⟨j5, j6, rfl, -⟩ := f0.form
   refine zd hO 1 [] [(37, .pointer (some (a255.add 1)))] [0, 1, 5, 28, 33] zq5 fun j => ?_
   refine zE rfl ((d9.le hO.base).one 1 rfl) ?_
   refine zd hO 1 [] [(39, .bool ((b5.Op.toNat : Int) != (d6.Op.toNat : Int)))] [0, 1, 5, 28] zq4 fun j => ?_
   refine zW (zri D) ?_
   refine zf ?_
   cases hF
   refine zg ?_
   exact hQ _ zq3
  refine zd hO 1 [] [(41, .bool Y)] [0, 1, 5] zq3 fun j => ?_
  obtain ⟨Z, f1, hF⟩ := zrm hF
  refine zdF 2 [(53, .bool Z), (0, zrn h p0 o), (1, zrn q p1 z), (5, zrg g)] (fun Q hQ => ?_) fun j => ?_
  ·have hF := f1
   rcases zbL hF with ⟨G, hF⟩ | ⟨G, hF⟩
   ·refine zbz (zrj G) ?_
    refine zW (zri G) ?_
    refine zf ?_
    cases hF
    refine zg ?_
    exact hQ _ zq3
   refine zbn (zrj G) ?_
   refine zd hO 2 [] [(42, zrn h p0 o), (43, zrg g)] [0, 1, 5, 41] zq5 fun j => ?_
   obtain ⟨f2, f3, hF⟩ := zrm hF
   refine zO (T := zR) (r0.le hL) hO.base rfl rfl f3 (by decide) fun a267 _ f4 f5 => ?_
   obtain ⟨j7, rfl, f6⟩ := zdr f4
   obtain ⟨j8, j9, rfl, -⟩ := f6.form
   refine zK hO 1 [] [(0, zrn h p0 o), (1, zrn q p1 z), (5, zrg g), (41, .bool Y), (45, .pointer (some (a267.add 2)))] zq4 fun j => ?_
   refine zE rfl ((f5.le hO.base).one 2 rfl) ?_
   refine zd hO 2 [] [(47, zrn q p1 z), (48, zrg g)] [0, 1, 5, 41, 46] zq6 fun j => ?_
   obtain ⟨f7, f8, hF⟩ := zrm hF
   refine zO (T := zR) (r1.le hL) hO.base rfl rfl f8 (by decide) fun a276 _ f9 g0 => ?_
   obtain ⟨k0, rfl, g1⟩ := zdr f9
   obtain ⟨k1, k2, rfl, -⟩ := g1.form
   refine zd hO 1 [] [(50, .pointer (some (a276.add 2)))] [0, 1, 5, 41, 46] zq5 fun j => ?_
   refine zE rfl ((g0.le hO.base).one 2 rfl) ?_
   refine zd hO 1 [] [(52, .bool (f2.Var != f7.Var))] [0, 1, 5, 41] zq4 fun j => ?_
   refine zW (zri G) ?_
   refine zf ?_
   cases hF
   refine zg ?_
   exact hQ _ zq3
  refine zd hO 1 [] [(54, .bool Z)] [0, 1, 5] zq3 fun j => ?_
  obtain ⟨b6, g2, hF⟩ := zrm hF
  refine zdF 2 [(66, .bool b6), (0, zrn h p0 o), (1, zrn q p1 z), (5, zrg g)] (fun Q hQ => ?_) fun j => ?_
  ·have hF := g2
   rcases zbL hF with ⟨I, hF⟩ | ⟨I, hF⟩
   ·refine zbz (zrj I) ?_
    refine zW (zri I) ?_
    refine zf ?_
    cases hF
    refine zg ?_
    exact hQ _ zq3
   refine zbn (zrj I) ?_
   refine zK hO 2 [] [(0, zrn h p0 o), (1, zrn q p1 z), (5, zrg g), (54, .bool Z), (55, zrn h p0 o), (56, zrg g)] zq5 fun j => ?_
   obtain ⟨g3, g4, hF⟩ := zrm hF
   refine zO (T := zR) (r0.le hL) hO.base rfl rfl g4 (by decide) fun a288 _ g5 g6 => ?_
   obtain ⟨k3, rfl, g7⟩ := zdr g5
   obtain ⟨k4, k5, rfl, -⟩ := g7.form
   refine zd hO 1 [] [(58, .pointer (some (a288.add 3)))] [0, 1, 5, 54] zq4 fun j => ?_
   refine zE rfl ((g6.le hO.base).one 3 rfl) ?_
   refine zd hO 2 [] [(60, zrn q p1 z), (61, zrg g)] [0, 1, 5, 54, 59] zq6 fun j => ?_
   obtain ⟨g8, g9, hF⟩ := zrm hF
   refine zO (T := zR) (r1.le hL) hO.base rfl rfl g9 (by decide) fun a297 _ h0 h1 => ?_
   obtain ⟨k6, rfl, h2⟩ := zdr h0
   obtain ⟨k7, k8, rfl, -⟩ := h2.form
   refine zd hO 1 [] [(63, .pointer (some (a297.add 3)))] [0, 1, 5, 54, 59] zq5 fun j => ?_
   refine zE rfl ((h1.le hO.base).one 3 rfl) ?_
   refine zd hO 1 [] [(65, .bool (g3.Num != g8.Num))] [0, 1, 5, 54] zq4 fun j => ?_
   refine zW (zri I) ?_
   refine zf ?_
   cases hF
   refine zg ?_
   exact hQ _ zq3
  refine zK hO 1 [] [(0, zrn h p0 o), (1, zrn q p1 z), (5, zrg g), (67, .bool b6)] zq3 fun j => ?_
  obtain ⟨h3, h4, hF⟩ := zrm hF
  refine zcA 2 (fun e' σ' => ∃ (τ' : Hp), agr [(80, .bool h3), (0, zrn h p0 o), (1, zrn q p1 z), (5, zrg g)] e' ∧ Obs τ' σ' [] ∧ Hp.le τ τ') ?_ ?_
  ·have hF := h4
   rcases zbL hF with ⟨S, hF⟩ | ⟨S, hF⟩
   ·refine zbz (zrj S) ?_
    refine zW (zri S) ?_
    refine zf ?_
    cases hF
    refine zg ?_
    exact ⟨rfl, _, zrf zq2, hO, hL⟩
   refine zbn (zrj S) ?_
   refine zd hO 2 [] [(68, zrn h p0 o), (69, zrg g)] [0, 1, 5, 67] zq5 fun j => ?_
   obtain ⟨k9, h5, hF⟩ := zrm hF
   refine zO (T := zR) (r0.le hL) hO.base rfl rfl h5 (by decide) fun a309 _ h6 h7 => ?_
   obtain ⟨l0, rfl, V⟩ := zdr h6
   obtain ⟨l1, l2, rfl, -⟩ := V.form
   refine zd hO 1 [] [(71, .pointer (some (a309.add 4)))] [0, 1, 5, 67] zq4 fun j => ?_
   refine zE rfl ((h7.le hO.base).one 4 rfl) ?_
   refine zd hO 2 [] [(73, zrn q p1 z), (74, zrg g)] [0, 1, 5, 67, 72] zq6 fun j => ?_
   obtain ⟨l3, h8, hF⟩ := zrm hF
   refine zO (T := zR) (r1.le hL) hO.base rfl rfl h8 (by decide) fun a318 _ h9 b0 => ?_
   obtain ⟨l4, rfl, W⟩ := zdr h9
   obtain ⟨l5, l6, rfl, -⟩ := W.form
   refine zd hO 1 [] [(76, .pointer (some (a318.add 4)))] [0, 1, 5, 67, 72] zq5 fun j => ?_
   refine zE rfl ((b0.le hO.base).one 4 rfl) ?_
   obtain ⟨i0, i1, hF⟩ := zrm hF
   refine zL hO (ih_ref13_SameVals V W i1) rfl fun _ σ _ _ hO X i2 => ?_
   have hL := hL.trans X
   have V := V.le X
   have b0 := b0.le X
   have W := W.le X
   obtain ⟨rfl, rfl⟩ := i2
   have hO : Obs _ _ [] := hO
   refine zd hO 1 [] [(79, .bool (!i0))] [0, 1, 5, 67] zq4 fun j => ?_
   refine zW (zri S) ?_
   refine zf ?_
   cases hF
   refine zg ?_
   exact ⟨rfl, _, zrf zq2, hO, hL⟩
  rintro e σ ⟨_, hA, hO, hL⟩
  rw [← zV _ _ hA]
  refine zf (zbC (zy hF rfl (fun hF => ?_) fun hF => ?_))
  ·refine zl (zA hO [] [(4, .bool false)] zq0 fun j => ?_)
   refine zbt (zbo (zbc (zbc (zbo (zbc ?_)))))
   cases hF
   exact hQ _ _ _ _ _ rfl hO hL ⟨rfl, rfl⟩
  refine zF (zg (z3 (zk (zbd (ze hO [] [(5, zrg (IntKind.i64.wrap (g + 1)))] [0, 1] zq2 fun j => ?_)))))
  refine zg (zk ?_)
  exact ⟨U, Nat.lt_succ_self _, (IntKind.i64.wrap (g + 1)), _, zrf zq1, hO, hL, hF⟩
 refine zbF (zbB (zbD (zk (zA hO [] [(4, .bool true)] zq0 fun j => ?_))))
 refine zba ?_
 cases hF
 exact hQ _ _ _ _ _ rfl hO hL ⟨rfl, rfl⟩
theorem zob (n : Nat) : zk2 n := by
 induction n with
 | zero =>
  intro τ j p0 o p1 g h rr hF; exact nomatch (show none = some rr from hF)
 | succ n ih =>
  intro τ j p0 o p1 g h rr hF; exact zmT ih g h hF
theorem zmQ : ∀ {τ : Hp} {g : Value} {p0 : (List zj)} {h : Value} {p1 : (List zj)} (j : RdT zR τ g p0) (o : RdT zR τ h p1) {rr : Bool} (hF : zh6 p0 p1 = some rr), Ctr Try.prog 37 #[g, h] τ [] (fun v τ' vs' => v = .bool rr ∧ vs' = []) := (zob big)
def zkh (gn : Nat) : Prop := ∀ {τ : Hp} {g : Value} {p0 : (List zh)} {h : Value} {p1 : (List zh)} (j : RdT zN τ g p0) (o : RdT zN τ h p1) {rr : Bool} (hF : (zcT gn) p0 p1 = some rr), Ctr Try.prog 18 #[g, h] τ [] (fun v τ' vs' => v = .bool rr ∧ vs' = [])
theorem zp8 {gn : Nat} (ih_ref13_SameActs : zkh gn) {τ : Hp} {v0 : Value} {p0 : (List zh)} {v1 : Value} {p1 : (List zh)} (r0 : RdT zN τ v0 p0) (r1 : RdT zN τ v1 p1) {rr : Bool} (hF : zgA (zcT gn) p0 p1 = some rr) :
  Ctr Try.prog 18 #[v0, v1] τ [] (fun v τ' vs' => v = .bool rr ∧ vs' = []) := by
 obtain ⟨A0, c0, rfl, -⟩ := r0.form
 obtain ⟨A1, c1, rfl, -⟩ := r1.form
 refine zbi (args := [.slice A0 p0.length c0, .slice A1 p1.length c1]) hm Try.func18 s18 rfl fun w0 σ hO Q hQ => ?_
 unfold zgA at hF
 have hL := Hp.le.refl τ
 show wpn _ _ a18.body _ _ _
 unfold a18
 dsimp only
 refine ze hO [] [] [0, 1] zq1 fun j => ?_
 refine zl (ze hO [] [(12, .bool ((p0.length : Int) != (p1.length : Int)))] [0, 1] zq2 fun j => ?_)
 refine zy hF rfl (fun hF => ?_) fun hF => ?_
 ·refine zl (zA hO [] [(4, .bool false)] zq0 fun j => ?_)
  refine zbt ?_
  cases hF
  exact hQ _ _ _ _ _ rfl hO hL ⟨rfl, rfl⟩
 refine zF (zl (ze hO [] [(5, zrg 0)] [0, 1] zq2 fun j => ?_))
 refine zY (zbH (fun (n : Nat) e' σ' => ∃ (S : Int) (τ' : Hp), agr [(0, zrn A0 p0 c0), (1, zrn A1 p1 c1), (5, zrg S)] e' ∧ Obs τ' σ' [] ∧ Hp.le τ τ' ∧ zfm (zcT gn) p0 p1 n S = some rr) big ⟨0, _, zrf zq1, hO, hL, hF⟩ ?_)
 clear hF hO hL
 rintro c6 e σ ⟨S, _, hA, hO, hL, hF⟩
 rw [← zV _ _ hA]
 cases c6 with
 | zero => exact nomatch (show none = some rr from hF)
 | succ c6 =>
 replace hF : zeh (zfm (zcT gn) p0 p1 c6) (zcT gn) p0 p1 S = some rr := hF
 unfold zeh at hF
 refine zl (ze hO [] [(16, .bool (decide (S < (p0.length : Int))))] [0, 1, 5] zq3 fun j => ?_)
 refine zy hF rfl (fun hF => ?_) fun hF => ?_
 ·refine zF (zY (zd hO 2 [] [(19, zrn A0 p0 c0), (20, zrg S)] [0, 1, 5] zq4 fun j => ?_))
  obtain ⟨g, d7, hF⟩ := zrm hF
  refine zO (T := zN) (r0.le hL) hO.base rfl rfl d7 (by decide) fun a127 _ d8 d9 => ?_
  obtain ⟨h0, h1, h2, rfl, o, q, z⟩ := zl2 d8
  obtain ⟨U, V, rfl, -⟩ := o.form
  obtain ⟨W, X, rfl, -⟩ := q.form
  obtain ⟨Y, Z, rfl, -⟩ := z.form
  refine zE rfl ((d9.le hO.base).all rfl) ?_
  refine zbl hO fun c4 σ hO => ?_
  have hO := zrl1 hO
  refine zC hO (i := 0) rfl (off := 0) rfl rfl rfl rfl (Nat.le_of_ble_eq_true rfl) rfl fun σ hO => ?_
  have hO := zrl1 hO
  refine zf (zd hO 2 [] [(23, zrn A1 p1 c1), (24, zrg S)] [0, 1, 5, 6] zq5 fun j => ?_)
  obtain ⟨h, f0, hF⟩ := zrm hF
  refine zO (T := zN) (r1.le hL) hO.base rfl rfl f0 (by decide) fun a145 _ f1 f2 => ?_
  obtain ⟨h3, h4, h5, rfl, D, G, I⟩ := zl2 f1
  obtain ⟨b0, b1, rfl, -⟩ := D.form
  obtain ⟨b2, b3, rfl, -⟩ := G.form
  obtain ⟨b4, b5, rfl, -⟩ := I.form
  refine zE rfl ((f2.le hO.base).all rfl) ?_
  refine zbl hO fun c5 σ hO => ?_
  have hO := zrl2 hO
  refine zC hO (i := 1) rfl (off := 0) rfl rfl rfl rfl (Nat.le_of_ble_eq_true rfl) rfl fun σ hO => ?_
  have hO := zrl2 hO
  refine zf (zd hO 18 [0, 1, 0, 1, 0, 1, 0, 1, 0, 1] [(60, .bool ((((((g.Kind.toNat : Int) != (h.Kind.toNat : Int)) || (g.Point != h.Point)) || (g.Var != h.Var)) || (g.Field != h.Field)) || (g.Call != h.Call)))] [0, 1, 5, 6, 7] (And.intro (And.intro rfl rfl) (And.intro (And.intro rfl rfl) (And.intro (And.intro rfl rfl) (And.intro (And.intro rfl rfl) (And.intro (And.intro rfl rfl) (fun _ => And.intro (And.intro rfl rfl) (And.intro (And.intro rfl rfl) (And.intro (And.intro rfl rfl) (fun _ => And.intro (And.intro rfl rfl) (And.intro (And.intro rfl rfl) (And.intro (And.intro rfl rfl) (fun _ => And.intro (And.intro rfl rfl) (And.intro (And.intro rfl rfl) (And.intro (And.intro rfl rfl) (fun _ => zrf zq4))))))))))))))) fun j => ?_)
  obtain ⟨d5, f3, hF⟩ := zrm hF
  refine zcA 2 (fun e' σ' => ∃ (τ' : Hp), agr [(67, .bool d5), (0, zrn A0 p0 c0), (1, zrn A1 p1 c1), (5, zrg S), (6, zrh c4), (7, zrh c5)] e' ∧ Obs τ' σ' [zbP c4 (g.Kind.toNat : Int) g.Point g.Var g.Field g.Call (zrn U g.Kids V) (zrn W g.Body X) (zrn Y g.Else Z), zbP c5 (h.Kind.toNat : Int) h.Point h.Var h.Field h.Call (zrn b0 h.Kids b1) (zrn b2 h.Body b3) (zrn b4 h.Else b5)] ∧ Hp.le τ τ' ∧ RdT zR τ' (zrn U g.Kids V) g.Kids ∧ RdT zN τ' (zrn W g.Body X) g.Body ∧ RdT zN τ' (zrn Y g.Else Z) g.Else ∧ RdT zR τ' (zrn b0 h.Kids b1) h.Kids ∧ RdT zN τ' (zrn b2 h.Body b3) h.Body ∧ RdT zN τ' (zrn b4 h.Else b5) h.Else) ?_ ?_
  ·have hF := f3
   rcases zbL hF with ⟨b9, hF⟩ | ⟨b9, hF⟩
   ·refine zbz (zrj b9) ?_
    refine zW (zri b9) ?_
    refine zf ?_
    cases hF
    refine zg ?_
    exact ⟨rfl, _, zrf zq4, hO, hL, o, q, z, D, G, I⟩
   refine zbn (zrj b9) ?_
   refine zd hO 4 [0, 1] [(62, zrn U g.Kids V), (64, zrn b0 h.Kids b1)] [0, 1, 5, 6, 7, 60] (And.intro (And.intro rfl rfl) (And.intro (And.intro rfl rfl) zq7)) fun j => ?_
   obtain ⟨f4, f5, hF⟩ := zrm hF
   refine zL hO (zmQ o D f5) rfl fun _ σ _ _ hO b6 f6 => ?_
   have hL := hL.trans b6
   have o := o.le b6
   have D := D.le b6
   have q := q.le b6
   have z := z.le b6
   have G := G.le b6
   have I := I.le b6
   obtain ⟨rfl, rfl⟩ := f6
   have hO := zrl2 hO
   refine zd hO 1 [] [(66, .bool (!f4))] [0, 1, 5, 6, 7, 60] zq6 fun j => ?_
   refine zW (zri b9) ?_
   refine zf ?_
   cases hF
   refine zg ?_
   exact ⟨rfl, _, zrf zq4, hO, hL, o, q, z, D, G, I⟩
  rintro e σ ⟨_, hA, hO, hL, o, q, z, D, G, I⟩
  rw [← zV _ _ hA]
  refine zd hO 1 [] [(68, .bool d5)] [0, 1, 5, 6, 7] zq5 fun j => ?_
  obtain ⟨d6, f7, hF⟩ := zrm hF
  refine zcA 2 (fun e' σ' => ∃ (τ' : Hp), agr [(75, .bool d6), (0, zrn A0 p0 c0), (1, zrn A1 p1 c1), (5, zrg S), (6, zrh c4), (7, zrh c5)] e' ∧ Obs τ' σ' [zbP c4 (g.Kind.toNat : Int) g.Point g.Var g.Field g.Call (zrn U g.Kids V) (zrn W g.Body X) (zrn Y g.Else Z), zbP c5 (h.Kind.toNat : Int) h.Point h.Var h.Field h.Call (zrn b0 h.Kids b1) (zrn b2 h.Body b3) (zrn b4 h.Else b5)] ∧ Hp.le τ τ' ∧ RdT zR τ' (zrn U g.Kids V) g.Kids ∧ RdT zN τ' (zrn W g.Body X) g.Body ∧ RdT zN τ' (zrn Y g.Else Z) g.Else ∧ RdT zR τ' (zrn b0 h.Kids b1) h.Kids ∧ RdT zN τ' (zrn b2 h.Body b3) h.Body ∧ RdT zN τ' (zrn b4 h.Else b5) h.Else) ?_ ?_
  ·have hF := f7
   rcases zbL hF with ⟨c2, hF⟩ | ⟨c2, hF⟩
   ·refine zbz (zrj c2) ?_
    refine zW (zri c2) ?_
    refine zf ?_
    cases hF
    refine zg ?_
    exact ⟨rfl, _, zrf zq4, hO, hL, o, q, z, D, G, I⟩
   refine zbn (zrj c2) ?_
   refine zd hO 4 [0, 1] [(70, zrn W g.Body X), (72, zrn b2 h.Body b3)] [0, 1, 5, 6, 7, 68] (And.intro (And.intro rfl rfl) (And.intro (And.intro rfl rfl) zq7)) fun j => ?_
   obtain ⟨f8, f9, hF⟩ := zrm hF
   refine zL hO (ih_ref13_SameActs q G f9) rfl fun _ σ _ _ hO b7 g0 => ?_
   have hL := hL.trans b7
   have q := q.le b7
   have G := G.le b7
   have o := o.le b7
   have z := z.le b7
   have D := D.le b7
   have I := I.le b7
   obtain ⟨rfl, rfl⟩ := g0
   have hO := zrl2 hO
   refine zd hO 1 [] [(74, .bool (!f8))] [0, 1, 5, 6, 7, 68] zq6 fun j => ?_
   refine zW (zri c2) ?_
   refine zf ?_
   cases hF
   refine zg ?_
   exact ⟨rfl, _, zrf zq4, hO, hL, o, q, z, D, G, I⟩
  rintro e σ ⟨_, hA, hO, hL, o, q, z, D, G, I⟩
  rw [← zV _ _ hA]
  refine zd hO 1 [] [(76, .bool d6)] [0, 1, 5, 6, 7] zq5 fun j => ?_
  obtain ⟨g1, g2, hF⟩ := zrm hF
  refine zcA 2 (fun e' σ' => ∃ (τ' : Hp), agr [(83, .bool g1), (0, zrn A0 p0 c0), (1, zrn A1 p1 c1), (5, zrg S)] e' ∧ Obs τ' σ' [zbP c4 (g.Kind.toNat : Int) g.Point g.Var g.Field g.Call (zrn U g.Kids V) (zrn W g.Body X) (zrn Y g.Else Z), zbP c5 (h.Kind.toNat : Int) h.Point h.Var h.Field h.Call (zrn b0 h.Kids b1) (zrn b2 h.Body b3) (zrn b4 h.Else b5)] ∧ Hp.le τ τ' ∧ RdT zR τ' (zrn U g.Kids V) g.Kids ∧ RdT zN τ' (zrn W g.Body X) g.Body ∧ RdT zN τ' (zrn Y g.Else Z) g.Else ∧ RdT zR τ' (zrn b0 h.Kids b1) h.Kids ∧ RdT zN τ' (zrn b2 h.Body b3) h.Body ∧ RdT zN τ' (zrn b4 h.Else b5) h.Else) ?_ ?_
  ·have hF := g2
   rcases zbL hF with ⟨c3, hF⟩ | ⟨c3, hF⟩
   ·refine zbz (zrj c3) ?_
    refine zW (zri c3) ?_
    refine zf ?_
    cases hF
    refine zg ?_
    exact ⟨rfl, _, zrf zq2, hO, hL, o, q, z, D, G, I⟩
   refine zbn (zrj c3) ?_
   refine zd hO 4 [0, 1] [(78, zrn Y g.Else Z), (80, zrn b4 h.Else b5)] [0, 1, 5, 76] (And.intro (And.intro rfl rfl) (And.intro (And.intro rfl rfl) zq5)) fun j => ?_
   obtain ⟨g3, g4, hF⟩ := zrm hF
   refine zL hO (ih_ref13_SameActs z I g4) rfl fun _ σ _ _ hO b8 g5 => ?_
   have hL := hL.trans b8
   have z := z.le b8
   have I := I.le b8
   have o := o.le b8
   have q := q.le b8
   have D := D.le b8
   have G := G.le b8
   obtain ⟨rfl, rfl⟩ := g5
   have hO := zrl2 hO
   refine zd hO 1 [] [(82, .bool (!g3))] [0, 1, 5, 76] zq4 fun j => ?_
   refine zW (zri c3) ?_
   refine zf ?_
   cases hF
   refine zg ?_
   exact ⟨rfl, _, zrf zq2, hO, hL, o, q, z, D, G, I⟩
  rintro e σ ⟨_, hA, hO, hL, o, q, z, D, G, I⟩
  rw [← zV _ _ hA]
  refine zf (zbC (zy hF rfl (fun hF => ?_) fun hF => ?_))
  ·refine zl (zA hO [] [(4, .bool false)] zq0 fun j => ?_)
   refine zbt (zbo (zbc (zbc (zbo (zbc ?_)))))
   cases hF
   have hO := hO.sel []
   exact hQ _ _ _ _ _ rfl hO hL ⟨rfl, rfl⟩
  refine zF (zg (z3 (zk (zbd (ze hO [] [(5, zrg (IntKind.i64.wrap (S + 1)))] [0, 1] zq2 fun j => ?_)))))
  refine zg (zk ?_)
  have hO := hO.sel []
  exact ⟨c6, Nat.lt_succ_self _, (IntKind.i64.wrap (S + 1)), _, zrf zq1, hO, hL, hF⟩
 refine zbF (zbB (zbD (zk (zA hO [] [(4, .bool true)] zq0 fun j => ?_))))
 refine zba ?_
 cases hF
 exact hQ _ _ _ _ _ rfl hO hL ⟨rfl, rfl⟩
theorem zoh (n : Nat) : zkh n := by
 induction n with
 | zero =>
  intro τ j p0 o p1 g h rr hF; exact nomatch (show none = some rr from hF)
 | succ n ih =>
  intro τ j p0 o p1 g h rr hF; exact zp8 ih g h hF
theorem zqN : ∀ {τ : Hp} {g : Value} {p0 : (List zh)} {h : Value} {p1 : (List zh)} (j : RdT zN τ g p0) (o : RdT zN τ h p1) {rr : Bool} (hF : zid p0 p1 = some rr), Ctr Try.prog 18 #[g, h] τ [] (fun v τ' vs' => v = .bool rr ∧ vs' = []) := (zoh big)
theorem zmR {τ : Hp} {S : Value} {p0 : (List Int)} {U : Value} {p1 : (List Int)} (V : RdT (Ty.int .i64) τ S p0) (W : RdT (Ty.int .i64) τ U p1) {rr : Bool} (hF : zgd p0 p1 = some rr) :
  Ctr Try.prog 42 #[S, U] τ [] (fun v τ' vs' => v = .bool rr ∧ vs' = []) := by
 obtain ⟨z, D, rfl, -⟩ := V.form
 obtain ⟨G, I, rfl, -⟩ := W.form
 refine zbi (args := [.slice z p0.length D, .slice G p1.length I]) hm Try.func42 s42 rfl fun w0 σ hO Q hQ => ?_
 unfold zgd at hF
 have hL := Hp.le.refl τ
 show wpn _ _ a42.body _ _ _
 unfold a42
 dsimp only
 refine ze hO [] [] [0, 1] zq1 fun j => ?_
 refine zl (ze hO [] [(10, .bool ((p0.length : Int) != (p1.length : Int)))] [0, 1] zq2 fun j => ?_)
 refine zy hF rfl (fun hF => ?_) fun hF => ?_
 ·refine zl (zA hO [] [(4, .bool false)] zq0 fun j => ?_)
  refine zbt ?_
  cases hF
  exact hQ _ _ _ _ _ rfl hO hL ⟨rfl, rfl⟩
 refine zF (zl (ze hO [] [(5, zrg 0)] [0, 1] zq2 fun j => ?_))
 refine zY (zbH (fun (n : Nat) e' σ' => ∃ (g : Int) (τ' : Hp), agr [(0, zrn z p0 D), (1, zrn G p1 I), (5, zrg g)] e' ∧ Obs τ' σ' [] ∧ Hp.le τ τ' ∧ zeY p0 p1 n g = some rr) big ⟨0, _, zrf zq1, hO, hL, hF⟩ ?_)
 clear hF hO hL
 rintro h e σ ⟨g, _, hA, hO, hL, hF⟩
 rw [← zV _ _ hA]
 cases h with
 | zero => exact nomatch (show none = some rr from hF)
 | succ h =>
 replace hF : zd7 (zeY p0 p1 h) p0 p1 g = some rr := hF
 unfold zd7 at hF
 refine zl (ze hO [] [(14, .bool (decide (g < (p0.length : Int))))] [0, 1, 5] zq3 fun j => ?_)
 refine zy hF rfl (fun hF => ?_) fun hF => ?_
 ·refine zF (zY (zcw (zd hO 2 [] [(17, zrn z p0 D), (18, zrg g)] [0, 1, 5] zq4 fun j => ?_)))
  obtain ⟨o, X, hF⟩ := zrm hF
  refine zO (T := (Ty.int .i64)) (V.le hL) hO.base rfl rfl X (by decide) fun a33 _ Y Z => ?_
  obtain rfl : _ = ([.int .i64 o] : List Value) := Y
  refine zE rfl (Z.le hO.base).fst ?_
  refine zd hO 2 [] [(21, zrn G p1 I), (22, zrg g)] [0, 1, 5, 20] zq5 fun j => ?_
  obtain ⟨q, b0, hF⟩ := zrm hF
  refine zO (T := (Ty.int .i64)) (W.le hL) hO.base rfl rfl b0 (by decide) fun a38 _ b1 b2 => ?_
  obtain rfl : _ = ([.int .i64 q] : List Value) := b1
  refine zE rfl (b2.le hO.base).fst ?_
  refine ze hO [] [(25, .bool (o != q))] [0, 1, 5] zq3 fun j => ?_
  refine zbC (zy hF rfl (fun hF => ?_) fun hF => ?_)
  ·refine zl (zA hO [] [(4, .bool false)] zq0 fun j => ?_)
   refine zbt (zbo (zbc (zbc (zbo (zbc ?_)))))
   cases hF
   exact hQ _ _ _ _ _ rfl hO hL ⟨rfl, rfl⟩
  refine zF (zg (z3 (zk (zbd (ze hO [] [(5, zrg (IntKind.i64.wrap (g + 1)))] [0, 1] zq2 fun j => ?_)))))
  refine zg (zk ?_)
  exact ⟨h, Nat.lt_succ_self _, (IntKind.i64.wrap (g + 1)), _, zrf zq1, hO, hL, hF⟩
 refine zbF (zbB (zbD (zk (zA hO [] [(4, .bool true)] zq0 fun j => ?_))))
 refine zba ?_
 cases hF
 exact hQ _ _ _ _ _ rfl hO hL ⟨rfl, rfl⟩
theorem zm4 {τ : Hp} {v0 : Value} {p0 : (List zH)} {v1 : Value} {p1 : (List zH)} (r0 : RdT zo τ v0 p0) (r1 : RdT zo τ v1 p1) {rr : Bool} (hF : zfd p0 p1 = some rr) :
  Ctr Try.prog 24 #[v0, v1] τ [] (fun v τ' vs' => v = .bool rr ∧ vs' = []) := by
 obtain ⟨q, z, rfl, -⟩ := r0.form
 obtain ⟨D, G, rfl, -⟩ := r1.form
 refine zbi (args := [.slice q p0.length z, .slice D p1.length G]) hm Try.func24 s24 rfl fun w0 σ hO Q hQ => ?_
 unfold zfd at hF
 have hL := Hp.le.refl τ
 show wpn _ _ a24.body _ _ _
 unfold a24
 dsimp only
 refine ze hO [] [] [0, 1] zq1 fun j => ?_
 refine zl (ze hO [] [(10, .bool ((p0.length : Int) != (p1.length : Int)))] [0, 1] zq2 fun j => ?_)
 refine zy hF rfl (fun hF => ?_) fun hF => ?_
 ·refine zl (zA hO [] [(4, .bool false)] zq0 fun j => ?_)
  refine zbt ?_
  cases hF
  exact hQ _ _ _ _ _ rfl hO hL ⟨rfl, rfl⟩
 refine zF (zl (ze hO [] [(5, zrg 0)] [0, 1] zq2 fun j => ?_))
 refine zY (zbH (fun (n : Nat) e' σ' => ∃ (g : Int) (τ' : Hp), agr [(0, zrn q p0 z), (1, zrn D p1 G), (5, zrg g)] e' ∧ Obs τ' σ' [] ∧ Hp.le τ τ' ∧ ze6 p0 p1 n g = some rr) big ⟨0, _, zrf zq1, hO, hL, hF⟩ ?_)
 clear hF hO hL
 rintro I e σ ⟨g, _, hA, hO, hL, hF⟩
 rw [← zV _ _ hA]
 cases I with
 | zero => exact nomatch (show none = some rr from hF)
 | succ I =>
 replace hF : zes (ze6 p0 p1 I) p0 p1 g = some rr := hF
 unfold zes at hF
 refine zl (ze hO [] [(14, .bool (decide (g < (p0.length : Int))))] [0, 1, 5] zq3 fun j => ?_)
 refine zy hF rfl (fun hF => ?_) fun hF => ?_
 ·refine zF (zY (zcw (zd hO 2 [] [(17, zrn q p0 z), (18, zrg g)] [0, 1, 5] zq4 fun j => ?_)))
  obtain ⟨Y, b3, hF⟩ := zrm hF
  refine zO (T := zo) (r0.le hL) hO.base rfl rfl b3 (by decide) fun a141 _ b4 b5 => ?_
  obtain ⟨f9, rfl, b6⟩ := b4
  obtain ⟨g0, g1, rfl, -⟩ := b6.form
  refine zd hO 1 [] [(20, .pointer (some a141))] [0, 1, 5] zq3 fun j => ?_
  refine zE rfl (b5.le hO.base).fst ?_
  refine zd hO 2 [] [(22, zrn D p1 G), (23, zrg g)] [0, 1, 5, 21] zq5 fun j => ?_
  obtain ⟨Z, b7, hF⟩ := zrm hF
  refine zO (T := zo) (r1.le hL) hO.base rfl rfl b7 (by decide) fun a150 _ b8 b9 => ?_
  obtain ⟨g2, rfl, c2⟩ := b8
  obtain ⟨g3, g4, rfl, -⟩ := c2.form
  refine zd hO 1 [] [(25, .pointer (some a150))] [0, 1, 5, 21] zq4 fun j => ?_
  refine zE rfl (b9.le hO.base).fst ?_
  refine zd hO 2 [] [(28, .bool (Y.Func != Z.Func))] [0, 1, 5] zq3 fun j => ?_
  obtain ⟨W, c3, hF⟩ := zrm hF
  refine zdF 2 [(40, .bool W), (0, zrn q p0 z), (1, zrn D p1 G), (5, zrg g)] (fun Q hQ => ?_) fun j => ?_
  ·have hF := c3
   rcases zbL hF with ⟨h, hF⟩ | ⟨h, hF⟩
   ·refine zbz (zrj h) ?_
    refine zW (zri h) ?_
    refine zf ?_
    cases hF
    refine zg ?_
    exact hQ _ zq3
   refine zbn (zrj h) ?_
   refine zd hO 2 [] [(29, zrn q p0 z), (30, zrg g)] [0, 1, 5, 28] zq5 fun j => ?_
   obtain ⟨b0, c4, hF⟩ := zrm hF
   refine zO (T := zo) (r0.le hL) hO.base rfl rfl c4 (by decide) fun a162 _ c5 c6 => ?_
   obtain ⟨g5, rfl, c7⟩ := c5
   obtain ⟨g6, g7, rfl, -⟩ := c7.form
   refine zd hO 1 [] [(32, .pointer (some (a162.add 1)))] [0, 1, 5, 28] zq4 fun j => ?_
   refine zE rfl ((c6.le hO.base).one 1 rfl) ?_
   refine zK hO 2 [] [(0, zrn q p0 z), (1, zrn D p1 G), (5, zrg g), (28, .bool (Y.Func != Z.Func)), (33, zrg b0.Line), (34, zrn D p1 G), (35, zrg g)] zq6 fun j => ?_
   obtain ⟨c8, c9, hF⟩ := zrm hF
   refine zO (T := zo) (r1.le hL) hO.base rfl rfl c9 (by decide) fun a171 _ d0 d5 => ?_
   obtain ⟨g8, rfl, d6⟩ := d0
   obtain ⟨g9, h0, rfl, -⟩ := d6.form
   refine zd hO 1 [] [(37, .pointer (some (a171.add 1)))] [0, 1, 5, 28, 33] zq5 fun j => ?_
   refine zE rfl ((d5.le hO.base).one 1 rfl) ?_
   refine zd hO 1 [] [(39, .bool (b0.Line != c8.Line))] [0, 1, 5, 28] zq4 fun j => ?_
   refine zW (zri h) ?_
   refine zf ?_
   cases hF
   refine zg ?_
   exact hQ _ zq3
  refine zd hO 1 [] [(41, .bool W)] [0, 1, 5] zq3 fun j => ?_
  obtain ⟨d7, d8, hF⟩ := zrm hF
  refine zcA 2 (fun e' σ' => ∃ (τ' : Hp), agr [(54, .bool d7), (0, zrn q p0 z), (1, zrn D p1 G), (5, zrg g)] e' ∧ Obs τ' σ' [] ∧ Hp.le τ τ') ?_ ?_
  ·have hF := d8
   rcases zbL hF with ⟨o, hF⟩ | ⟨o, hF⟩
   ·refine zbz (zrj o) ?_
    refine zW (zri o) ?_
    refine zf ?_
    cases hF
    refine zg ?_
    exact ⟨rfl, _, zrf zq2, hO, hL⟩
   refine zbn (zrj o) ?_
   refine zd hO 2 [] [(42, zrn q p0 z), (43, zrg g)] [0, 1, 5, 41] zq5 fun j => ?_
   obtain ⟨h1, d9, hF⟩ := zrm hF
   refine zO (T := zo) (r0.le hL) hO.base rfl rfl d9 (by decide) fun a183 _ f0 f1 => ?_
   obtain ⟨h2, rfl, S⟩ := f0
   obtain ⟨h3, h4, rfl, -⟩ := S.form
   refine zK hO 1 [] [(0, zrn q p0 z), (1, zrn D p1 G), (5, zrg g), (41, .bool W), (45, .pointer (some (a183.add 2)))] zq4 fun j => ?_
   refine zE rfl ((f1.le hO.base).one 2 rfl) ?_
   refine zd hO 2 [] [(47, zrn D p1 G), (48, zrg g)] [0, 1, 5, 41, 46] zq6 fun j => ?_
   obtain ⟨h5, f2, hF⟩ := zrm hF
   refine zO (T := zo) (r1.le hL) hO.base rfl rfl f2 (by decide) fun a192 _ f3 X => ?_
   obtain ⟨h6, rfl, U⟩ := f3
   obtain ⟨h7, h8, rfl, -⟩ := U.form
   refine zd hO 1 [] [(50, .pointer (some (a192.add 2)))] [0, 1, 5, 41, 46] zq5 fun j => ?_
   refine zE rfl ((X.le hO.base).one 2 rfl) ?_
   obtain ⟨f4, f5, hF⟩ := zrm hF
   refine zL hO (zmR S U f5) rfl fun _ σ _ _ hO V f6 => ?_
   have hL := hL.trans V
   have S := S.le V
   have X := X.le V
   have U := U.le V
   obtain ⟨rfl, rfl⟩ := f6
   have hO : Obs _ _ [] := hO
   refine zd hO 1 [] [(53, .bool (!f4))] [0, 1, 5, 41] zq4 fun j => ?_
   refine zW (zri o) ?_
   refine zf ?_
   cases hF
   refine zg ?_
   exact ⟨rfl, _, zrf zq2, hO, hL⟩
  rintro e σ ⟨_, hA, hO, hL⟩
  rw [← zV _ _ hA]
  refine zf (zbC (zy hF rfl (fun hF => ?_) fun hF => ?_))
  ·refine zl (zA hO [] [(4, .bool false)] zq0 fun j => ?_)
   refine zbt (zbo (zbc (zbc (zbo (zbc ?_)))))
   cases hF
   exact hQ _ _ _ _ _ rfl hO hL ⟨rfl, rfl⟩
  refine zF (zg (z3 (zk (zbd (ze hO [] [(5, zrg (IntKind.i64.wrap (g + 1)))] [0, 1] zq2 fun j => ?_)))))
  refine zg (zk ?_)
  exact ⟨I, Nat.lt_succ_self _, (IntKind.i64.wrap (g + 1)), _, zrf zq1, hO, hL, hF⟩
 refine zbF (zbB (zbD (zk (zA hO [] [(4, .bool true)] zq0 fun j => ?_))))
 refine zba ?_
 cases hF
 exact hQ _ _ _ _ _ rfl hO hL ⟨rfl, rfl⟩
end Go.Proofs.Ytakcaekikfcbpaa
