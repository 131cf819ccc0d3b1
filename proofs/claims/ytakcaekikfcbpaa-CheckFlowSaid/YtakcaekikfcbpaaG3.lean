import Derived.Test.YtakcaekikfcbpaaG2
namespace Go.Proofs.Ytakcaekikfcbpaa
open Go.Ab Go.RowKit
set_option linter.unusedVariables false
set_option linter.unusedSimpArgs false
set_option maxRecDepth 10000
set_option maxHeartbeats 1000000
theorem zl6 {v : Value} {k : Int} (h : zc0 v = some k) : v = .iface 134 (.int .i64 k) := by
 unfold zc0 at h
 split at h
 ·injection h with h
  rw [h]
 ·cases h
def zeT : zR := (.seq (.reg [.s ⟨(some 6), .mv (.t 1), []⟩,
 .s ⟨(some 7), .tas 134 ((.int .i64 0)) (.t 6), []⟩,
 .s ⟨(some 5), .mv (.t 7), []⟩,
 .s ⟨(some 8), .ext 0 (.t 5), []⟩,
 .s ⟨(some 9), .ext 1 (.t 5), []⟩,
 .s ⟨(some 2), .mv (.t 8), []⟩,
 .s ⟨(some 3), .mv (.t 9), []⟩])
(.seq (.reg [.s ⟨(some 10), .mv (.t 3), []⟩])
(.cond (.t 10) (.reg [.s ⟨(some 11), .mv (.t 2), []⟩,
 .s ⟨none, .store 1 (.t 0) (.t 11), []⟩])
(.seq (.reg [.s ⟨(some 12), .mv (.t 1), []⟩,
 .s ⟨(some 13), .inil true (.t 12), []⟩])
(.cond (.t 13) (.reg [.s ⟨(some 14), .mv (.t 1), []⟩,
 .s ⟨none, .pan (.t 14), []⟩])
.skip)))))
def a50 : zgj := ⟨15, 4, 1, zeT⟩
theorem s50 : zgH Try.prog Try.f50 = some a50.fn := by kernel_rfl
def zhR : zR := (.seq (.seq (.reg [.s ⟨(some 8), .mv (.t 0), []⟩,
 .s ⟨(some 9), .nilchk (.t 8), []⟩,
 .s ⟨(some 10), .faddr 0 (.t 9), []⟩,
 .s ⟨(some 11), .faddr 0 (.t 10), []⟩,
 .s ⟨(some 12), .load false 1 (.t 11), []⟩,
 .s ⟨(some 13), .lenL (.t 12), []⟩,
 .s ⟨(some 14), .mv (.c (.int .i64 0)), []⟩])
(.block 0 (.loop (.seq (.reg [.s ⟨(some 15), .bin .lss (.t 14) (.t 13), []⟩])
(.seq (.cond (.t 15) .skip
(.exit 0))
(.seq (.block 1 (.seq (.reg [.s ⟨(some 16), .mv (.t 14), []⟩,
 .s ⟨(some 4), .mv (.t 16), []⟩])
(.seq (.reg [.s ⟨(some 17), .mv (.t 0), []⟩,
 .s ⟨(some 18), .mv (.t 4), []⟩,
 .s ⟨(some 19), .call 51 [(.t 17), (.t 18)], []⟩])
(.reg [.s ⟨(some 20), .mv (.t 2), []⟩,
 .s ⟨(some 21), .bin .add (.t 20) (.c (.int .i64 1)), []⟩,
 .s ⟨(some 2), .mv (.t 21), []⟩]))))
(.reg [.s ⟨(some 22), .bin .add (.t 14) (.c (.int .i64 1)), []⟩,
 .s ⟨(some 14), .mv (.t 22), []⟩])))))))
(.seq (.seq (.reg [.s ⟨(some 23), .mv (.t 0), []⟩,
 .s ⟨(some 24), .nilchk (.t 23), []⟩,
 .s ⟨(some 25), .faddr 0 (.t 24), []⟩,
 .s ⟨(some 26), .faddr 1 (.t 25), []⟩,
 .s ⟨(some 27), .load false 1 (.t 26), []⟩,
 .s ⟨(some 28), .lenL (.t 27), []⟩,
 .s ⟨(some 29), .mv (.c (.int .i64 0)), []⟩])
(.block 2 (.loop (.seq (.reg [.s ⟨(some 30), .bin .lss (.t 29) (.t 28), []⟩])
(.seq (.cond (.t 30) .skip
(.exit 2))
(.seq (.block 3 (.seq (.reg [.s ⟨(some 31), .mv (.t 29), []⟩,
 .s ⟨(some 5), .mv (.t 31), []⟩])
(.seq (.reg [.s ⟨(some 32), .mv (.t 0), []⟩,
 .s ⟨(some 33), .mv (.t 5), []⟩,
 .s ⟨(some 34), .call 52 [(.t 32), (.t 33)], []⟩])
(.reg [.s ⟨(some 35), .mv (.t 2), []⟩,
 .s ⟨(some 36), .bin .add (.t 35) (.c (.int .i64 1)), []⟩,
 .s ⟨(some 2), .mv (.t 36), []⟩]))))
(.reg [.s ⟨(some 37), .bin .add (.t 29) (.c (.int .i64 1)), []⟩,
 .s ⟨(some 29), .mv (.t 37), []⟩])))))))
(.seq (.reg [.s ⟨(some 38), .mv (.t 0), []⟩,
 .s ⟨(some 39), .mv (.t 0), []⟩,
 .s ⟨(some 40), .call 53 [(.t 39), (.c (.string znm))], []⟩,
 .s ⟨(some 41), .nilchk (.t 38), []⟩,
 .s ⟨(some 42), .faddr 2 (.t 41), []⟩,
 .s ⟨(some 43), .faddr 1 (.t 42), []⟩,
 .s ⟨none, .store 1 (.t 43) (.t 40), []⟩])
(.seq (.reg [.s ⟨(some 44), .mv (.t 0), []⟩,
 .s ⟨(some 45), .nilchk (.t 44), []⟩,
 .s ⟨(some 46), .faddr 2 (.t 45), []⟩,
 .s ⟨(some 47), .faddr 1 (.t 46), []⟩,
 .s ⟨(some 48), .load false 1 (.t 47), []⟩,
 .s ⟨(some 49), .bin .geq (.t 48) (.c (.int .i64 0)), []⟩,
 .s ⟨(some 50), .call 54 [(.t 49), (.c (.int .i64 8))], []⟩])
(.seq (.par [.s ⟨(some 51), .mv (.t 0), []⟩,
 .s ⟨(some 52), .nilchk (.t 51), []⟩,
 .s ⟨(some 53), .faddr 0 (.t 52), []⟩,
 .s ⟨(some 54), .faddr 1 (.t 53), []⟩,
 .s ⟨(some 55), .load false 1 (.t 54), []⟩,
 .s ⟨(some 56), .mv (.t 0), []⟩,
 .s ⟨(some 57), .nilchk (.t 56), []⟩,
 .s ⟨(some 58), .faddr 2 (.t 57), []⟩,
 .s ⟨(some 59), .faddr 1 (.t 58), []⟩,
 .s ⟨(some 60), .load false 1 (.t 59), []⟩,
 .s ⟨(some 61), .idx 7 (.t 55) (.t 60), []⟩,
 .s ⟨(some 62), .load true 7 (.t 61), []⟩,
 .s ⟨(some 6), .alloc 53 [(.string znk), (.int .i64 0), (.slice none 0 0), (.int .u8 0), (.int .i64 0), (.string znk), (.slice none 0 0)], [⟨none, (some 62), .load true 7 (.t 61)⟩, ⟨none, (some 60), .load false 1 (.t 59)⟩, ⟨none, (some 55), .load false 1 (.t 54)⟩]⟩,
 .s ⟨none, .store 7 (.t 6) (.t 62), []⟩])
(.seq (.reg [.s ⟨(some 63), .faddr 2 (.t 6), []⟩,
 .s ⟨(some 64), .load false 1 (.t 63), []⟩,
 .s ⟨(some 65), .lenL (.t 64), []⟩,
 .s ⟨(some 66), .bin .eql (.t 65) (.c (.int .i64 0)), []⟩,
 .s ⟨(some 67), .mv (.t 66), []⟩,
 .g 67 true [⟨(some 68), .faddr 3 (.t 6), []⟩,
 ⟨(some 69), .faddr 0 (.t 68), []⟩,
 ⟨(some 70), .load false 1 (.t 69), []⟩,
 ⟨(some 71), .bin .eql (.t 70) (.c (.int .u8 0)), []⟩],
 .s ⟨(some 72), .pick (.t 67) (.t 71) (.c (.bool false)), []⟩,
 .s ⟨(some 73), .call 54 [(.t 72), (.c (.int .i64 8))], []⟩])
(.seq (.reg [.s ⟨(some 74), .mv (.t 2), []⟩,
 .s ⟨(some 2), .mv (.t 74), []⟩,
 .s ⟨none, .store 1 (.t 3) (.c (.int .i64 0)), []⟩])
.ret)))))))
def a34 : zex := ⟨75, [.t 2, .c 3 false 1], (.pre (.reg [.s ⟨(some 2), .mv (.c (.int .i64 0)), []⟩,
 .s ⟨(some 3), .alloc 35 [(.int .i64 0)], []⟩])
(.dfr [.s ⟨(some 7), .mkfn (.func 50) [] [(.t 3)], []⟩] 7 [] zhR))⟩
theorem s34 : zfw Try.prog [3] Try.f34 = some a34.fn := by kernel_rfl
theorem zlz {w0 : Base} {g : Nat} {h : Int} {τ σ : Hp} {k o q v : Ob} (hO : Obs τ σ [k, o, q, v, some (g, ⟨[.int .i64 h], 35, 1, true⟩)]) :
  zbU Try.prog w0 50 #[.pointer (some ⟨g, 0, none⟩)] .returning σ fun u' σ' => settle u' = .returning ∧ Obs τ σ' [k, o, q, v, some (g, ⟨[.int .i64 h], 35, 1, true⟩)] := by
 refine zji (args := [.pointer (some ⟨g, 0, none⟩)]) hm Try.func50 s50 rfl ?_
 show wpn _ _ zeT _ _ _
 unfold zeT
 refine zz hO [] [(1, .nilIface), (3, .bool false)] ⟨rfl, rfl, trivial⟩ fun j => ?_
 refine zz hO [] [(1, .nilIface), (10, .bool false)] ⟨rfl, rfl, trivial⟩ fun j => ?_
 refine zbu (zeQ rfl ?_)
 refine zl (zz hO [] [(13, .bool false)] ⟨rfl, trivial⟩ fun j => ?_)
 refine zeQ rfl ?_
 refine zI (zh ?_)
 exact ⟨.inr rfl, rfl, hO⟩
theorem zmU {w0 : Base} {g : Nat} {B k : Int} {τ σ : Hp} {h o q z : Ob} (hO : Obs τ σ [h, o, q, z, some (g, ⟨[.int .i64 B], 35, 1, true⟩)]) :
  zbU Try.prog w0 50 #[.pointer (some ⟨g, 0, none⟩)] (.panicking [{ v := .iface 134 (.int .i64 k), recovered := false }]) σ fun u' σ' => settle u' = .returning ∧ Obs τ σ' [h, o, q, z, some (g, ⟨[.int .i64 k], 35, 1, true⟩)] := by
 refine zji (args := [.pointer (some ⟨g, 0, none⟩)]) hm Try.func50 s50 rfl ?_
 show wpn _ _ zeT _ _ _
 unfold zeT
 refine zz hO [] [(0, znN g), (2, znM k), (3, .bool true)] ⟨rfl, rfl, rfl, trivial⟩ fun j => ?_
 refine zz hO [] [(0, znN g), (2, znM k), (10, .bool true)] ⟨rfl, rfl, rfl, trivial⟩ fun j => ?_
 refine zbu (zfF rfl ?_)
 refine zF hO 1 [] [(0, znN g), (11, znM k)] ⟨rfl, rfl, trivial⟩ fun j => ?_
 refine zy hO (i := 4) rfl (off := 0) rfl rfl rfl rfl (Nat.le_of_ble_eq_true rfl) rfl fun σ hO => ?_
 refine zf (zh ?_)
 exact ⟨.inr rfl, rfl, hO⟩
section
variable {P : Program} {w0 : Base} {Q : Exit → Env → Hp → Prop} {e : Env} {σ : Hp}
theorem zmg {l : List XI} (h : wpn P w0 (.seq (.reg l) .skip) Q e σ) : wpn P w0 (.par l) Q e σ := h
end
theorem zky {w0 : Base} {g : Nat} {j : Int} {τ σ : Hp} {k o q v : Ob} (hO : Obs τ σ [some (g, ⟨[.int .i64 j], 35, 1, true⟩), k, o, q, v]) :
  zbU Try.prog w0 50 #[.pointer (some ⟨g, 0, none⟩)] .returning σ fun u' σ' => settle u' = .returning ∧ Obs τ σ' [some (g, ⟨[.int .i64 j], 35, 1, true⟩), k, o, q, v] :=
 (zlz (hO.sel [1, 2, 3, 4, 0])).mono fun u' σ' h => ⟨h.1, h.2.sel [4, 0, 1, 2, 3]⟩
theorem zlZ {w0 : Base} {U : Nat} {W k : Int} {τ σ : Hp} {E G I S : Ob} (hO : Obs τ σ [some (U, ⟨[.int .i64 W], 35, 1, true⟩), E, G, I, S]) :
  zbU Try.prog w0 50 #[.pointer (some ⟨U, 0, none⟩)] (.panicking [{ v := .iface 134 (.int .i64 k), recovered := false }]) σ fun u' σ' => settle u' = .returning ∧ Obs τ σ' [some (U, ⟨[.int .i64 k], 35, 1, true⟩), E, G, I, S] :=
 (zmU (hO.sel [1, 2, 3, 4, 0])).mono fun u' σ' h => ⟨h.1, h.2.sel [4, 0, 1, 2, 3]⟩
def wK (V : Nat) (q : zb) (τ' : Hp) (E G I S : Ob) : Prop := ∃ (g j o z B D : Value), E = zk V g j o q.tree.Main z q.fn B D ∧ RdT zu τ' g q.prog.Structs ∧ RdT zr τ' j q.prog.Funcs ∧ za zo 59 τ' o q.tree.Bodies G ∧ za zp 87 τ' z q.tree.Points I ∧ RdT zn τ' B q.vars ∧ za (Ty.int .i64) 3 τ' D q.scope S
theorem zlQ {τ : Hp} {q0 : zb} {g : Nat} {f5 f6 f7 : Value} {W : Ob} {f8 : Value} {X : Ob} {f9 g3 : Value} {Y : Ob} (b0 : RdT zu τ f5 q0.prog.Structs) (b1 : RdT zr τ f6 q0.prog.Funcs) (b2 : za zo 59 τ f7 q0.tree.Bodies W) (b4 : za zp 87 τ f8 q0.tree.Points X) (b5 : RdT zn τ f9 q0.vars) (b6 : za (Ty.int .i64) 3 τ g3 q0.scope Y) {rr : Int × Int × zb} (hF : zdL q0 = some rr) :
  Ctr Try.prog 34 #[.pointer (some ⟨g, 0, none⟩)] τ [zk g f5 f6 f7 q0.tree.Main f8 q0.fn f9 g3, W, X, Y] (fun v τ' vs' => ∃ (i4 i5 i6 : Value) (i7 : Ob) (i8 : Value) (i9 : Ob) (j0 j1 : Value) (j2 : Ob), v = .tuple #[.int .i64 rr.1, .int .i64 rr.2.1] ∧ vs' = [zk g i4 i5 i6 rr.2.2.tree.Main i8 rr.2.2.fn j0 j1, i7, i9, j2] ∧ RdT zu τ' i4 rr.2.2.prog.Structs ∧ RdT zr τ' i5 rr.2.2.prog.Funcs ∧ za zo 59 τ' i6 rr.2.2.tree.Bodies i7 ∧ za zp 87 τ' i8 rr.2.2.tree.Points i9 ∧ RdT zn τ' j0 rr.2.2.vars ∧ za (Ty.int .i64) 3 τ' j1 rr.2.2.scope j2) := by
 obtain ⟨b7, b8, rfl, -⟩ := b0.form
 obtain ⟨b9, c2, rfl, -⟩ := b1.form
 obtain ⟨c3, c4, rfl, -⟩ := b2.form
 obtain ⟨c5, c6, rfl, -⟩ := b4.form
 obtain ⟨c7, c8, rfl, -⟩ := b5.form
 obtain ⟨c9, d0, rfl, -⟩ := b6.form
 refine zbl.np (Kp := fun _ _ _ => False) (zjn (J := [3]) (af := a34) (args := [.pointer (some ⟨g, 0, none⟩)]) hm Try.func34 s34 rfl fun w0 σ hO Q hQ hP => ?_) (fun _ _ _ _ h => h)
 unfold zdL at hF
 have hL := Hp.le.refl τ
 show zc6 _ _ _ a34.body _ _ _
 unfold a34
 dsimp only [zc6]
 refine zbm (zF hO 1 [] [(0, znN g), (2, znM 0)] ⟨rfl, rfl, trivial⟩ fun j => ?_)
 refine zbg hO fun B σ hO => ?_
 refine zf (zh (zm ?_))
 have hO := hO.sel [4, 0, 1, 2, 3]
 have hO : Obs _ _ [some (B, ⟨[.int .i64 0], 35, 1, true⟩), zk g (.slice b7 q0.prog.Structs.length b8) (.slice b9 q0.prog.Funcs.length c2) (.slice c3 q0.tree.Bodies.length c4) q0.tree.Main (.slice c5 q0.tree.Points.length c6) q0.fn (.slice c7 q0.vars.length c8) (.slice c9 q0.scope.length d0), W, X, Y] := hO
 refine zbm (zz hO [] [(0, znN g), (2, znM 0), (3, znN B), (7, .func (.func 50) #[] #[.pointer (some ⟨B, 0, none⟩)])] ⟨rfl, rfl, rfl, rfl, trivial⟩ fun j => ?_)
 refine zh ?_
 refine ⟨rfl, 50, #[.pointer (some ⟨B, 0, none⟩)], rfl, by kernel_rfl, ?_⟩
 simp only [List.map_nil, Array.empty_append]
 have key : ∀ (e1 : Env), e1 0 = .pointer (some ⟨g, 0, none⟩) → e1 2 = .int .i64 0 → e1 3 = .pointer (some ⟨B, 0, none⟩) → zbA Try.prog w0 zhR.code (dpost Try.prog w0 [3] 50 #[.pointer (some ⟨B, 0, none⟩)] e1 Q) e1 σ := ?_
 ·exact key _ rfl rfl rfl
 intro e1 t0 t2 t3
 have hRet : ∀ (n k : Int) (q : zb) (e' : Env) (σ' τ' : Hp) (V E G I : Ob), rr = (n, k, q) → wK g q τ' V E G I → Hp.le τ τ' → Obs τ' σ' [some (B, ⟨[.int .i64 k], 35, 1, true⟩), V, E, G, I] → e' 2 = .int .i64 n → e' 3 = .pointer (some ⟨B, 0, none⟩) → Q .ret e' σ' := by
  rintro n k q e' σ' τ' V E G I rfl ⟨u0, u1, u2, u4, u6, u7, rfl, h0, S, U, Z, h6, h7⟩ hle hO h2' h3'
  refine hQ e' σ' [.int .i64 n, .int .i64 k] τ' _ ?_ (hO.sel [1, 2, 3, 4]) hle ⟨u0, u1, u2, E, u4, G, u6, u7, I, rfl, rfl, h0, S, U, Z, h6, h7⟩
  rw [← h2']
  exact zb2 (zbP h3' (hO.val (i := 0) rfl (off := 0) (agg := false) (n := 1) rfl) rfl)
 obtain ⟨D, hD⟩ : ∃ D, D = dpost Try.prog w0 [3] 50 #[.pointer (some ⟨B, 0, none⟩)] e1 Q := ⟨_, rfl⟩
 have hDp : ∀ (n k0 k : Int) (v : Value) (ch : List PanicEntry) (q : zb) (e' : Env) (σ' τ' : Hp) (V E G I : Ob), zc0 v = some k → ch = [{ v := v, recovered := false }] → rr = (n, k, q) → wK g q τ' V E G I → Hp.le τ τ' → Obs τ' σ' [some (B, ⟨[.int .i64 k0], 35, 1, true⟩), V, E, G, I] → e' 2 = .int .i64 n → D (.panic ch) e' σ' := by
  rintro n k0 k v ch q e' σ' τ' V E G I hs rfl hr hK hle hO h2'
  subst hD
  intro hJ
  have h3' := (hJ 3 (List.mem_cons_self ..)).trans t3
  rw [zl6 hs]
  exact (zlZ hO).mono fun u' σ'' h => .inl ⟨h.1, hRet n k q e' σ'' τ' V E G I hr hK hle h.2 h2' h3'⟩
 have hDr : ∀ (n k : Int) (q : zb) (e' : Env) (σ' τ' : Hp) (V E G I : Ob), rr = (n, k, q) → wK g q τ' V E G I → Hp.le τ τ' → Obs τ' σ' [some (B, ⟨[.int .i64 k], 35, 1, true⟩), V, E, G, I] → e' 2 = .int .i64 n → D .ret e' σ' := by
  rintro n k q e' σ' τ' V E G I hr hK hle hO h2'
  subst hD
  intro hJ
  have h3' := (hJ 3 (List.mem_cons_self ..)).trans t3
  exact (zky hO).mono fun u' σ'' h => ⟨h.1, hRet n k q e' σ'' τ' V E G I hr hK hle h.2 h2' h3'⟩
 rw [← hD]
 clear hD hRet hQ hP
 unfold zhR
 have hA : agr [(0, .pointer (some ⟨g, 0, none⟩)), (2, .int .i64 0), (3, .pointer (some ⟨B, 0, none⟩))] e1 := ⟨t0, t2, t3, trivial⟩
 rw [← zba _ _ hA]
 -- structs
 refine zbX (zbX (zco (fun _ _ => False) rfl (fun _ _ _ h => h.elim) ?_))
 refine zbm (zz hO [1] [(0, znN g), (2, znM 0), (3, znN B), (13, znM (q0.prog.Structs.length : Int)), (14, znM 0)] ⟨⟨rfl, rfl⟩, rfl, rfl, rfl, rfl, rfl, trivial⟩ fun j => ?_)
 refine zh (zm ?_)
 obtain ⟨R, hR⟩ : ∃ R, R = wS q0 big 0 0 := ⟨_, rfl⟩
 rw [← hR] at hF
 refine zfZ (lpE (fun (n : Nat) e' σ' => ∃ (z o : Int) (τ' : Hp), agr [(0, znN g), (2, znM z), (3, znN B), (13, znM (q0.prog.Structs.length : Int)), (14, znM o)] e' ∧ Obs τ' σ' [some (B, ⟨[.int .i64 0], 35, 1, true⟩), zk g (znT b7 q0.prog.Structs b8) (znT b9 q0.prog.Funcs c2) (znT c3 q0.tree.Bodies c4) q0.tree.Main (znT c5 q0.tree.Points c6) q0.fn (znT c7 q0.vars c8) (znT c9 q0.scope d0), W, X, Y] ∧ Hp.le τ τ' ∧ R = wS q0 n z o) big ⟨0, 0, _, ⟨rfl, rfl, rfl, rfl, rfl, trivial⟩, hO, hL, hR⟩ ?_)
 clear hR hO hL
 rintro k e σ ⟨z, o, τ1, hA, hO, hL, hR⟩
 rw [← zba _ _ hA]
 cases k with
 | zero =>
  rw [show R = none from hR] at hF
  cases hF
 | succ k =>
 replace hR : R = if (decide (o < (q0.prog.Structs.length : Int))) = true then (match zdg q0 o with
  | none => none
  | some (.error v) => some (.error (z, v))
  | some (.ok _) => wS q0 k (IntKind.i64.wrap (z + 1)) (IntKind.i64.wrap (o + 1))) else some (.ok z) := hR
 refine zbX (zco (fun _ _ => False) rfl (fun _ _ _ h => h.elim) ?_)
 refine zbm (zz hO [] [(0, znN g), (2, znM z), (3, znN B), (13, znM (q0.prog.Structs.length : Int)), (14, znM o), (15, .bool (decide (o < (q0.prog.Structs.length : Int))))] ⟨rfl, rfl, rfl, rfl, rfl, rfl, trivial⟩ fun j => ?_)
 refine zh (zm ?_)
 refine zbX (zim (t := decide (o < (q0.prog.Structs.length : Int))) rfl (fun ht => skE ?_) (fun ht => exE ?_))
 ·rw [if_pos ht] at hR
  refine zm ?_
  refine zbX (zfZ (zbX (zco (fun _ _ => False) rfl (fun _ _ _ h => h.elim) ?_)))
  refine zbm (zz hO [] [(0, znN g), (2, znM z), (3, znN B), (4, znM o), (13, znM (q0.prog.Structs.length : Int)), (14, znM o)] ⟨rfl, rfl, rfl, rfl, rfl, rfl, trivial⟩ fun j => ?_)
  refine zh (zm ?_)
  refine zbX (rE (fun ch σ' => ∃ (v : Value) (τ' : Hp), R = some (.error (z, v)) ∧ ch = [{ v := v, recovered := false }] ∧ Obs τ' σ' [some (B, ⟨[.int .i64 0], 35, 1, true⟩), zk g (.slice b7 q0.prog.Structs.length b8) (.slice b9 q0.prog.Funcs.length c2) (.slice c3 q0.tree.Bodies.length c4) q0.tree.Main (.slice c5 q0.tree.Points.length c6) q0.fn (.slice c7 q0.vars.length c8) (.slice c9 q0.scope.length d0), W, X, Y] ∧ Hp.le τ τ') 2 rfl ?_ ?_)
  ·rintro ch e' σ' ⟨v, τ', S, U, h3, Z⟩ he
   rw [S] at hF
   obtain ⟨kk, hk, hr⟩ := Option.map_eq_some_iff.1 hF
   exact hDp z _ kk v ch q0 e' σ' τ' _ _ _ _ hk U hr.symm ⟨_, _, _, _, _, _, rfl, b0.le Z, b1.le Z, b2.le Z, b4.le Z, b5.le Z, b6.le Z⟩ Z h3 he
  refine zF hO 2 [] [(0, znN g), (2, znM z), (3, znN B), (13, znM (q0.prog.Structs.length : Int)), (14, znM o), (17, znN g), (18, znM o)] ⟨rfl, rfl, rfl, rfl, rfl, rfl, rfl, trivial⟩ fun j => ?_
  rcases hf : zdg q0 o with _ | ⟨v | u⟩
  ·rw [hf] at hR
   rw [show R = none from hR] at hF
   cases hF
  ·rw [hf] at hR
   refine zbi (hs := [_]) hO (ziE (b0.le hL) (b1.le hL) (b2.le hL) (b4.le hL) (b5.le hL) (b6.le hL) hf) znu rfl fun _ σ τ' _ hO S U => ?_
   obtain ⟨rfl, rfl⟩ := U
   exact ⟨v, τ', hR, rfl, hO, hL.trans S⟩
  ·rw [hf] at hR
   refine zbj (hs := [_]) hO (ziE (b0.le hL) (b1.le hL) (b2.le hL) (b4.le hL) (b5.le hL) (b6.le hL) hf) znu rfl fun _ σ τ' _ hO S U => ?_
   obtain ⟨rfl, rfl⟩ := U
   have hL := hL.trans S
   have hO : Obs _ _ [some (B, ⟨[.int .i64 0], 35, 1, true⟩), zk g (.slice b7 q0.prog.Structs.length b8) (.slice b9 q0.prog.Funcs.length c2) (.slice c3 q0.tree.Bodies.length c4) q0.tree.Main (.slice c5 q0.tree.Points.length c6) q0.fn (.slice c7 q0.vars.length c8) (.slice c9 q0.scope.length d0), W, X, Y] := hO
   refine zf (zh (zm (zco (fun _ _ => False) rfl (fun _ _ _ h => h.elim) ?_)))
   refine zbm (zz hO [] [(0, znN g), (2, znM (IntKind.i64.wrap (z + 1))), (3, znN B), (13, znM (q0.prog.Structs.length : Int)), (14, znM o)] ⟨rfl, rfl, rfl, rfl, rfl, trivial⟩ fun j => ?_)
   refine zh (z9 (zm (zco (fun _ _ => False) rfl (fun _ _ _ h => h.elim) ?_)))
   refine zbm (zz hO [] [(0, znN g), (2, znM (IntKind.i64.wrap (z + 1))), (3, znN B), (13, znM (q0.prog.Structs.length : Int)), (14, znM (IntKind.i64.wrap (o + 1)))] ⟨rfl, rfl, rfl, rfl, rfl, trivial⟩ fun j => ?_)
   refine zh (zm ?_)
   exact ⟨k, Nat.lt_succ_self _, _, _, _, ⟨rfl, rfl, rfl, rfl, rfl, trivial⟩, hO, hL, hR⟩
 rw [ht] at hR
 replace hR : R = some (.ok z) := hR
 rw [hR] at hF
 clear hR
 refine zbW (zbW (zb1 (zm ?_)))
 -- bodies
 replace hF : (match wB q0.prog.Funcs.length big q0 z 0 with
   | none => none
   | some (.error x) => (zc0 x.2.1).map fun k => (x.1, k, x.2.2)
   | some (.ok x) => wT x.1 x.2) = some rr := hF
 refine zbX (zbX (zco (fun _ _ => False) rfl (fun _ _ _ h => h.elim) ?_))
 refine zbm (zz hO [1] [(0, znN g), (2, znM z), (3, znN B), (28, znM (q0.prog.Funcs.length : Int)), (29, znM 0)] ⟨⟨rfl, rfl⟩, rfl, rfl, rfl, rfl, rfl, trivial⟩ fun j => ?_)
 refine zh (zm ?_)
 obtain ⟨R, hR⟩ : ∃ R, R = wB q0.prog.Funcs.length big q0 z 0 := ⟨_, rfl⟩
 rw [← hR] at hF
 obtain ⟨len, hlen⟩ : ∃ n, n = q0.prog.Funcs.length := ⟨_, rfl⟩
 rw [← hlen] at hR
 rw [← hlen]
 have hK : wK g q0 τ1 (zk g (.slice b7 q0.prog.Structs.length b8) (.slice b9 q0.prog.Funcs.length c2) (.slice c3 q0.tree.Bodies.length c4) q0.tree.Main (.slice c5 q0.tree.Points.length c6) q0.fn (.slice c7 q0.vars.length c8) (.slice c9 q0.scope.length d0)) W X Y := ⟨_, _, _, _, _, _, rfl, b0.le hL, b1.le hL, b2.le hL, b4.le hL, b5.le hL, b6.le hL⟩
 refine zfZ (lpE (fun (n : Nat) e' σ' => ∃ (q : zb) (z o : Int) (τ' : Hp) (V E G I : Ob), agr [(0, znN g), (2, znM z), (3, znN B), (28, znM (len : Int)), (29, znM o)] e' ∧ Obs τ' σ' [some (B, ⟨[.int .i64 0], 35, 1, true⟩), V, E, G, I] ∧ wK g q τ' V E G I ∧ Hp.le τ τ' ∧ R = wB len n q z o) big ⟨q0, z, 0, τ1, _, _, _, _, ⟨rfl, rfl, rfl, rfl, rfl, trivial⟩, hO, hK, hL, hR⟩ ?_)
 clear hR hO hL hK hlen hA
 clear b0 b1 b2 b4 b5 b6
 rintro k e σ ⟨q, z, o, τ1, V, E, G, I, hA, hO, ⟨u0, u1, u2, u4, u6, u7, rfl, f0, d7, g5, g8, g9, i0⟩, hL, hR⟩
 rw [← zba _ _ hA]
 cases k with
 | zero =>
  rw [show R = none from hR] at hF
  cases hF
 | succ k =>
 replace hR : R = if (decide (o < (len : Int))) = true then (match zdk q o with
  | none => none
  | some (.error v) => some (.error (z, v.1, v.2))
  | some (.ok q') => wB len k q' (IntKind.i64.wrap (z + 1)) (IntKind.i64.wrap (o + 1))) else some (.ok (z, q)) := hR
 refine zbX (zco (fun _ _ => False) rfl (fun _ _ _ h => h.elim) ?_)
 refine zbm (zz hO [] [(0, znN g), (2, znM z), (3, znN B), (28, znM (len : Int)), (29, znM o), (30, .bool (decide (o < (len : Int))))] ⟨rfl, rfl, rfl, rfl, rfl, rfl, trivial⟩ fun j => ?_)
 refine zh (zm ?_)
 refine zbX (zim (t := decide (o < (len : Int))) rfl (fun ht => skE ?_) (fun ht => exE ?_))
 ·rw [if_pos ht] at hR
  refine zm ?_
  refine zbX (zfZ (zbX (zco (fun _ _ => False) rfl (fun _ _ _ h => h.elim) ?_)))
  refine zbm (zz hO [] [(0, znN g), (2, znM z), (3, znN B), (5, znM o), (28, znM (len : Int)), (29, znM o)] ⟨rfl, rfl, rfl, rfl, rfl, rfl, trivial⟩ fun j => ?_)
  refine zh (zm ?_)
  refine zbX (rE (fun ch σ' => ∃ (v : Value) (q' : zb) (τ' : Hp) (V E G I : Ob), R = some (.error (z, v, q')) ∧ ch = [{ v := v, recovered := false }] ∧ wK g q' τ' V E G I ∧ Obs τ' σ' [some (B, ⟨[.int .i64 0], 35, 1, true⟩), V, E, G, I] ∧ Hp.le τ τ') 2 rfl ?_ ?_)
  ·rintro ch e' σ' ⟨v, q', τ', V, E, G, I, S, U, h3, Z, h5⟩ he
   rw [S] at hF
   obtain ⟨kk, hk, hr⟩ := Option.map_eq_some_iff.1 hF
   exact hDp z _ kk v ch q' e' σ' τ' _ _ _ _ hk U hr.symm h3 h5 Z he
  refine zF hO 2 [] [(0, znN g), (2, znM z), (3, znN B), (28, znM (len : Int)), (29, znM o), (32, znN g), (33, znM o)] ⟨rfl, rfl, rfl, rfl, rfl, rfl, rfl, trivial⟩ fun j => ?_
  rcases hf : zdk q o with _ | ⟨v | q'⟩
  ·rw [hf] at hR
   rw [show R = none from hR] at hF
   cases hF
  ·rw [hf] at hR
   refine zbi (hs := [_]) hO (ziP f0 d7 g5 g8 g9 i0 hf) znu rfl fun _ σ τ' _ hO S U => ?_
   obtain ⟨v0, v1, v2, p1, v4, p2, v6, v7, p3, rfl, rfl, g0, g1, g2, g4, g6, g7⟩ := U
   exact ⟨v.1, v.2, τ', _, _, _, _, hR, rfl, ⟨_, _, _, _, _, _, rfl, g0, g1, g2, g4, g6, g7⟩, hO, hL.trans S⟩
  ·rw [hf] at hR
   refine zbj (hs := [_]) hO (ziP f0 d7 g5 g8 g9 i0 hf) znu rfl fun _ σ τ' _ hO S U => ?_
   obtain ⟨v0, v1, v2, p1, v4, p2, v6, v7, p3, rfl, rfl, g0, g1, g2, g4, g6, g7⟩ := U
   have hL := hL.trans S
   have hO := znR5 hO
   refine zf (zh (zm (zco (fun _ _ => False) rfl (fun _ _ _ h => h.elim) ?_)))
   refine zbm (zz hO [] [(0, znN g), (2, znM (IntKind.i64.wrap (z + 1))), (3, znN B), (28, znM (len : Int)), (29, znM o)] ⟨rfl, rfl, rfl, rfl, rfl, trivial⟩ fun j => ?_)
   refine zh (z9 (zm (zco (fun _ _ => False) rfl (fun _ _ _ h => h.elim) ?_)))
   refine zbm (zz hO [] [(0, znN g), (2, znM (IntKind.i64.wrap (z + 1))), (3, znN B), (28, znM (len : Int)), (29, znM (IntKind.i64.wrap (o + 1)))] ⟨rfl, rfl, rfl, rfl, rfl, trivial⟩ fun j => ?_)
   refine zh (zm ?_)
   exact ⟨k, Nat.lt_succ_self _, q', _, _, τ', _, _, _, _, ⟨rfl, rfl, rfl, rfl, rfl, trivial⟩, hO, ⟨_, _, _, _, _, _, rfl, g0, g1, g2, g4, g6, g7⟩, hL, hR⟩
 rw [ht] at hR
 replace hR : R = some (.ok (z, q)) := hR
 rw [hR] at hF
 clear hR
 replace hF : wT z q = some rr := hF
 refine zbW (zbW (zb1 (zm ?_)))
 -- main
 unfold wT at hF
 obtain ⟨m, k7, hF⟩ := znS hF
 obtain ⟨A0, c0, rfl, -⟩ := f0.form
 obtain ⟨A1, c1, rfl, -⟩ := d7.form
 refine zbX (zco (fun _ _ => False) rfl (fun _ _ _ h => h.elim) ?_)
 refine zbm (zF hO 2 [] [(0, znN g), (2, znM z), (3, znN B), (38, znN g), (39, znN g)] ⟨rfl, rfl, rfl, rfl, rfl, trivial⟩ fun j => ?_)
 refine zbM (hs := [_]) hO (zin f0 d7 g5 g8 g9 i0 k7) rfl fun _ σ τ' _ hO S U => ?_
 obtain ⟨rfl, rfl⟩ := U
 have hL := hL.trans S
 have hO := znR5 hO
 refine zF hO 3 [] [(0, znN g), (2, znM z), (3, znN B), (40, znM m), (43, .pointer (some ⟨g, 3, none⟩))] ⟨rfl, rfl, rfl, rfl, rfl, trivial⟩ fun j => ?_
 refine zy hO (i := 1) rfl (off := 3) rfl rfl rfl rfl (Nat.le_of_ble_eq_true rfl) rfl fun σ hO => ?_
 have hO : Obs _ _ [some (B, ⟨[.int .i64 0], 35, 1, true⟩), zk g (.slice A0 q.prog.Structs.length c0) (.slice A1 q.prog.Funcs.length c1) u2 m u4 q.fn u6 u7, E, G, I] := hO
 have hK : ∀ τ2, Hp.le τ' τ2 → wK g (wM q m) τ2 (zk g (.slice A0 q.prog.Structs.length c0) (.slice A1 q.prog.Funcs.length c1) u2 m u4 q.fn u6 u7) E G I := fun τ2 U => ⟨_, _, _, _, _, _, rfl, (f0.le S).le U, (d7.le S).le U, (g5.le S).le U, (g8.le S).le U, (g9.le S).le U, (i0.le S).le U⟩
 refine zf (zh (zm ?_))
 refine zbX (rE (fun ch σ' => ∃ (v : Value) (τ2 : Hp) (k : Int), zc0 v = some k ∧ rr = (z, k, wM q m) ∧ ch = [{ v := v, recovered := false }] ∧ Obs τ2 σ' [some (B, ⟨[.int .i64 0], 35, 1, true⟩), zk g (.slice A0 q.prog.Structs.length c0) (.slice A1 q.prog.Funcs.length c1) u2 m u4 q.fn u6 u7, E, G, I] ∧ Hp.le τ' τ2) 2 rfl ?_ ?_)
 ·rintro ch e' σ' ⟨v, τ2, kk, h3, Z, h5, h6, h7⟩ he
  exact hDp z _ kk v ch _ e' σ' τ2 _ _ _ _ h3 h5 Z (hK _ h7) (hL.trans h7) h6 he
 refine zF hO 6 [1] [(0, znN g), (2, znM z), (3, znN B), (49, .bool (decide (m ≥ 0)))] ⟨⟨rfl, rfl⟩, rfl, rfl, rfl, rfl, trivial⟩ fun j => ?_
 rcases hf : zbp (decide (m ≥ 0)) 8 with _ | ⟨v | u⟩
 ·rw [hf] at hF
  cases hF
 ·rw [hf] at hF
  obtain ⟨kk, hk, hr⟩ := Option.map_eq_some_iff.1 hF
  refine zbE hO (z8 hf) znu rfl fun _ σ τ2 _ hO h3 Z => ?_
  obtain ⟨rfl, rfl⟩ := Z
  exact ⟨v, τ2, kk, hk, hr.symm, rfl, hO, h3⟩
 rw [hf] at hF
 replace hF : (zJ q.prog.Funcs m).bind _ = some rr := hF
 refine zbI hO (z8 hf) znu rfl fun _ σ τ2 _ hO h3 Z => ?_
 obtain ⟨rfl, rfl⟩ := Z
 have hO : Obs _ _ [some (B, ⟨[.int .i64 0], 35, 1, true⟩), zk g (.slice A0 q.prog.Structs.length c0) (.slice A1 q.prog.Funcs.length c1) u2 m u4 q.fn u6 u7, E, G, I] := hO
 refine zf (zh (zm ?_))
 obtain ⟨d, hd, hF⟩ := znS hF
 clear hf
 -- the declaration
 refine zbX (zco (fun _ _ => False) rfl (fun _ _ _ h => h.elim) ?_)
 refine zmg (zF hO 10 [1, 1] [(0, znN g), (2, znM z), (3, znN B), (54, .pointer (some ⟨g, 1, none⟩)), (55, znT A1 q.prog.Funcs c1), (59, .pointer (some ⟨g, 3, none⟩)), (60, znM m)] ⟨⟨rfl, rfl⟩, ⟨rfl, rfl⟩, rfl, rfl, rfl, rfl, rfl, rfl, rfl, trivial⟩ fun j => ?_)
 refine zbw (T := zr) ((d7.le S).le h3) hO.base rfl rfl hd (by decide) fun a5 _ k6 m7 => ?_
 obtain ⟨v8, m5, rfl, r9, k9⟩ := k6
 obtain ⟨m6, m8, rfl, -⟩ := r9.form
 obtain ⟨m9, n0, rfl, -⟩ := k9.form
 refine zbb rfl ((m7.le hO.base).all rfl) ?_
 refine zcB (zbg hO fun n1 σ hO => ?_)
 have hO := znR6 hO
 refine zf (zcE ⟨(zbv rfl ((m7.le hO.base).all rfl) rfl), (zbv rfl (hO.val (i := 1) (off := 3) (agg := false) (n := 1) rfl rfl) rfl), (zbv rfl (hO.val (i := 1) (off := 1) (agg := false) (n := 1) rfl rfl) rfl), trivial⟩ ?_)
 refine zy hO (i := 5) rfl (off := 0) rfl rfl rfl rfl (Nat.le_of_ble_eq_true rfl) rfl fun σ hO => ?_
 have hO := znR6 hO
 refine zf (zh (zm ?_))
 refine zbX (rE (fun ch σ' => ∃ (v : Value) (τ3 : Hp) (k : Int), zc0 v = some k ∧ rr = (z, k, wM q m) ∧ ch = [{ v := v, recovered := false }] ∧ Obs τ3 σ' [some (B, ⟨[.int .i64 0], 35, 1, true⟩), zk g (.slice A0 q.prog.Structs.length c0) (.slice A1 q.prog.Funcs.length c1) u2 m u4 q.fn u6 u7, E, G, I] ∧ Hp.le τ' τ3) 2 rfl ?_ ?_)
 ·rintro ch e' σ' ⟨v, τ3, kk, h5, h6, h7, h8, h9⟩ he
  exact hDp z _ kk v ch _ e' σ' τ3 _ _ _ _ h5 h7 h6 (hK _ h9) (hL.trans h9) h8 he
 refine zF hO 7 [5, 5] [(0, znN g), (2, znM z), (3, znN B), (72, .bool (((d.Params.length : Int) == 0) && ((d.Result.Kind.toNat : Int) == 0)))] ⟨⟨rfl, rfl⟩, ⟨rfl, rfl⟩, ⟨⟨rfl, rfl⟩, fun J => ⟨rfl, rfl, rfl, rfl, trivial⟩⟩⟩ fun j => ?_
 rcases hf : zbp (((d.Params.length : Int) == 0) && ((d.Result.Kind.toNat : Int) == 0)) 8 with _ | ⟨v | u⟩
 ·rw [hf] at hF
  cases hF
 ·rw [hf] at hF
  obtain ⟨kk, hk, hr⟩ := Option.map_eq_some_iff.1 hF
  refine zbE hO (z8 hf) znu rfl fun _ σ τ3 _ hO h5 h6 => ?_
  obtain ⟨rfl, rfl⟩ := h6
  exact ⟨v, τ3, kk, hk, hr.symm, rfl, hO.sel [0, 1, 2, 3, 4], h3.trans h5⟩
 rw [hf] at hF
 replace hF : some (z, (0 : Int), wM q m) = some rr := hF
 refine zbI hO (z8 hf) znu rfl fun _ σ τ3 _ hO h5 h6 => ?_
 obtain ⟨rfl, rfl⟩ := h6
 have hO := znR6 hO
 refine zf (zh (zm ?_))
 injection hF with hF
 -- OK is stored
 refine zco (fun _ _ => False) rfl (fun _ _ _ h => h.elim) ?_
 refine zF hO 2 [] [(2, znM z), (3, znN B)] ⟨rfl, rfl, trivial⟩ fun j => ?_
 refine zy hO (i := 0) rfl (off := 0) rfl rfl rfl rfl (Nat.le_of_ble_eq_true rfl) rfl fun σ hO => ?_
 refine zf (zW ?_)
 exact hDr z 0 (wM q m) _ _ _ _ _ _ _ hF.symm (hK _ (h3.trans h5)) (hL.trans (h3.trans h5)) (hO.sel [0, 1, 2, 3, 4]) rfl
theorem zlu {τ : Hp} {p0 : zE} {g h : Value} (k : RdT zn τ g p0.Vars) (o : RdT zY τ h p0.Acts) {rr : Bool} (hF : zhu p0 = some rr) :
  Ctr Try.prog 36 #[.agg #[.string p0.Name, .int .i64 p0.Params, .bool p0.Result, g, h]] τ [] (fun v τ' vs' => v = .bool rr ∧ vs' = []) := by
 obtain ⟨q, z, rfl, -⟩ := k.form
 obtain ⟨B, D, rfl, -⟩ := o.form
 refine zbh (args := [.agg #[.string p0.Name, .int .i64 p0.Params, .bool p0.Result, (.slice q p0.Vars.length z), (.slice B p0.Acts.length D)]]) hm Try.func36 s36 rfl fun w0 σ hO Q hQ => ?_
 unfold zhu at hF
 have hL := Hp.le.refl τ
 show wpn _ _ a36.body _ _ _
 unfold a36
 dsimp only
 refine zbC (n := 5) hO rfl rfl fun E σ hO => ?_
 have hO := znR1 hO
 refine ze hO [] [] [1] znw fun j => ?_
 refine zz hO [0] [(2, .bool (decide ((p0.Vars.length : Int) > 64)))] (And.intro (And.intro rfl rfl) znw) fun j => ?_
 refine zW ?_
 cases hF
 have hO := hO.sel []
 exact hQ _ _ _ _ _ rfl hO hL ⟨rfl, rfl⟩
theorem zmd {τ : Hp} {E : Value} {p0 : (List zE)} (G : RdT zo τ E p0) {rr : Int} (hF : zgd p0 = some rr) :
  Ctr Try.prog 55 #[E, .func (.func 36) #[] #[]] τ [] (fun v τ' vs' => v = .int .i64 rr ∧ vs' = []) := by
 obtain ⟨B, D, rfl, -⟩ := G.form
 refine zbh (args := [.slice B p0.length D, .func (.func 36) #[] #[]]) hm Try.func55 s55 rfl fun w0 σ hO Q hQ => ?_
 unfold zgd at hF
 have hL := Hp.le.refl τ
 show wpn _ _ a55.body _ _ _
 unfold a55
 dsimp only
 refine ze hO [] [] [0, 1] znx fun j => ?_
 refine zl (ze hO [] [(7, znM (p0.length : Int)), (8, znM 0)] [0, 1] znz fun j => ?_)
 refine zbs (zch (fun (n : Nat) e' σ' => ∃ (g : Int) (τ' : Hp), agr [(0, znT B p0 D), (1, .func (.func 36) #[] #[]), (7, znM (p0.length : Int)), (8, znM g)] e' ∧ Obs τ' σ' [] ∧ Hp.le τ τ' ∧ zfL p0 n g = some rr) big ⟨0, _, znL zny, hO, hL, hF⟩ ?_)
 clear hF hO hL
 rintro h e σ ⟨g, _, hA, hO, hL, hF⟩
 rw [← zba _ _ hA]
 cases h with
 | zero => exact nomatch (show none = some rr from hF)
 | succ h =>
 replace hF : zh0 (zfL p0 h) p0 g = some rr := hF
 unfold zh0 at hF
 refine ze hO [] [(9, .bool (decide (g < (p0.length : Int))))] [0, 1, 7, 8] znA fun j => ?_
 refine zB hF rfl (fun hF => ?_) fun hF => ?_
 ·refine zI (zbs (ze hO [] [(5, znM g)] [0, 1, 7, 8] znA fun j => ?_))
  refine zd hO 3 [] [(11, .func (.func 36) #[] #[]), (12, znT B p0 D), (13, znM g)] [0, 1, 5, 7, 8] znD fun j => ?_
  obtain ⟨W, I, hF⟩ := znS hF
  refine zbw (T := zo) (G.le hL) hO.base rfl rfl I (by decide) fun a46 _ S z => ?_
  obtain ⟨X, Y, rfl, k, o⟩ := S
  obtain ⟨Z, b0, rfl, -⟩ := k.form
  obtain ⟨b1, b2, rfl, -⟩ := o.form
  refine zbb rfl ((z.le hO.base).all rfl) ?_
  obtain ⟨b3, U, hF⟩ := znS hF
  refine zfp rfl (by kernel_rfl) hO (zlu k o U) rfl fun _ σ _ _ hO q V => ?_
  have hL := hL.trans q
  have z := z.le q
  have k := k.le q
  have o := o.le q
  obtain ⟨rfl, rfl⟩ := V
  have hO : Obs _ _ [] := hO
  refine zf (zbu (zB hF rfl (fun hF => ?_) fun hF => ?_))
  ·refine zl (zz hO [] [(4, znM g)] znw fun j => ?_)
   refine zbt (zbx (zbn (zbn (zbx (zbn ?_)))))
   cases hF
   exact hQ _ _ _ _ _ rfl hO hL ⟨rfl, rfl⟩
  refine zI (zh (z9 (zm (zbm (ze hO [] [(8, znM (IntKind.i64.wrap (g + 1)))] [0, 1, 7] znz fun j => ?_)))))
  refine zh (zm ?_)
  exact ⟨h, Nat.lt_succ_self _, (IntKind.i64.wrap (g + 1)), _, znL zny, hO, hL, hF⟩
 refine zb9 (zbW (zb1 (zm (zz hO [] [(4, znM (-1))] znw fun j => ?_))))
 refine zW ?_
 cases hF
 exact hQ _ _ _ _ _ rfl hO hL ⟨rfl, rfl⟩
theorem zni {τ : Hp} {g : Value} {p0 : (List zE)} (h : RdT zo τ g p0) {rr : Bool} (hF : zge p0 = some rr) :
  Ctr Try.prog 35 #[g, .func (.func 36) #[] #[]] τ [] (fun v τ' vs' => v = .bool rr ∧ vs' = []) := by
 obtain ⟨k, o, rfl, -⟩ := h.form
 refine zbh (args := [.slice k p0.length o, .func (.func 36) #[] #[]]) hm Try.func35 s35 rfl fun w0 σ hO Q hQ => ?_
 unfold zge at hF
 have hL := Hp.le.refl τ
 show wpn _ _ a35.body _ _ _
 unfold a35
 dsimp only
 refine ze hO [] [] [0, 1] znx fun j => ?_
 refine zF hO 2 [] [(5, znT k p0 o), (6, .func (.func 36) #[] #[])] znx fun j => ?_
 obtain ⟨q, z, hF⟩ := znS hF
 refine zT hO (zmd (h.le hL) z) rfl fun _ σ _ _ hO B D => ?_
 have hL := hL.trans B
 obtain ⟨rfl, rfl⟩ := D
 have hO : Obs _ _ [] := hO
 refine zz hO [] [(4, .bool (decide (q ≥ 0)))] znw fun j => ?_
 refine zW ?_
 cases hF
 exact hQ _ _ _ _ _ rfl hO hL ⟨rfl, rfl⟩
theorem zft {τ : Hp} {p0 : zq} {k V : Value} (W : RdT zu τ k p0.Structs) (X : RdT zr τ V p0.Funcs) {rr : zw × Int × Int} (hF : zcz p0 = some rr) :
  Ctr Try.prog 17 #[.agg #[k, V]] τ [] (fun v τ' vs' => ∃ (k Y : Value), v = .tuple #[.agg #[k, .int .i64 rr.1.Main, Y], .int .i64 rr.2.1, .int .i64 rr.2.2] ∧ vs' = [] ∧ RdT zo τ' k rr.1.Bodies ∧ RdT zp τ' Y rr.1.Points) := by
 obtain ⟨Z, b0, rfl, -⟩ := W.form
 obtain ⟨b1, b5, rfl, -⟩ := X.form
 refine zbh (args := [.agg #[(znT Z p0.Structs b0), (znT b1 p0.Funcs b5)]]) hm Try.func17 s17 rfl fun w0 σ hO Q hQ => ?_
 unfold zcz at hF
 have hL := Hp.le.refl τ
 show wpn _ _ a17.body _ _ _
 unfold a17
 dsimp only
 refine zbC (n := 2) hO rfl rfl fun b2 σ hO => ?_
 have hO := znR1 hO
 refine zbg hO fun b3 σ hO => ?_
 have hO := znR2 hO
 refine ze hO [] [] [1, 2] znx fun j => ?_
 refine zd hO 2 [0] [(10, .agg #[(znT Z p0.Structs b0), (znT b1 p0.Funcs b5), (.slice none 0 0), (.int .i64 0), (.slice none 0 0), (.int .i64 0), (.slice none 0 0), (.slice none 0 0)])] [1, 2] (And.intro (And.intro rfl rfl) zny) fun j => ?_
 refine zbC (n := 8) hO rfl rfl fun b4 σ hO => ?_
 have hO := znR3 hO
 refine ze hO [] [(5, znN b4)] [1, 2] zny fun j => ?_
 refine zl (zd hO 1 [] [(13, znN b4)] [1, 2, 5] znz fun j => ?_)
 have hO := hO.no
 have hO := znR4 hO
 have w5 := za.nil0 (T := zo) (ty := 59) hO
 have hO := hO.no
 have hO := znR5 hO
 have w6 := za.nil0 (T := zp) (ty := 87) hO
 have hO := hO.no
 have hO := znR6 hO
 have w7 := za.nil0 (T := (Ty.int .i64)) (ty := 3) hO
 obtain ⟨g, h9, hF⟩ := znS hF
 refine zbM (hs := [_, _]) hO (zlQ (q0 := (⟨(⟨p0.Structs, p0.Funcs⟩ : zq), (⟨([] : List zE), 0, ([] : List zC)⟩ : zw), 0, [], ([] : List Int)⟩ : zb)) (W.le hL) (X.le hL) w5 w6 (RdT.nil zn _) w7 h9) rfl fun _ σ _ _ hO c1 c2 => ?_
 have hL := hL.trans c1
 obtain ⟨d9, f0, f1, f2, f3, f4, f5, f6, f7, rfl, rfl, o, q, S, E, z, B⟩ := c2
 obtain ⟨f8, f9, rfl, -⟩ := o.form
 obtain ⟨g0, g1, rfl, -⟩ := q.form
 obtain ⟨b7, b8, rfl, -⟩ := S.form
 obtain ⟨c3, c4, rfl, -⟩ := E.form
 obtain ⟨g2, g3, rfl, -⟩ := z.form
 obtain ⟨g4, g5, rfl, -⟩ := B.form
 have hO := znR6 hO
 refine ze hO [] [(6, znM g.1), (7, znM g.2.1)] [1, 2, 5] znA fun j => ?_
 refine zl (ze hO [] [(18, .bool (g.2.1 != 0))] [1, 2, 5, 6, 7] znB fun j => ?_)
 refine zB hF rfl (fun hF => ?_) fun hF => ?_
 ·refine zl (zd hO 3 [] [(19, .agg #[(.slice none 0 0), (.int .i64 0), (.slice none 0 0)]), (20, znM g.1), (21, znM g.2.1)] [2] znz fun j => ?_)
  refine zy hO (i := 1) rfl (off := 0) rfl rfl rfl rfl (Nat.le_of_ble_eq_true rfl) rfl fun σ hO => ?_
  have hO := znR6 hO
  refine ze hO [] [(3, znM g.1), (4, znM g.2.1)] [2] zny fun j => ?_
  refine zbt ?_
  cases hF
  have U := hO.val (i := 1) rfl (off := 0) (agg := true) (n := 3) rfl
  have hO := hO.sel []
  exact hQ _ _ _ _ _ (zbP rfl (U) (zb2 (zb2 rfl))) hO hL ⟨_, _, rfl, rfl, (RdT.nil _ _), (RdT.nil _ _)⟩
 refine zI (zd hO 5 [2] [(26, znT b7 g.2.2.tree.Bodies b8)] [1, 2, 5] (And.intro (And.intro rfl rfl) znz) fun j => ?_)
 obtain ⟨b9, c5, hF⟩ := znS hF
 have hO := hO.sel [0, 1, 2, 4, 5, 3]
 refine zbM (hs := [_, _, _, _, _]) hO (Ctr.lendG S (fun _ _ _ _ h => h) fun _ g6 c6 => zni c6 c5) rfl fun _ σ _ _ hO D c7 => ?_
 have hL := hL.trans D
 have S := S.le D
 have o := o.le D
 have q := q.le D
 have E := E.le D
 have z := z.le D
 have B := B.le D
 obtain ⟨_, rfl, rfl, rfl⟩ := c7
 have hO := znR6 hO
 have hO := hO.sel [0, 1, 2, 5, 3, 4]
 have hO := znR6 hO
 refine ze hO [] [(8, .bool b9)] [1, 2, 5] znz fun j => ?_
 refine zl (zz hO [0, 2] [(2, znN b3), (5, znN b4), (43, .bool ((b9 || (decide ((p0.Funcs.length : Int) > 64))) || (decide ((g.2.2.tree.Points.length : Int) > 1000))))] (And.intro (And.intro rfl rfl) (And.intro (And.intro rfl rfl) (fun _ => And.intro (And.intro rfl rfl) (And.intro (And.intro rfl rfl) (fun _ => znL znx))))) fun j => ?_)
 refine zB hF rfl (fun hF => ?_) fun hF => ?_
 ·refine zl (zd hO 1 [] [(44, .agg #[(.slice none 0 0), (.int .i64 0), (.slice none 0 0)])] [2] znx fun j => ?_)
  refine zy hO (i := 1) rfl (off := 0) rfl rfl rfl rfl (Nat.le_of_ble_eq_true rfl) rfl fun σ hO => ?_
  have hO := znR6 hO
  refine ze hO [] [(3, znM 0), (4, znM 11)] [2] zny fun j => ?_
  refine zbt ?_
  cases hF
  have U := hO.val (i := 1) rfl (off := 0) (agg := true) (n := 3) rfl
  have hO := hO.sel []
  exact hQ _ _ _ _ _ (zbP rfl (U) (zb2 (zb2 rfl))) hO hL ⟨_, _, rfl, rfl, (RdT.nil _ _), (RdT.nil _ _)⟩
 refine zI (zd hO 4 [2] [(48, .agg #[(znT b7 g.2.2.tree.Bodies b8), (.int .i64 g.2.2.tree.Main), (znT c3 g.2.2.tree.Points c4)])] [2] (And.intro (And.intro rfl rfl) znx) fun j => ?_)
 refine zy hO (i := 1) rfl (off := 0) rfl rfl rfl rfl (Nat.le_of_ble_eq_true rfl) rfl fun σ hO => ?_
 have hO := znR6 hO
 refine ze hO [] [(3, znM 0), (4, znM 0)] [2] zny fun j => ?_
 refine zW ?_
 obtain ⟨_, G, b6, hO⟩ := S.share hO (i := 3) rfl
 have hL := hL.trans G
 have E := E.le G
 have o := o.le G
 have q := q.le G
 have z := z.le G
 have B := B.le G
 have hO := znR6 hO
 obtain ⟨_, I, c9, hO⟩ := E.share hO (i := 4) rfl
 have hL := hL.trans I
 have b6 := b6.le I
 have o := o.le I
 have q := q.le I
 have z := z.le I
 have B := B.le I
 have hO := znR6 hO
 cases hF
 have U := hO.val (i := 1) rfl (off := 0) (agg := true) (n := 3) rfl
 have hO := hO.sel []
 exact hQ _ _ _ _ _ (zbP rfl (U) (zb2 (zb2 rfl))) hO hL ⟨_, _, rfl, rfl, b6, c9⟩
theorem zdc {τ : Hp} {p0 : Int}  {rr : zc} (hF : zdf p0 = some rr) :
  Ctr Try.prog 25 #[.int .i64 p0] τ [] (fun v τ' vs' => ∃ (g : Value), v = .agg #[.int .u8 rr.Kind.toNat, .int .i64 rr.Num, .string rr.Name, .string rr.Field, .string rr.Op, g] ∧ vs' = [] ∧ RdT z5 τ' g rr.Kids) := by
 refine zbh (args := [.int .i64 p0]) hm Try.func25 s25 rfl fun w0 σ hO Q hQ => ?_
 unfold zdf at hF
 have hL := Hp.le.refl τ
 show wpn _ _ a25.body _ _ _
 unfold a25
 dsimp only
 refine zbg hO fun k σ hO => ?_
 have hO := znR1 hO
 refine zf (zd hO 2 [] [(4, .agg #[(.int .u8 1), (.int .i64 p0), (.string znk), (.string znk), (.string znk), (.slice none 0 0)])] [2] znx fun j => ?_)
 refine zy hO (i := 0) rfl (off := 0) rfl rfl rfl rfl (Nat.le_of_ble_eq_true rfl) rfl fun σ hO => ?_
 have hO := znR1 hO
 refine zf (zW ?_)
 cases hF
 have h := hO.val (i := 0) rfl (off := 0) (agg := true) (n := 6) rfl
 have hO := hO.sel []
 exact hQ _ _ _ _ _ (zbP rfl (h) rfl) hO hL ⟨_, rfl, rfl, (RdT.nil _ _)⟩
theorem zeh {τ : Hp} {p0 : ByteArray}  {rr : zc} (hF : ze6 p0 = some rr) :
  Ctr Try.prog 39 #[.string p0] τ [] (fun v τ' vs' => ∃ (g : Value), v = .agg #[.int .u8 rr.Kind.toNat, .int .i64 rr.Num, .string rr.Name, .string rr.Field, .string rr.Op, g] ∧ vs' = [] ∧ RdT z5 τ' g rr.Kids) := by
 refine zbh (args := [.string p0]) hm Try.func39 s39 rfl fun w0 σ hO Q hQ => ?_
 unfold ze6 at hF
 have hL := Hp.le.refl τ
 show wpn _ _ a39.body _ _ _
 unfold a39
 dsimp only
 refine zbg hO fun k σ hO => ?_
 have hO := znR1 hO
 refine zf (zd hO 2 [] [(4, .agg #[(.int .u8 3), (.int .i64 0), (.string p0), (.string znk), (.string znk), (.slice none 0 0)])] [2] znx fun j => ?_)
 refine zy hO (i := 0) rfl (off := 0) rfl rfl rfl rfl (Nat.le_of_ble_eq_true rfl) rfl fun σ hO => ?_
 have hO := znR1 hO
 refine zf (zW ?_)
 cases hF
 have h := hO.val (i := 0) rfl (off := 0) (agg := true) (n := 6) rfl
 have hO := hO.sel []
 exact hQ _ _ _ _ _ (zbP rfl (h) rfl) hO hL ⟨_, rfl, rfl, (RdT.nil _ _)⟩
theorem zfS {τ : Hp} {p0 : ByteArray} {p1 : zc} {z : Value} {g : zc} {B : Value} (D : RdT z5 τ z p1.Kids) (E : RdT z5 τ B g.Kids) {rr : zc} (hF : zgo p0 p1 g = some rr) :
  Ctr Try.prog 40 #[.string p0, .agg #[.int .u8 p1.Kind.toNat, .int .i64 p1.Num, .string p1.Name, .string p1.Field, .string p1.Op, z], .agg #[.int .u8 g.Kind.toNat, .int .i64 g.Num, .string g.Name, .string g.Field, .string g.Op, B]] τ [] (fun v τ' vs' => ∃ (G : Value), v = .agg #[.int .u8 rr.Kind.toNat, .int .i64 rr.Num, .string rr.Name, .string rr.Field, .string rr.Op, G] ∧ vs' = [] ∧ RdT z5 τ' G rr.Kids) := by
 obtain ⟨h, k, rfl, -⟩ := D.form
 obtain ⟨o, q, rfl, -⟩ := E.form
 refine zbh (args := [.string p0, .agg #[.int .u8 p1.Kind.toNat, .int .i64 p1.Num, .string p1.Name, .string p1.Field, .string p1.Op, (.slice h p1.Kids.length k)], .agg #[.int .u8 g.Kind.toNat, .int .i64 g.Num, .string g.Name, .string g.Field, .string g.Op, (.slice o g.Kids.length q)]]) hm Try.func40 s40 rfl fun w0 σ hO Q hQ => ?_
 unfold zgo at hF
 have hL := Hp.le.refl τ
 show wpn _ _ a40.body _ _ _
 unfold a40
 dsimp only
 refine zbC (n := 6) hO rfl rfl fun Y σ hO => ?_
 have hO := znR1 hO
 refine zbC (n := 6) hO rfl rfl fun Z σ hO => ?_
 have hO := znR2 hO
 refine zbg hO fun b6 σ hO => ?_
 have hO := znR3 hO
 refine zf (zd hO 3 [0, 1] [(7, .string p0), (8, .agg #[(.int .u8 (p1.Kind.toNat : Int)), (.int .i64 p1.Num), (.string p1.Name), (.string p1.Field), (.string p1.Op), (znT h p1.Kids k)]), (9, .agg #[(.int .u8 (g.Kind.toNat : Int)), (.int .i64 g.Num), (.string g.Name), (.string g.Field), (.string g.Op), (znT o g.Kids q)])] [6] (And.intro (And.intro rfl rfl) (And.intro (And.intro rfl rfl) znz)) fun j => ?_)
 refine zbq (T := z5) (l := ([(⟨p1.Kind, p1.Num, p1.Name, p1.Field, p1.Op, p1.Kids⟩ : zc), (⟨g.Kind, g.Num, g.Name, g.Field, g.Op, g.Kids⟩ : zc)] : List zc)) (cs := [.int .u8 (p1.Kind.toNat : Int), .int .i64 p1.Num, .string p1.Name, .string p1.Field, .string p1.Op, znT h p1.Kids k, .int .u8 (g.Kind.toNat : Int), .int .i64 g.Num, .string g.Name, .string g.Field, .string g.Op, znT o g.Kids q]) hO rfl ⟨[.int .u8 (p1.Kind.toNat : Int), .int .i64 p1.Num, .string p1.Name, .string p1.Field, .string p1.Op, znT h p1.Kids k], _, rfl, (zca ⟨_, rfl, (D.le hL)⟩), ⟨[.int .u8 (g.Kind.toNat : Int), .int .i64 g.Num, .string g.Name, .string g.Field, .string g.Op, znT o g.Kids q], _, rfl, (zca ⟨_, rfl, (E.le hL)⟩), rfl⟩⟩ rfl (by decide) fun _ σ o9 I hO => ?_
 obtain ⟨W, X, rfl, -⟩ := I.form
 have hO := znR4 hO
 refine zd hO 1 [] [(11, .agg #[(.int .u8 7), (.int .i64 0), (.string znk), (.string znk), (.string p0), (znT W ([(⟨p1.Kind, p1.Num, p1.Name, p1.Field, p1.Op, p1.Kids⟩ : zc), (⟨g.Kind, g.Num, g.Name, g.Field, g.Op, g.Kids⟩ : zc)] : List zc) X)])] [6] znx fun j => ?_
 refine zy hO (i := 2) rfl (off := 0) rfl rfl rfl rfl (Nat.le_of_ble_eq_true rfl) rfl fun σ hO => ?_
 have hO := znR4 hO
 refine zf (zW ?_)
 obtain ⟨_, S, U, hO⟩ := I.share hO (i := 3) rfl
 have hL := hL.trans S
 have hO := znR4 hO
 cases hF
 have V := hO.val (i := 2) rfl (off := 0) (agg := true) (n := 6) rfl
 have hO := hO.sel []
 exact hQ _ _ _ _ _ (zbP rfl (V) rfl) hO hL ⟨_, rfl, rfl, U⟩
theorem zmv {τ : Hp} {p0 : Int}  {rr : zq} (hF : zc5 p0 = some rr) :
  Ctr Try.prog 21 #[.int .i64 p0] τ [] (fun v τ' vs' => ∃ (b4 b5 : Value), v = .agg #[b4, b5] ∧ vs' = [] ∧ RdT zu τ' b4 rr.Structs ∧ RdT zr τ' b5 rr.Funcs) := by
 refine zbh (args := [.int .i64 p0]) hm Try.func21 s21 rfl fun w0 σ hO Q hQ => ?_
 unfold zc5 at hF
 have hL := Hp.le.refl τ
 show wpn _ _ a21.body _ _ _
 unfold a21
 dsimp only
 refine zbg hO fun b2 σ hO => ?_
 have hO := znR1 hO
 refine zf ?_
 obtain ⟨o, h4, hF⟩ := znS hF
 refine zT hO (zeh (p0 := znl) h4) rfl fun _ σ _ _ hO h5 h6 => ?_
 have hL := hL.trans h5
 obtain ⟨v7, rfl, rfl, r8⟩ := h6
 obtain ⟨A9, d8, rfl, -⟩ := r8.form
 have hO := znR1 hO
 refine zbq (T := z5) (l := ([(⟨o.Kind, o.Num, o.Name, o.Field, o.Op, o.Kids⟩ : zc)] : List zc)) (cs := [.int .u8 (o.Kind.toNat : Int), .int .i64 o.Num, .string o.Name, .string o.Field, .string o.Op, znT A9 o.Kids d8]) hO rfl ⟨[.int .u8 (o.Kind.toNat : Int), .int .i64 o.Num, .string o.Name, .string o.Field, .string o.Op, znT A9 o.Kids d8], _, rfl, (zca ⟨_, rfl, r8⟩), rfl⟩ rfl (by decide) fun _ σ j5 z hO => ?_
 obtain ⟨b6, b7, rfl, -⟩ := z.form
 have hO := znR2 hO
 refine zd hO 1 [] [(7, .agg #[(.int .u8 8), (.int .i64 3), (.string znk), (.string znk), (.string znk), (.int .u8 0), (.int .i64 0), (.string znk), (znT b6 ([(⟨o.Kind, o.Num, o.Name, o.Field, o.Op, o.Kids⟩ : zc)] : List zc) b7), (.slice none 0 0), (.slice none 0 0)])] [0, 2] zny fun j => ?_
 obtain ⟨j6, h0, hF⟩ := znS hF
 refine zT hO (zeh (p0 := znl) h0) rfl fun _ σ _ _ hO d9 h1 => ?_
 have hL := hL.trans d9
 have z := z.le d9
 obtain ⟨j7, rfl, rfl, D⟩ := h1
 obtain ⟨j8, j9, rfl, -⟩ := D.form
 have hO := znR2 hO
 obtain ⟨k0, h2, hF⟩ := znS hF
 refine zT hO (zdc h2) rfl fun _ σ _ _ hO b8 h3 => ?_
 have hL := hL.trans b8
 have z := z.le b8
 have D := D.le b8
 obtain ⟨k1, rfl, rfl, S⟩ := h3
 obtain ⟨k2, k3, rfl, -⟩ := S.form
 have hO := znR2 hO
 obtain ⟨g, h7, hF⟩ := znS hF
 refine zT hO (zfS (p0 := znr) D S h7) rfl fun _ σ _ _ hO U h8 => ?_
 have hL := hL.trans U
 have z := z.le U
 have D := D.le U
 have S := S.le U
 obtain ⟨k4, rfl, rfl, f0⟩ := h8
 obtain ⟨f1, f2, rfl, -⟩ := f0.form
 have hO := znR2 hO
 refine zbq (T := z5) (l := ([(⟨g.Kind, g.Num, g.Name, g.Field, g.Op, g.Kids⟩ : zc)] : List zc)) (cs := [.int .u8 (g.Kind.toNat : Int), .int .i64 g.Num, .string g.Name, .string g.Field, .string g.Op, znT f1 g.Kids f2]) hO rfl ⟨[.int .u8 (g.Kind.toNat : Int), .int .i64 g.Num, .string g.Name, .string g.Field, .string g.Op, znT f1 g.Kids f2], _, rfl, (zca ⟨_, rfl, f0⟩), rfl⟩ rfl (by decide) fun _ σ k5 V hO => ?_
 obtain ⟨b9, c0, rfl, -⟩ := V.form
 have hO := znR3 hO
 refine zd hO 1 [] [(12, .agg #[(.int .u8 2), (.int .i64 4), (.string znl), (.string znk), (.string znk), (.int .u8 0), (.int .i64 0), (.string znk), (znT b9 ([(⟨g.Kind, g.Num, g.Name, g.Field, g.Op, g.Kids⟩ : zc)] : List zc) c0), (.slice none 0 0), (.slice none 0 0)])] [0, 2, 7] znz fun j => ?_
 obtain ⟨_, f3, c1, hO⟩ := z.share hO (i := 1) rfl
 have hL := hL.trans f3
 have V := V.le f3
 have hO := znR3 hO
 obtain ⟨_, f4, h9, hO⟩ := V.share hO (i := 2) rfl
 have hL := hL.trans f4
 have c1 := c1.le f4
 have hO := znR3 hO
 refine zbq (T := zX) (l := ([(⟨(8 : UInt8), 3, znk, znk, znk, (⟨(0 : UInt8), 0, znk⟩ : zx), ([(⟨o.Kind, o.Num, o.Name, o.Field, o.Op, o.Kids⟩ : zc)] : List zc), [], []⟩ : zg), (⟨(2 : UInt8), 4, znl, znk, znk, (⟨(0 : UInt8), 0, znk⟩ : zx), ([(⟨g.Kind, g.Num, g.Name, g.Field, g.Op, g.Kids⟩ : zc)] : List zc), [], []⟩ : zg)] : List zg)) (cs := [.int .u8 8, .int .i64 3, .string znk, .string znk, .string znk, .int .u8 0, .int .i64 0, .string znk, znT b6 ([(⟨o.Kind, o.Num, o.Name, o.Field, o.Op, o.Kids⟩ : zc)] : List zc) b7, .slice none 0 0, .slice none 0 0, .int .u8 2, .int .i64 4, .string znl, .string znk, .string znk, .int .u8 0, .int .i64 0, .string znk, znT b9 ([(⟨g.Kind, g.Num, g.Name, g.Field, g.Op, g.Kids⟩ : zc)] : List zc) c0, .slice none 0 0, .slice none 0 0]) hO rfl ⟨[.int .u8 8, .int .i64 3, .string znk, .string znk, .string znk, .int .u8 0, .int .i64 0, .string znk, znT b6 ([(⟨o.Kind, o.Num, o.Name, o.Field, o.Op, o.Kids⟩ : zc)] : List zc) b7, .slice none 0 0, .slice none 0 0], _, rfl, (zcj ⟨_, _, _, rfl, c1, RdT.nil _ _, RdT.nil _ _⟩), ⟨[.int .u8 2, .int .i64 4, .string znl, .string znk, .string znk, .int .u8 0, .int .i64 0, .string znk, znT b9 ([(⟨g.Kind, g.Num, g.Name, g.Field, g.Op, g.Kids⟩ : zc)] : List zc) c0, .slice none 0 0, .slice none 0 0], _, rfl, (zcj ⟨_, _, _, rfl, h9, RdT.nil _ _, RdT.nil _ _⟩), rfl⟩⟩ rfl (by decide) fun _ σ k6 q hO => ?_
 obtain ⟨W, X, rfl, -⟩ := q.form
 have hO := znR4 hO
 refine ze hO [] [(3, .slice W ([(⟨(8 : UInt8), 3, znk, znk, znk, (⟨(0 : UInt8), 0, znk⟩ : zx), ([(⟨o.Kind, o.Num, o.Name, o.Field, o.Op, o.Kids⟩ : zc)] : List zc), [], []⟩ : zg), (⟨(2 : UInt8), 4, znl, znk, znk, (⟨(0 : UInt8), 0, znk⟩ : zx), ([(⟨g.Kind, g.Num, g.Name, g.Field, g.Op, g.Kids⟩ : zc)] : List zc), [], []⟩ : zg)] : List zg).length X)] [0, 2] zny fun j => ?_
 refine zd hO 2 [] [(14, .agg #[(.int .u8 1), (.int .i64 0), (.string znk)]), (15, znM p0)] [2, 3] znz fun j => ?_
 obtain ⟨h, i0, hF⟩ := znS hF
 refine zT hO (zdc i0) rfl fun _ σ _ _ hO f5 i1 => ?_
 have hL := hL.trans f5
 have q := q.le f5
 obtain ⟨k7, rfl, rfl, f6⟩ := i1
 obtain ⟨f7, f8, rfl, -⟩ := f6.form
 have hO := znR4 hO
 refine zbq (T := z5) (l := ([(⟨h.Kind, h.Num, h.Name, h.Field, h.Op, h.Kids⟩ : zc)] : List zc)) (cs := [.int .u8 (h.Kind.toNat : Int), .int .i64 h.Num, .string h.Name, .string h.Field, .string h.Op, znT f7 h.Kids f8]) hO rfl ⟨[.int .u8 (h.Kind.toNat : Int), .int .i64 h.Num, .string h.Name, .string h.Field, .string h.Op, znT f7 h.Kids f8], _, rfl, (zca ⟨_, rfl, f6⟩), rfl⟩ rfl (by decide) fun _ σ k8 B hO => ?_
 obtain ⟨c2, c4, rfl, -⟩ := B.form
 have hO := znR5 hO
 refine zd hO 1 [] [(18, .agg #[(.int .u8 1), (.int .i64 1), (.string znl), (.string znk), (.string znk), (.int .u8 1), (.int .i64 0), (.string znk), (znT c2 ([(⟨h.Kind, h.Num, h.Name, h.Field, h.Op, h.Kids⟩ : zc)] : List zc) c4), (.slice none 0 0), (.slice none 0 0)])] [2, 3] zny fun j => ?_
 obtain ⟨k9, i2, hF⟩ := znS hF
 refine zT hO (zeh (p0 := znl) i2) rfl fun _ σ _ _ hO c5 i3 => ?_
 have hL := hL.trans c5
 have q := q.le c5
 have B := B.le c5
 obtain ⟨l0, rfl, rfl, E⟩ := i3
 obtain ⟨l1, l2, rfl, -⟩ := E.form
 have hO := znR5 hO
 obtain ⟨l3, i4, hF⟩ := znS hF
 refine zT hO (zdc i4) rfl fun _ σ _ _ hO Y i5 => ?_
 have hL := hL.trans Y
 have q := q.le Y
 have B := B.le Y
 have E := E.le Y
 obtain ⟨l4, rfl, rfl, Z⟩ := i5
 obtain ⟨l5, l6, rfl, -⟩ := Z.form
 have hO := znR5 hO
 obtain ⟨k, i6, hF⟩ := znS hF
 refine zT hO (zfS (p0 := zns) E Z i6) rfl fun _ σ _ _ hO G i7 => ?_
 have hL := hL.trans G
 have q := q.le G
 have B := B.le G
 have E := E.le G
 have Z := Z.le G
 obtain ⟨l7, rfl, rfl, f9⟩ := i7
 obtain ⟨g0, g1, rfl, -⟩ := f9.form
 have hO := znR5 hO
 refine zbq (T := z5) (l := ([(⟨k.Kind, k.Num, k.Name, k.Field, k.Op, k.Kids⟩ : zc)] : List zc)) (cs := [.int .u8 (k.Kind.toNat : Int), .int .i64 k.Num, .string k.Name, .string k.Field, .string k.Op, znT g0 k.Kids g1]) hO rfl ⟨[.int .u8 (k.Kind.toNat : Int), .int .i64 k.Num, .string k.Name, .string k.Field, .string k.Op, znT g0 k.Kids g1], _, rfl, (zca ⟨_, rfl, f9⟩), rfl⟩ rfl (by decide) fun _ σ l8 b0 hO => ?_
 obtain ⟨c6, c7, rfl, -⟩ := b0.form
 have hO := znR6 hO
 refine zd hO 2 [] [(24, .agg #[(.int .u8 7), (.int .i64 2), (.string znk), (.string znk), (.string znk), (.int .u8 0), (.int .i64 0), (.string znk), (znT c6 ([(⟨k.Kind, k.Num, k.Name, k.Field, k.Op, k.Kids⟩ : zc)] : List zc) c7), (.slice W ([(⟨(8 : UInt8), 3, znk, znk, znk, (⟨(0 : UInt8), 0, znk⟩ : zx), ([(⟨o.Kind, o.Num, o.Name, o.Field, o.Op, o.Kids⟩ : zc)] : List zc), [], []⟩ : zg), (⟨(2 : UInt8), 4, znl, znk, znk, (⟨(0 : UInt8), 0, znk⟩ : zx), ([(⟨g.Kind, g.Num, g.Name, g.Field, g.Op, g.Kids⟩ : zc)] : List zc), [], []⟩ : zg)] : List zg).length X), (.slice none 0 0)])] [2, 18] zny fun j => ?_
 obtain ⟨_, c8, I, hO⟩ := B.share hO (i := 4) rfl
 have hL := hL.trans c8
 have b0 := b0.le c8
 have q := q.le c8
 have hO := znR6 hO
 obtain ⟨_, c9, d0, hO⟩ := b0.share hO (i := 5) rfl
 have hL := hL.trans c9
 have I := I.le c9
 have q := q.le c9
 have hO := znR6 hO
 obtain ⟨_, d5, i8, hO⟩ := q.share hO (i := 3) rfl
 have hL := hL.trans d5
 have I := I.le d5
 have d0 := d0.le d5
 have hO := znR6 hO
 refine zbq (T := zX) (l := ([(⟨(1 : UInt8), 1, znl, znk, znk, (⟨(1 : UInt8), 0, znk⟩ : zx), ([(⟨h.Kind, h.Num, h.Name, h.Field, h.Op, h.Kids⟩ : zc)] : List zc), [], []⟩ : zg), (⟨(7 : UInt8), 2, znk, znk, znk, (⟨(0 : UInt8), 0, znk⟩ : zx), ([(⟨k.Kind, k.Num, k.Name, k.Field, k.Op, k.Kids⟩ : zc)] : List zc), ([(⟨(8 : UInt8), 3, znk, znk, znk, (⟨(0 : UInt8), 0, znk⟩ : zx), ([(⟨o.Kind, o.Num, o.Name, o.Field, o.Op, o.Kids⟩ : zc)] : List zc), [], []⟩ : zg), (⟨(2 : UInt8), 4, znl, znk, znk, (⟨(0 : UInt8), 0, znk⟩ : zx), ([(⟨g.Kind, g.Num, g.Name, g.Field, g.Op, g.Kids⟩ : zc)] : List zc), [], []⟩ : zg)] : List zg), []⟩ : zg)] : List zg)) (cs := [.int .u8 1, .int .i64 1, .string znl, .string znk, .string znk, .int .u8 1, .int .i64 0, .string znk, znT c2 ([(⟨h.Kind, h.Num, h.Name, h.Field, h.Op, h.Kids⟩ : zc)] : List zc) c4, .slice none 0 0, .slice none 0 0, .int .u8 7, .int .i64 2, .string znk, .string znk, .string znk, .int .u8 0, .int .i64 0, .string znk, znT c6 ([(⟨k.Kind, k.Num, k.Name, k.Field, k.Op, k.Kids⟩ : zc)] : List zc) c7, .slice W ([(⟨(8 : UInt8), 3, znk, znk, znk, (⟨(0 : UInt8), 0, znk⟩ : zx), ([(⟨o.Kind, o.Num, o.Name, o.Field, o.Op, o.Kids⟩ : zc)] : List zc), [], []⟩ : zg), (⟨(2 : UInt8), 4, znl, znk, znk, (⟨(0 : UInt8), 0, znk⟩ : zx), ([(⟨g.Kind, g.Num, g.Name, g.Field, g.Op, g.Kids⟩ : zc)] : List zc), [], []⟩ : zg)] : List zg).length X, .slice none 0 0]) hO rfl ⟨[.int .u8 1, .int .i64 1, .string znl, .string znk, .string znk, .int .u8 1, .int .i64 0, .string znk, znT c2 ([(⟨h.Kind, h.Num, h.Name, h.Field, h.Op, h.Kids⟩ : zc)] : List zc) c4, .slice none 0 0, .slice none 0 0], _, rfl, (zcj ⟨_, _, _, rfl, I, RdT.nil _ _, RdT.nil _ _⟩), ⟨[.int .u8 7, .int .i64 2, .string znk, .string znk, .string znk, .int .u8 0, .int .i64 0, .string znk, znT c6 ([(⟨k.Kind, k.Num, k.Name, k.Field, k.Op, k.Kids⟩ : zc)] : List zc) c7, .slice W ([(⟨(8 : UInt8), 3, znk, znk, znk, (⟨(0 : UInt8), 0, znk⟩ : zx), ([(⟨o.Kind, o.Num, o.Name, o.Field, o.Op, o.Kids⟩ : zc)] : List zc), [], []⟩ : zg), (⟨(2 : UInt8), 4, znl, znk, znk, (⟨(0 : UInt8), 0, znk⟩ : zx), ([(⟨g.Kind, g.Num, g.Name, g.Field, g.Op, g.Kids⟩ : zc)] : List zc), [], []⟩ : zg)] : List zg).length X, .slice none 0 0], _, rfl, (zcj ⟨_, _, _, rfl, d0, i8, RdT.nil _ _⟩), rfl⟩⟩ rfl (by decide) fun _ σ l9 d6 hO => ?_
 obtain ⟨b1, b3, rfl, -⟩ := d6.form
 have hO := znR7 hO
 refine ze hO [] [(4, .slice b1 ([(⟨(1 : UInt8), 1, znl, znk, znk, (⟨(1 : UInt8), 0, znk⟩ : zx), ([(⟨h.Kind, h.Num, h.Name, h.Field, h.Op, h.Kids⟩ : zc)] : List zc), [], []⟩ : zg), (⟨(7 : UInt8), 2, znk, znk, znk, (⟨(0 : UInt8), 0, znk⟩ : zx), ([(⟨k.Kind, k.Num, k.Name, k.Field, k.Op, k.Kids⟩ : zc)] : List zc), ([(⟨(8 : UInt8), 3, znk, znk, znk, (⟨(0 : UInt8), 0, znk⟩ : zx), ([(⟨o.Kind, o.Num, o.Name, o.Field, o.Op, o.Kids⟩ : zc)] : List zc), [], []⟩ : zg), (⟨(2 : UInt8), 4, znl, znk, znk, (⟨(0 : UInt8), 0, znk⟩ : zx), ([(⟨g.Kind, g.Num, g.Name, g.Field, g.Op, g.Kids⟩ : zc)] : List zc), [], []⟩ : zg)] : List zg), []⟩ : zg)] : List zg).length b3)] [2] znx fun j => ?_
 refine zd hO 2 [] [(27, .agg #[(.string znm), (.int .i64 1), (.slice none 0 0), (.int .u8 0), (.int .i64 0), (.string znk), (.slice b1 ([(⟨(1 : UInt8), 1, znl, znk, znk, (⟨(1 : UInt8), 0, znk⟩ : zx), ([(⟨h.Kind, h.Num, h.Name, h.Field, h.Op, h.Kids⟩ : zc)] : List zc), [], []⟩ : zg), (⟨(7 : UInt8), 2, znk, znk, znk, (⟨(0 : UInt8), 0, znk⟩ : zx), ([(⟨k.Kind, k.Num, k.Name, k.Field, k.Op, k.Kids⟩ : zc)] : List zc), ([(⟨(8 : UInt8), 3, znk, znk, znk, (⟨(0 : UInt8), 0, znk⟩ : zx), ([(⟨o.Kind, o.Num, o.Name, o.Field, o.Op, o.Kids⟩ : zc)] : List zc), [], []⟩ : zg), (⟨(2 : UInt8), 4, znl, znk, znk, (⟨(0 : UInt8), 0, znk⟩ : zx), ([(⟨g.Kind, g.Num, g.Name, g.Field, g.Op, g.Kids⟩ : zc)] : List zc), [], []⟩ : zg)] : List zg), []⟩ : zg)] : List zg).length b3)])] [2] znx fun j => ?_
 obtain ⟨_, g2, g3, hO⟩ := d6.share hO (i := 6) rfl
 have hL := hL.trans g2
 have hO := znR7 hO
 refine zbq (T := zr) (l := ([(⟨znm, 1, [], (⟨(0 : UInt8), 0, znk⟩ : zx), ([(⟨(1 : UInt8), 1, znl, znk, znk, (⟨(1 : UInt8), 0, znk⟩ : zx), ([(⟨h.Kind, h.Num, h.Name, h.Field, h.Op, h.Kids⟩ : zc)] : List zc), [], []⟩ : zg), (⟨(7 : UInt8), 2, znk, znk, znk, (⟨(0 : UInt8), 0, znk⟩ : zx), ([(⟨k.Kind, k.Num, k.Name, k.Field, k.Op, k.Kids⟩ : zc)] : List zc), ([(⟨(8 : UInt8), 3, znk, znk, znk, (⟨(0 : UInt8), 0, znk⟩ : zx), ([(⟨o.Kind, o.Num, o.Name, o.Field, o.Op, o.Kids⟩ : zc)] : List zc), [], []⟩ : zg), (⟨(2 : UInt8), 4, znl, znk, znk, (⟨(0 : UInt8), 0, znk⟩ : zx), ([(⟨g.Kind, g.Num, g.Name, g.Field, g.Op, g.Kids⟩ : zc)] : List zc), [], []⟩ : zg)] : List zg), []⟩ : zg)] : List zg)⟩ : zP)] : List zP)) (cs := [.string znm, .int .i64 1, .slice none 0 0, .int .u8 0, .int .i64 0, .string znk, .slice b1 ([(⟨(1 : UInt8), 1, znl, znk, znk, (⟨(1 : UInt8), 0, znk⟩ : zx), ([(⟨h.Kind, h.Num, h.Name, h.Field, h.Op, h.Kids⟩ : zc)] : List zc), [], []⟩ : zg), (⟨(7 : UInt8), 2, znk, znk, znk, (⟨(0 : UInt8), 0, znk⟩ : zx), ([(⟨k.Kind, k.Num, k.Name, k.Field, k.Op, k.Kids⟩ : zc)] : List zc), ([(⟨(8 : UInt8), 3, znk, znk, znk, (⟨(0 : UInt8), 0, znk⟩ : zx), ([(⟨o.Kind, o.Num, o.Name, o.Field, o.Op, o.Kids⟩ : zc)] : List zc), [], []⟩ : zg), (⟨(2 : UInt8), 4, znl, znk, znk, (⟨(0 : UInt8), 0, znk⟩ : zx), ([(⟨g.Kind, g.Num, g.Name, g.Field, g.Op, g.Kids⟩ : zc)] : List zc), [], []⟩ : zg)] : List zg), []⟩ : zg)] : List zg).length b3]) hO rfl ⟨[.string znm, .int .i64 1, .slice none 0 0, .int .u8 0, .int .i64 0, .string znk, .slice b1 ([(⟨(1 : UInt8), 1, znl, znk, znk, (⟨(1 : UInt8), 0, znk⟩ : zx), ([(⟨h.Kind, h.Num, h.Name, h.Field, h.Op, h.Kids⟩ : zc)] : List zc), [], []⟩ : zg), (⟨(7 : UInt8), 2, znk, znk, znk, (⟨(0 : UInt8), 0, znk⟩ : zx), ([(⟨k.Kind, k.Num, k.Name, k.Field, k.Op, k.Kids⟩ : zc)] : List zc), ([(⟨(8 : UInt8), 3, znk, znk, znk, (⟨(0 : UInt8), 0, znk⟩ : zx), ([(⟨o.Kind, o.Num, o.Name, o.Field, o.Op, o.Kids⟩ : zc)] : List zc), [], []⟩ : zg), (⟨(2 : UInt8), 4, znl, znk, znk, (⟨(0 : UInt8), 0, znk⟩ : zx), ([(⟨g.Kind, g.Num, g.Name, g.Field, g.Op, g.Kids⟩ : zc)] : List zc), [], []⟩ : zg)] : List zg), []⟩ : zg)] : List zg).length b3], _, rfl, ⟨_, _, rfl, RdT.nil _ _, g3⟩, rfl⟩ rfl (by decide) fun _ σ j4 d7 hO => ?_
 obtain ⟨g4, g5, rfl, -⟩ := d7.form
 have hO := znR8 hO
 refine zF hO 1 [] [(2, znN b2), (29, .agg #[(.slice none 0 0), (.slice g4 ([(⟨znm, 1, [], (⟨(0 : UInt8), 0, znk⟩ : zx), ([(⟨(1 : UInt8), 1, znl, znk, znk, (⟨(1 : UInt8), 0, znk⟩ : zx), ([(⟨h.Kind, h.Num, h.Name, h.Field, h.Op, h.Kids⟩ : zc)] : List zc), [], []⟩ : zg), (⟨(7 : UInt8), 2, znk, znk, znk, (⟨(0 : UInt8), 0, znk⟩ : zx), ([(⟨k.Kind, k.Num, k.Name, k.Field, k.Op, k.Kids⟩ : zc)] : List zc), ([(⟨(8 : UInt8), 3, znk, znk, znk, (⟨(0 : UInt8), 0, znk⟩ : zx), ([(⟨o.Kind, o.Num, o.Name, o.Field, o.Op, o.Kids⟩ : zc)] : List zc), [], []⟩ : zg), (⟨(2 : UInt8), 4, znl, znk, znk, (⟨(0 : UInt8), 0, znk⟩ : zx), ([(⟨g.Kind, g.Num, g.Name, g.Field, g.Op, g.Kids⟩ : zc)] : List zc), [], []⟩ : zg)] : List zg), []⟩ : zg)] : List zg)⟩ : zP)] : List zP).length g5)])] znx fun j => ?_
 refine zy hO (i := 0) rfl (off := 0) rfl rfl rfl rfl (Nat.le_of_ble_eq_true rfl) rfl fun σ hO => ?_
 have hO := znR8 hO
 refine zf (zW ?_)
 obtain ⟨_, g6, g7, hO⟩ := d7.share hO (i := 7) rfl
 have hL := hL.trans g6
 have hO := znR8 hO
 cases hF
 have i9 := hO.val (i := 0) rfl (off := 0) (agg := true) (n := 2) rfl
 have hO := hO.sel []
 exact hQ _ _ _ _ _ (zbP rfl (i9) rfl) hO hL ⟨_, _, rfl, rfl, (RdT.nil _ _), g7⟩
theorem zgU {τ : Hp} {p0 : Int}  {rr : zq} (hF : zc5 p0 = some rr) :
  Ctr Try.prog 21 #[.int .i64 p0] τ [] (fun v τ' vs' => ∃ (bF bL bK : Nat) (k1 : List zc) (V1 : Value) (x : zc) (V3 : Value) (inn : List zg) (V2 : Value), v = .agg #[.slice none 0 0, .slice (some ⟨bF, 0, none⟩) 1 1] ∧ vs' = [some (bF, ⟨[.string znm, .int .i64 1, .slice none 0 0, .int .u8 0, .int .i64 0, .string znk, .slice (some ⟨bL, 0, none⟩) 2 2], 53, 7, true⟩), some (bL, ⟨[.int .u8 1, .int .i64 1, .string znl, .string znk, .string znk, .int .u8 1, .int .i64 0, .string znk, V1, .slice none 0 0, .slice none 0 0, .int .u8 7, .int .i64 2, .string znk, .string znk, .string znk, .int .u8 0, .int .i64 0, .string znk, .slice (some ⟨bK, 0, none⟩) 1 1, V2, .slice none 0 0], 73, 22, true⟩), some (bK, ⟨[.int .u8 (x.Kind.toNat : Int), .int .i64 x.Num, .string x.Name, .string x.Field, .string x.Op, V3], 71, 6, true⟩)] ∧ RdT z5 τ' V1 k1 ∧ RdT z5 τ' V3 x.Kids ∧ RdT zX τ' V2 inn ∧ rr = (⟨[], [⟨znm, 1, [], ⟨0, 0, znk⟩, [⟨1, 1, znl, znk, znk, ⟨1, 0, znk⟩, k1, [], []⟩, ⟨7, 2, znk, znk, znk, ⟨0, 0, znk⟩, [⟨x.Kind, x.Num, x.Name, x.Field, x.Op, x.Kids⟩], inn, []⟩]⟩]⟩ : zq)) := by
 refine zbh (args := [.int .i64 p0]) hm Try.func21 s21 rfl fun w0 σ hO Q hQ => ?_
 unfold zc5 at hF
 have hL := Hp.le.refl τ
 show wpn _ _ a21.body _ _ _
 unfold a21
 dsimp only
 refine zbg hO fun b2 σ hO => ?_
 have hO := znR1 hO
 refine zf ?_
 obtain ⟨o, h4, hF⟩ := znS hF
 refine zT hO (zeh (p0 := znl) h4) rfl fun _ σ _ _ hO h5 h6 => ?_
 have hL := hL.trans h5
 obtain ⟨v7, rfl, rfl, r8⟩ := h6
 obtain ⟨A9, c4, rfl, -⟩ := r8.form
 have hO := znR1 hO
 refine zbq (T := z5) (l := ([(⟨o.Kind, o.Num, o.Name, o.Field, o.Op, o.Kids⟩ : zc)] : List zc)) (cs := [.int .u8 (o.Kind.toNat : Int), .int .i64 o.Num, .string o.Name, .string o.Field, .string o.Op, znT A9 o.Kids c4]) hO rfl ⟨[.int .u8 (o.Kind.toNat : Int), .int .i64 o.Num, .string o.Name, .string o.Field, .string o.Op, znT A9 o.Kids c4], _, rfl, (zca ⟨_, rfl, r8⟩), rfl⟩ rfl (by decide) fun _ σ i4 B hO => ?_
 obtain ⟨b0, b1, rfl, -⟩ := B.form
 have hO := znR2 hO
 refine zd hO 1 [] [(7, .agg #[(.int .u8 8), (.int .i64 3), (.string znk), (.string znk), (.string znk), (.int .u8 0), (.int .i64 0), (.string znk), (znT b0 ([(⟨o.Kind, o.Num, o.Name, o.Field, o.Op, o.Kids⟩ : zc)] : List zc) b1), (.slice none 0 0), (.slice none 0 0)])] [0, 2] zny fun j => ?_
 obtain ⟨i5, f7, hF⟩ := znS hF
 refine zT hO (zeh (p0 := znl) f7) rfl fun _ σ _ _ hO c5 f8 => ?_
 have hL := hL.trans c5
 have B := B.le c5
 obtain ⟨i6, rfl, rfl, G⟩ := f8
 obtain ⟨i7, i8, rfl, -⟩ := G.form
 have hO := znR2 hO
 obtain ⟨i9, f9, hF⟩ := znS hF
 refine zT hO (zdc f9) rfl fun _ σ _ _ hO b3 g0 => ?_
 have hL := hL.trans b3
 have B := B.le b3
 have G := G.le b3
 obtain ⟨j0, rfl, rfl, V⟩ := g0
 obtain ⟨j1, j2, rfl, -⟩ := V.form
 have hO := znR2 hO
 obtain ⟨g, g1, hF⟩ := znS hF
 refine zT hO (zfS (p0 := znr) G V g1) rfl fun _ σ _ _ hO W g2 => ?_
 have hL := hL.trans W
 have B := B.le W
 have G := G.le W
 have V := V.le W
 obtain ⟨j3, rfl, rfl, c6⟩ := g2
 obtain ⟨c7, c8, rfl, -⟩ := c6.form
 have hO := znR2 hO
 refine zbq (T := z5) (l := ([(⟨g.Kind, g.Num, g.Name, g.Field, g.Op, g.Kids⟩ : zc)] : List zc)) (cs := [.int .u8 (g.Kind.toNat : Int), .int .i64 g.Num, .string g.Name, .string g.Field, .string g.Op, znT c7 g.Kids c8]) hO rfl ⟨[.int .u8 (g.Kind.toNat : Int), .int .i64 g.Num, .string g.Name, .string g.Field, .string g.Op, znT c7 g.Kids c8], _, rfl, (zca ⟨_, rfl, c6⟩), rfl⟩ rfl (by decide) fun _ σ j4 X hO => ?_
 obtain ⟨b4, b5, rfl, -⟩ := X.form
 have hO := znR3 hO
 refine zd hO 1 [] [(12, .agg #[(.int .u8 2), (.int .i64 4), (.string znl), (.string znk), (.string znk), (.int .u8 0), (.int .i64 0), (.string znk), (znT b4 ([(⟨g.Kind, g.Num, g.Name, g.Field, g.Op, g.Kids⟩ : zc)] : List zc) b5), (.slice none 0 0), (.slice none 0 0)])] [0, 2, 7] znz fun j => ?_
 obtain ⟨_, c9, b6, hO⟩ := B.share hO (i := 1) rfl
 have hL := hL.trans c9
 have X := X.le c9
 have hO := znR3 hO
 obtain ⟨_, d0, g3, hO⟩ := X.share hO (i := 2) rfl
 have hL := hL.trans d0
 have b6 := b6.le d0
 have hO := znR3 hO
 refine zbq (T := zX) (l := ([(⟨(8 : UInt8), 3, znk, znk, znk, (⟨(0 : UInt8), 0, znk⟩ : zx), ([(⟨o.Kind, o.Num, o.Name, o.Field, o.Op, o.Kids⟩ : zc)] : List zc), [], []⟩ : zg), (⟨(2 : UInt8), 4, znl, znk, znk, (⟨(0 : UInt8), 0, znk⟩ : zx), ([(⟨g.Kind, g.Num, g.Name, g.Field, g.Op, g.Kids⟩ : zc)] : List zc), [], []⟩ : zg)] : List zg)) (cs := [.int .u8 8, .int .i64 3, .string znk, .string znk, .string znk, .int .u8 0, .int .i64 0, .string znk, znT b0 ([(⟨o.Kind, o.Num, o.Name, o.Field, o.Op, o.Kids⟩ : zc)] : List zc) b1, .slice none 0 0, .slice none 0 0, .int .u8 2, .int .i64 4, .string znl, .string znk, .string znk, .int .u8 0, .int .i64 0, .string znk, znT b4 ([(⟨g.Kind, g.Num, g.Name, g.Field, g.Op, g.Kids⟩ : zc)] : List zc) b5, .slice none 0 0, .slice none 0 0]) hO rfl ⟨[.int .u8 8, .int .i64 3, .string znk, .string znk, .string znk, .int .u8 0, .int .i64 0, .string znk, znT b0 ([(⟨o.Kind, o.Num, o.Name, o.Field, o.Op, o.Kids⟩ : zc)] : List zc) b1, .slice none 0 0, .slice none 0 0], _, rfl, (zcj ⟨_, _, _, rfl, b6, RdT.nil _ _, RdT.nil _ _⟩), ⟨[.int .u8 2, .int .i64 4, .string znl, .string znk, .string znk, .int .u8 0, .int .i64 0, .string znk, znT b4 ([(⟨g.Kind, g.Num, g.Name, g.Field, g.Op, g.Kids⟩ : zc)] : List zc) b5, .slice none 0 0, .slice none 0 0], _, rfl, (zcj ⟨_, _, _, rfl, g3, RdT.nil _ _, RdT.nil _ _⟩), rfl⟩⟩ rfl (by decide) fun _ σ j5 z hO => ?_
 obtain ⟨b7, b8, rfl, -⟩ := z.form
 have hO := znR4 hO
 refine ze hO [] [(3, .slice b7 ([(⟨(8 : UInt8), 3, znk, znk, znk, (⟨(0 : UInt8), 0, znk⟩ : zx), ([(⟨o.Kind, o.Num, o.Name, o.Field, o.Op, o.Kids⟩ : zc)] : List zc), [], []⟩ : zg), (⟨(2 : UInt8), 4, znl, znk, znk, (⟨(0 : UInt8), 0, znk⟩ : zx), ([(⟨g.Kind, g.Num, g.Name, g.Field, g.Op, g.Kids⟩ : zc)] : List zc), [], []⟩ : zg)] : List zg).length b8)] [0, 2] zny fun j => ?_
 refine zd hO 2 [] [(14, .agg #[(.int .u8 1), (.int .i64 0), (.string znk)]), (15, znM p0)] [2, 3] znz fun j => ?_
 obtain ⟨q, g4, hF⟩ := znS hF
 refine zT hO (zdc g4) rfl fun _ σ _ _ hO d5 g5 => ?_
 have hL := hL.trans d5
 have z := z.le d5
 obtain ⟨j6, rfl, rfl, d6⟩ := g5
 obtain ⟨d7, d8, rfl, -⟩ := d6.form
 have hO := znR4 hO
 refine zbq (T := z5) (l := ([(⟨q.Kind, q.Num, q.Name, q.Field, q.Op, q.Kids⟩ : zc)] : List zc)) (cs := [.int .u8 (q.Kind.toNat : Int), .int .i64 q.Num, .string q.Name, .string q.Field, .string q.Op, znT d7 q.Kids d8]) hO rfl ⟨[.int .u8 (q.Kind.toNat : Int), .int .i64 q.Num, .string q.Name, .string q.Field, .string q.Op, znT d7 q.Kids d8], _, rfl, (zca ⟨_, rfl, d6⟩), rfl⟩ rfl (by decide) fun _ σ j7 D hO => ?_
 obtain ⟨d9, f0, rfl, -⟩ := D.form
 have hO := znR5 hO
 refine zd hO 1 [] [(18, .agg #[(.int .u8 1), (.int .i64 1), (.string znl), (.string znk), (.string znk), (.int .u8 1), (.int .i64 0), (.string znk), (znT d9 ([(⟨q.Kind, q.Num, q.Name, q.Field, q.Op, q.Kids⟩ : zc)] : List zc) f0), (.slice none 0 0), (.slice none 0 0)])] [2, 3] zny fun j => ?_
 obtain ⟨j8, g6, hF⟩ := znS hF
 refine zT hO (zeh (p0 := znl) g6) rfl fun _ σ _ _ hO b9 g7 => ?_
 have hL := hL.trans b9
 have z := z.le b9
 have D := D.le b9
 obtain ⟨j9, rfl, rfl, I⟩ := g7
 obtain ⟨k0, k2, rfl, -⟩ := I.form
 have hO := znR5 hO
 obtain ⟨k3, g8, hF⟩ := znS hF
 refine zT hO (zdc g8) rfl fun _ σ _ _ hO Y g9 => ?_
 have hL := hL.trans Y
 have z := z.le Y
 have D := D.le Y
 have I := I.le Y
 obtain ⟨k4, rfl, rfl, Z⟩ := g9
 obtain ⟨k5, k6, rfl, -⟩ := Z.form
 have hO := znR5 hO
 obtain ⟨E, h0, hF⟩ := znS hF
 refine zT hO (zfS (p0 := zns) I Z h0) rfl fun _ σ _ _ hO U h1 => ?_
 have hL := hL.trans U
 have z := z.le U
 have D := D.le U
 have I := I.le U
 have Z := Z.le U
 obtain ⟨k7, rfl, rfl, S⟩ := h1
 obtain ⟨h2, h3, rfl, -⟩ := S.form
 have hO := znR5 hO
 refine zh5 (cs := [.int .u8 (E.Kind.toNat : Int), .int .i64 E.Num, .string E.Name, .string E.Field, .string E.Op, .slice h2 E.Kids.length h3]) hO rfl fun bK σ hO => ?_
 have hO := znR6 hO
 refine zd hO 2 [] [(24, .agg #[.int .u8 7, .int .i64 2, .string znk, .string znk, .string znk, .int .u8 0, .int .i64 0, .string znk, .slice (some ⟨bK, 0, none⟩) 1 1, .slice b7 ([(⟨(8 : UInt8), 3, znk, znk, znk, (⟨(0 : UInt8), 0, znk⟩ : zx), ([(⟨o.Kind, o.Num, o.Name, o.Field, o.Op, o.Kids⟩ : zc)] : List zc), [], []⟩ : zg), (⟨(2 : UInt8), 4, znl, znk, znk, (⟨(0 : UInt8), 0, znk⟩ : zx), ([(⟨g.Kind, g.Num, g.Name, g.Field, g.Op, g.Kids⟩ : zc)] : List zc), [], []⟩ : zg)] : List zg).length b8, .slice none 0 0])] [2, 18] zny fun j => ?_
 obtain ⟨_, c0, c1, hO⟩ := D.share hO (i := 4) rfl
 have hL := hL.trans c0
 have z := z.le c0
 have S := S.le c0
 have hO := znR6 hO
 obtain ⟨_, c2, h7, hO⟩ := z.share hO (i := 3) rfl
 have hL := hL.trans c2
 have c1 := c1.le c2
 have S := S.le c2
 have hO := znR6 hO
 refine zh5 (cs := [.int .u8 1, .int .i64 1, .string znl, .string znk, .string znk, .int .u8 1, .int .i64 0, .string znk, znT d9 ([(⟨q.Kind, q.Num, q.Name, q.Field, q.Op, q.Kids⟩ : zc)] : List zc) f0, .slice none 0 0, .slice none 0 0, .int .u8 7, .int .i64 2, .string znk, .string znk, .string znk, .int .u8 0, .int .i64 0, .string znk, .slice (some ⟨bK, 0, none⟩) 1 1, .slice b7 ([(⟨(8 : UInt8), 3, znk, znk, znk, (⟨(0 : UInt8), 0, znk⟩ : zx), ([(⟨o.Kind, o.Num, o.Name, o.Field, o.Op, o.Kids⟩ : zc)] : List zc), [], []⟩ : zg), (⟨(2 : UInt8), 4, znl, znk, znk, (⟨(0 : UInt8), 0, znk⟩ : zx), ([(⟨g.Kind, g.Num, g.Name, g.Field, g.Op, g.Kids⟩ : zc)] : List zc), [], []⟩ : zg)] : List zg).length b8, .slice none 0 0]) hO rfl fun bL σ hO => ?_
 have hO := znR7 hO
 refine ze hO [] [(4, .slice (some ⟨bL, 0, none⟩) 2 2)] [2] znx fun j => ?_
 refine zd hO 2 [] [(27, .agg #[.string znm, .int .i64 1, .slice none 0 0, .int .u8 0, .int .i64 0, .string znk, .slice (some ⟨bL, 0, none⟩) 2 2])] [2] znx fun j => ?_
 refine zh5 (cs := [.string znm, .int .i64 1, .slice none 0 0, .int .u8 0, .int .i64 0, .string znk, .slice (some ⟨bL, 0, none⟩) 2 2]) hO rfl fun bF σ hO => ?_
 have hO := znR8 hO
 refine zF hO 1 [] [(2, znN b2), (29, .agg #[(.slice none 0 0), .slice (some ⟨bF, 0, none⟩) 1 1])] znx fun j => ?_
 refine zy hO (i := 0) rfl (off := 0) rfl rfl rfl rfl (Nat.le_of_ble_eq_true rfl) rfl fun σ hO => ?_
 have hO := znR8 hO
 refine zf (zW ?_)
 cases hF
 have h8 := hO.val (i := 0) rfl (off := 0) (agg := true) (n := 2) rfl
 have hO := hO.sel [7, 6, 5]
 exact hQ _ _ _ _ _ (zbP rfl (h8) rfl) hO hL ⟨bF, bL, bK, _, _, E, _, _, _, rfl, rfl, c1, S, h7, rfl⟩
def ziw (p : zq) : Option zq := match p with
 | ⟨s, [⟨a, b, c, d, [x, y]⟩]⟩ => some ⟨s, [⟨a, b, c, d, [⟨x.Kind, x.Line, znp, x.Field, x.Call, x.Type_, x.Kids, x.Body, x.Else⟩, y]⟩]⟩
 | _ => none
def zjh (p : zq) : Option zq := match p with
 | ⟨s, [⟨a, b, c, d, [x, y]⟩]⟩ => some ⟨s, [⟨a, b, c, d, [x, ⟨y.Kind, y.Line, y.Name, y.Field, y.Call, y.Type_, [⟨1, 1, znk, znk, znk, []⟩], y.Body, y.Else⟩]⟩]⟩
 | _ => none
def okT : Option (zw × Int × Int) → Bool
 | some (⟨[⟨_, _, _, _, [_, _]⟩], _, [⟨_, _, []⟩, ⟨_, _, [_]⟩, ⟨_, n2, _⟩, _]⟩, n, e) => n == 0 && (e == 0 && n2 == 3)
 | _ => false
def okE (n e : Int) : Option (zw × Int × Int) → Bool
 | some (_, k, h) => (k == n || n == -1) && h == e
 | _ => false
def ziI (F : zq → Option (zw × Int × Int)) : Option zq → Bool
 | none => false
 | some p => okT (F p) && (okE 0 8 ((ziw p).bind F) && (okE (-1) 9 ((zjh p).bind F) && okE 0 8 (F ⟨[], []⟩)))
theorem zng {o : Option (zw × Int × Int)} (h : okT o = true) : ∃ nm pr rs vs a1 a2 m g j k q s1 v s2 z, o = some ((⟨[⟨nm, pr, rs, vs, [a1, a2]⟩], m, [⟨g, j, []⟩, ⟨k, q, [s1]⟩, ⟨v, 3, s2⟩, z]⟩ : zw), 0, 0) := by
 unfold okT at h
 split at h
 ·simp only [Bool.and_eq_true, beq_iff_eq] at h
  obtain ⟨rfl, rfl, rfl⟩ := h
  exact ⟨_, _, _, _, _, _, _, _, _, _, _, _, _, _, _, rfl⟩
 ·cases h
theorem zhA {n e : Int} {o : Option (zw × Int × Int)} (h : okE n e o = true) : ∃ t k, o = some (t, k, e) ∧ (n ≠ -1 → k = n) := by
 unfold okE at h
 split at h
 ·simp only [Bool.and_eq_true, Bool.or_eq_true, beq_iff_eq] at h
  obtain ⟨g, rfl⟩ := h
  exact ⟨_, _, rfl, fun hn => g.resolve_right hn⟩
 ·cases h
theorem okW : ziI zcz (zc5 2) = true := by kernel_rfl
theorem zmz : ∃ p, zc5 2 = some p ∧ (∃ nm pr rs vs a1 a2 m q v z B s1 D s2 E, zcz p = some ((⟨[⟨nm, pr, rs, vs, [a1, a2]⟩], m, [⟨q, v, []⟩, ⟨z, B, [s1]⟩, ⟨D, 3, s2⟩, E]⟩ : zw), 0, 0)) ∧ (∃ t, (ziw p).bind zcz = some (t, 0, 8)) ∧ (∃ t k, (zjh p).bind zcz = some (t, k, 9)) ∧ ∃ t, zcz ⟨[], []⟩ = some (t, 0, 8) := by
 have h := okW
 generalize zc5 2 = o at h ⊢
 generalize zcz = F at h ⊢
 cases o with
 | none => cases h
 | some p =>
  simp only [ziI, Bool.and_eq_true] at h
  obtain ⟨G, I, S, U⟩ := h
  obtain ⟨V, k2, g, W⟩ := zhA I
  obtain ⟨X, Y, Z, e3⟩ := zhA S
  obtain ⟨t4, k4, j, e4⟩ := zhA U
  rw [W (by decide)] at g
  rw [e4 (by decide)] at j
  exact ⟨p, rfl, zng G, ⟨V, g⟩, ⟨X, Y, Z⟩, t4, j⟩
theorem znc {τ : Hp} : Ctr Try.prog 9 #[] τ [] (fun v τ' vs' => v = .bool true ∧ vs' = []) := by
 obtain ⟨p, hp, ⟨nm, pr, rs, vs, a1, a2, m, f0, l0, f1, l1, s1, f2, s2, x3, ht⟩, ⟨t2, hn⟩, ⟨t3, k3, hk⟩, t4, h4⟩ := zmz
 refine zbh (args := []) hm Try.func9 s9 rfl fun w0 σ hO Q hQ => ?_
 have hL := Hp.le.refl τ
 show wpn _ _ a9.body _ _ _
 unfold a9
 dsimp only
 refine zz hO [] [] trivial fun j => ?_
 refine zT hO (zmv hp) rfl fun _ σ _ _ hO h5 h6 => ?_
 have hL := hL.trans h5
 obtain ⟨v7, v8, rfl, rfl, r7, r8⟩ := h6
 have hO : Obs _ _ [] := hO
 refine zT hO (zft r7 r8 ht) rfl fun _ σ _ _ hO h9 c9 => ?_
 have hL := hL.trans h9
 obtain ⟨h3, h7, rfl, rfl, rB, rP⟩ := c9
 obtain ⟨AB, cB, rfl, -⟩ := rB.form
 obtain ⟨AP, cP, rfl, -⟩ := rP.form
 have hO : Obs _ _ [] := hO
 refine zF hO 4 [] [(18, .agg #[.slice AB 1 cB, .int .i64 m, .slice AP 4 cP]), (19, znM 0), (20, znM 0)] ⟨rfl, rfl, rfl, trivial⟩ fun j => ?_
 refine zbg hO fun h σ hO => ?_
 have hO := znR1 hO
 refine zy hO (i := 0) rfl (off := 0) rfl rfl rfl rfl (Nat.le_of_ble_eq_true rfl) rfl fun σ hO => ?_
 have hO := znR1 hO
 refine zz hO [] [(1, znN h), (2, znM 0), (3, znM 0)] ⟨rfl, rfl, rfl, trivial⟩ fun j => ?_
 -- p
 refine zT hO (zgU hp) rfl fun _ σ _ _ hO S d0 => ?_
 have hL := hL.trans S
 have rB := rB.le S
 have rP := rP.le S
 obtain ⟨bF, bL, bK, z, U, x, V3, inn, V, rfl, rfl, k, G, o, hpe⟩ := d0
 have hO := znR4 hO
 refine zbg hO fun b4 σ hO => ?_
 have hO := znR5 hO
 refine zy hO (i := 4) rfl (off := 0) rfl rfl rfl rfl (Nat.le_of_ble_eq_true rfl) rfl fun σ hO => ?_
 have hO := znR5 hO
 refine zf (zF hO 2 [4] [(1, znN h), (2, znM 0), (3, znM 0), (4, znN b4), (23, .slice (some ⟨bF, 0, none⟩) 1 1)] ⟨⟨rfl, rfl⟩, rfl, rfl, rfl, rfl, rfl, trivial⟩ fun j => ?_)
 refine zeP rfl rfl (by decide) (by decide) ?_
 refine zF hO 2 [1] [(1, znN h), (2, znM 0), (3, znM 0), (4, znN b4), (26, .slice (some ⟨bL, 0, none⟩) 2 2)] ⟨⟨rfl, rfl⟩, rfl, rfl, rfl, rfl, rfl, trivial⟩ fun j => ?_
 refine zeP rfl rfl (by decide) (by decide) ?_
 refine zF hO 1 [] [(1, znN h), (2, znM 0), (3, znM 0), (4, znN b4), (28, .pointer (some ⟨bL, 2, none⟩))] ⟨rfl, rfl, rfl, rfl, rfl, trivial⟩ fun j => ?_
 refine zy hO (i := 2) rfl (off := 2) rfl rfl rfl rfl (Nat.le_of_ble_eq_true rfl) rfl fun σ hO => ?_
 have hO : Obs _ _ [_, some (bF, ⟨[.string znm, .int .i64 1, .slice none 0 0, .int .u8 0, .int .i64 0, .string znk, .slice (some ⟨bL, 0, none⟩) 2 2], 53, 7, true⟩), some (bL, ⟨[.int .u8 1, .int .i64 1, .string znp, .string znk, .string znk, .int .u8 1, .int .i64 0, .string znk, U, .slice none 0 0, .slice none 0 0, .int .u8 7, .int .i64 2, .string znk, .string znk, .string znk, .int .u8 0, .int .i64 0, .string znk, .slice (some ⟨bK, 0, none⟩) 1 1, V, .slice none 0 0], 73, 22, true⟩), some (bK, ⟨[.int .u8 (x.Kind.toNat : Int), .int .i64 x.Num, .string x.Name, .string x.Field, .string x.Op, V3], 71, 6, true⟩), _] := hO
 refine zf (zF hO 1 [4] [(1, znN h), (2, znM 0), (3, znM 0), (30, .agg #[.slice none 0 0, .slice (some ⟨bF, 0, none⟩) 1 1])] ⟨⟨rfl, rfl⟩, rfl, rfl, rfl, rfl, trivial⟩ fun j => ?_)
 obtain ⟨_, B, rK, hO⟩ := (za.ofRow (T := z5) (l := [⟨x.Kind, x.Num, x.Name, x.Field, x.Op, x.Kids⟩]) (n := 1) (ty := 71) (bb := bK) ⟨[.int .u8 (x.Kind.toNat : Int), .int .i64 x.Num, .string x.Name, .string x.Field, .string x.Op, V3], _, rfl, zca ⟨_, rfl, G⟩, rfl⟩ rfl rfl (by decide)).share hO (i := 3) rfl
 have hL := hL.trans B
 have rB := rB.le B
 have rP := rP.le B
 have k := k.le B
 have o := o.le B
 have hO := znR5 hO
 obtain ⟨_, W, rL, hO⟩ := (za.ofRow (T := zX) (l := [⟨1, 1, znp, znk, znk, ⟨1, 0, znk⟩, z, [], []⟩, ⟨7, 2, znk, znk, znk, ⟨0, 0, znk⟩, [⟨x.Kind, x.Num, x.Name, x.Field, x.Op, x.Kids⟩], inn, []⟩]) (n := 2) (ty := 73) (bb := bL) ⟨[.int .u8 1, .int .i64 1, .string znp, .string znk, .string znk, .int .u8 1, .int .i64 0, .string znk, U, .slice none 0 0, .slice none 0 0], _, rfl, zcj ⟨_, _, _, rfl, k, RdT.nil _ _, RdT.nil _ _⟩, ⟨[.int .u8 7, .int .i64 2, .string znk, .string znk, .string znk, .int .u8 0, .int .i64 0, .string znk, .slice (some ⟨bK, 0, none⟩) 1 1, V, .slice none 0 0], _, rfl, zcj ⟨_, _, _, rfl, rK, o, RdT.nil _ _⟩, rfl⟩⟩ rfl rfl (by decide)).share hO (i := 2) rfl
 have hL := hL.trans W
 have rB := rB.le W
 have rP := rP.le W
 have hO := znR5 hO
 obtain ⟨_, X, rF, hO⟩ := (za.ofRow (T := zr) (l := [⟨znm, 1, [], ⟨0, 0, znk⟩, [⟨1, 1, znp, znk, znk, ⟨1, 0, znk⟩, z, [], []⟩, ⟨7, 2, znk, znk, znk, ⟨0, 0, znk⟩, [⟨x.Kind, x.Num, x.Name, x.Field, x.Op, x.Kids⟩], inn, []⟩]⟩]) (n := 1) (ty := 53) (bb := bF) ⟨[.string znm, .int .i64 1, .slice none 0 0, .int .u8 0, .int .i64 0, .string znk, .slice (some ⟨bL, 0, none⟩) 2 2], _, rfl, ⟨_, _, rfl, RdT.nil _ _, rL⟩, rfl⟩ rfl rfl (by decide)).share hO (i := 1) rfl
 have hL := hL.trans X
 have rB := rB.le X
 have rP := rP.le X
 have hO := znR5 hO
 have hn : zcz (⟨[], [⟨znm, 1, [], ⟨0, 0, znk⟩, [⟨1, 1, znp, znk, znk, ⟨1, 0, znk⟩, z, [], []⟩, ⟨7, 2, znk, znk, znk, ⟨0, 0, znk⟩, [⟨x.Kind, x.Num, x.Name, x.Field, x.Op, x.Kids⟩], inn, []⟩]⟩]⟩ : zq) = some (t2, 0, 8) := by
  rw [hpe] at hn
  exact hn
 refine zT hO (zft (p0 := (⟨[], [⟨znm, 1, [], ⟨0, 0, znk⟩, [⟨1, 1, znp, znk, znk, ⟨1, 0, znk⟩, z, [], []⟩, ⟨7, 2, znk, znk, znk, ⟨0, 0, znk⟩, [⟨x.Kind, x.Num, x.Name, x.Field, x.Op, x.Kids⟩], inn, []⟩]⟩]⟩ : zq)) (RdT.nil _ _) rF hn) rfl fun _ σ _ _ hO Y d5 => ?_
 have hL := hL.trans Y
 have rB := rB.le Y
 have rP := rP.le Y
 obtain ⟨h8, i0, rfl, rfl, Z, g2⟩ := d5
 obtain ⟨d6, d7, rfl, -⟩ := Z.form
 obtain ⟨d8, d9, rfl, -⟩ := g2.form
 have hO := znR5 hO
 refine zF hO 4 [] [(1, znN h), (2, znM 0), (3, znM 0), (32, .agg #[znT d6 t2.Bodies d7, .int .i64 t2.Main, znT d8 t2.Points d9]), (33, znM 0), (34, znM 8)] ⟨rfl, rfl, rfl, rfl, rfl, rfl, trivial⟩ fun j => ?_
 refine zbg hO fun b5 σ hO => ?_
 have hO := znR6 hO
 refine zy hO (i := 5) rfl (off := 0) rfl rfl rfl rfl (Nat.le_of_ble_eq_true rfl) rfl fun σ hO => ?_
 have hO := hO.sel [0]
 have hO := znR1 hO
 refine zz hO [] [(1, znN h), (2, znM 0), (3, znM 0), (6, znM 0), (7, znM 8)] ⟨rfl, rfl, rfl, rfl, rfl, trivial⟩ fun j => ?_
 clear k o G rK rL rF hpe
 -- q
 refine zT hO (zgU hp) rfl fun _ σ _ _ hO b2 f3 => ?_
 have hL := hL.trans b2
 have rB := rB.le b2
 have rP := rP.le b2
 obtain ⟨bF, bL, bK, z, U, x, V3, inn, V, rfl, rfl, k, G, o, hpe⟩ := f3
 have hO := znR4 hO
 refine zbg hO fun I σ hO => ?_
 have hO := znR5 hO
 refine zy hO (i := 4) rfl (off := 0) rfl rfl rfl rfl (Nat.le_of_ble_eq_true rfl) rfl fun σ hO => ?_
 have hO := znR5 hO
 refine zf (zcN (zF hO 2 [4] [(1, znN h), (2, znM 0), (3, znM 0), (6, znM 0), (7, znM 8), (8, znN I), (36, .pointer (some ⟨I, 1, none⟩)), (37, .slice (some ⟨bF, 0, none⟩) 1 1)] ⟨⟨rfl, rfl⟩, rfl, rfl, rfl, rfl, rfl, rfl, rfl, rfl, trivial⟩ fun j => ?_))
 refine zeP rfl rfl (by decide) (by decide) ?_
 refine zF hO 2 [1] [(1, znN h), (2, znM 0), (3, znM 0), (6, znM 0), (7, znM 8), (8, znN I), (36, .pointer (some ⟨I, 1, none⟩)), (37, .slice (some ⟨bF, 0, none⟩) 1 1), (39, .pointer (some ⟨bF, 6, none⟩)), (40, .slice (some ⟨bL, 0, none⟩) 2 2)] ⟨⟨rfl, rfl⟩, rfl, rfl, rfl, rfl, rfl, rfl, rfl, rfl, rfl, rfl, trivial⟩ fun j => ?_
 refine zeP rfl rfl (by decide) (by decide) ?_
 refine zF hO 2 [2] [(1, znN h), (2, znM 0), (3, znM 0), (6, znM 0), (7, znM 8), (8, znN I), (36, .pointer (some ⟨I, 1, none⟩)), (37, .slice (some ⟨bF, 0, none⟩) 1 1), (39, .pointer (some ⟨bF, 6, none⟩)), (40, .slice (some ⟨bL, 0, none⟩) 2 2), (42, .pointer (some ⟨bL, 19, none⟩)), (43, .slice (some ⟨bK, 0, none⟩) 1 1)] ⟨⟨rfl, rfl⟩, rfl, rfl, rfl, rfl, rfl, rfl, rfl, rfl, rfl, rfl, rfl, rfl, trivial⟩ fun j => ?_
 refine zcB (zT hO (zdc (p0 := 1) (rr := ⟨1, 1, znk, znk, znk, []⟩) rfl) rfl fun _ σ _ _ hO D f4 => ?_)
 have hL := hL.trans D
 have rB := rB.le D
 have rP := rP.le D
 have k := k.le D
 have o := o.le D
 obtain ⟨i1, rfl, rfl, rN⟩ := f4
 obtain ⟨c3, c4, rfl, -⟩ := rN.form
 have hO := znR5 hO
 refine zf (zcE ⟨(zbv rfl (hO.val (i := 2) rfl (off := 19) (agg := false) (n := 1) rfl) rfl), (zbv rfl (hO.val (i := 1) rfl (off := 6) (agg := false) (n := 1) rfl) rfl), (zbv rfl (hO.val (i := 4) rfl (off := 1) (agg := false) (n := 1) rfl) rfl), trivial⟩ ?_)
 refine zeP rfl rfl (by decide) (by decide) ?_
 refine zy hO (i := 3) rfl (off := 0) rfl rfl rfl rfl (Nat.le_of_ble_eq_true rfl) rfl fun σ hO => ?_
 have hO : Obs _ _ [_, some (bF, ⟨[.string znm, .int .i64 1, .slice none 0 0, .int .u8 0, .int .i64 0, .string znk, .slice (some ⟨bL, 0, none⟩) 2 2], 53, 7, true⟩), some (bL, ⟨[.int .u8 1, .int .i64 1, .string znl, .string znk, .string znk, .int .u8 1, .int .i64 0, .string znk, U, .slice none 0 0, .slice none 0 0, .int .u8 7, .int .i64 2, .string znk, .string znk, .string znk, .int .u8 0, .int .i64 0, .string znk, .slice (some ⟨bK, 0, none⟩) 1 1, V, .slice none 0 0], 73, 22, true⟩), some (bK, ⟨[.int .u8 1, .int .i64 1, .string znk, .string znk, .string znk, .slice c3 0 c4], 71, 6, true⟩), _] := hO
 refine zf (zF hO 1 [4] [(1, znN h), (2, znM 0), (3, znM 0), (6, znM 0), (7, znM 8), (47, .agg #[.slice none 0 0, .slice (some ⟨bF, 0, none⟩) 1 1])] ⟨⟨rfl, rfl⟩, rfl, rfl, rfl, rfl, rfl, rfl, trivial⟩ fun j => ?_)
 obtain ⟨_, E, rK, hO⟩ := (za.ofRow (T := z5) (l := [⟨1, 1, znk, znk, znk, []⟩]) (n := 1) (ty := 71) (bb := bK) ⟨[.int .u8 1, .int .i64 1, .string znk, .string znk, .string znk, .slice c3 0 c4], _, rfl, zca ⟨_, rfl, rN⟩, rfl⟩ rfl rfl (by decide)).share hO (i := 3) rfl
 have hL := hL.trans E
 have rB := rB.le E
 have rP := rP.le E
 have k := k.le E
 have o := o.le E
 have hO := znR5 hO
 obtain ⟨_, b3, rL, hO⟩ := (za.ofRow (T := zX) (l := [⟨1, 1, znl, znk, znk, ⟨1, 0, znk⟩, z, [], []⟩, ⟨7, 2, znk, znk, znk, ⟨0, 0, znk⟩, [⟨1, 1, znk, znk, znk, []⟩], inn, []⟩]) (n := 2) (ty := 73) (bb := bL) ⟨[.int .u8 1, .int .i64 1, .string znl, .string znk, .string znk, .int .u8 1, .int .i64 0, .string znk, U, .slice none 0 0, .slice none 0 0], _, rfl, zcj ⟨_, _, _, rfl, k, RdT.nil _ _, RdT.nil _ _⟩, ⟨[.int .u8 7, .int .i64 2, .string znk, .string znk, .string znk, .int .u8 0, .int .i64 0, .string znk, .slice (some ⟨bK, 0, none⟩) 1 1, V, .slice none 0 0], _, rfl, zcj ⟨_, _, _, rfl, rK, o, RdT.nil _ _⟩, rfl⟩⟩ rfl rfl (by decide)).share hO (i := 2) rfl
 have hL := hL.trans b3
 have rB := rB.le b3
 have rP := rP.le b3
 have hO := znR5 hO
 obtain ⟨_, b6, rF, hO⟩ := (za.ofRow (T := zr) (l := [⟨znm, 1, [], ⟨0, 0, znk⟩, [⟨1, 1, znl, znk, znk, ⟨1, 0, znk⟩, z, [], []⟩, ⟨7, 2, znk, znk, znk, ⟨0, 0, znk⟩, [⟨1, 1, znk, znk, znk, []⟩], inn, []⟩]⟩]) (n := 1) (ty := 53) (bb := bF) ⟨[.string znm, .int .i64 1, .slice none 0 0, .int .u8 0, .int .i64 0, .string znk, .slice (some ⟨bL, 0, none⟩) 2 2], _, rfl, ⟨_, _, rfl, RdT.nil _ _, rL⟩, rfl⟩ rfl rfl (by decide)).share hO (i := 1) rfl
 have hL := hL.trans b6
 have rB := rB.le b6
 have rP := rP.le b6
 have hO := znR5 hO
 have hk : zcz (⟨[], [⟨znm, 1, [], ⟨0, 0, znk⟩, [⟨1, 1, znl, znk, znk, ⟨1, 0, znk⟩, z, [], []⟩, ⟨7, 2, znk, znk, znk, ⟨0, 0, znk⟩, [⟨1, 1, znk, znk, znk, []⟩], inn, []⟩]⟩]⟩ : zq) = some (t3, k3, 9) := by
  rw [hpe] at hk
  exact hk
 refine zT hO (zft (p0 := (⟨[], [⟨znm, 1, [], ⟨0, 0, znk⟩, [⟨1, 1, znl, znk, znk, ⟨1, 0, znk⟩, z, [], []⟩, ⟨7, 2, znk, znk, znk, ⟨0, 0, znk⟩, [⟨1, 1, znk, znk, znk, []⟩], inn, []⟩]⟩]⟩ : zq)) (RdT.nil _ _) rF hk) rfl fun _ σ _ _ hO b7 f5 => ?_
 have hL := hL.trans b7
 have rB := rB.le b7
 have rP := rP.le b7
 obtain ⟨i2, i3, rfl, rfl, Z, g2⟩ := f5
 obtain ⟨f6, f7, rfl, -⟩ := Z.form
 obtain ⟨f8, f9, rfl, -⟩ := g2.form
 have hO := znR5 hO
 refine zF hO 4 [] [(1, znN h), (2, znM 0), (3, znM 0), (6, znM 0), (7, znM 8), (49, .agg #[znT f6 t3.Bodies f7, .int .i64 t3.Main, znT f8 t3.Points f9]), (50, znM k3), (51, znM 9)] ⟨rfl, rfl, rfl, rfl, rfl, rfl, rfl, rfl, trivial⟩ fun j => ?_
 refine zbg hO fun b9 σ hO => ?_
 have hO := znR6 hO
 refine zy hO (i := 5) rfl (off := 0) rfl rfl rfl rfl (Nat.le_of_ble_eq_true rfl) rfl fun σ hO => ?_
 have hO := hO.sel [0]
 have hO := znR1 hO
 refine zz hO [] [(1, znN h), (2, znM 0), (3, znM 0), (6, znM 0), (7, znM 8), (11, znM 9)] ⟨rfl, rfl, rfl, rfl, rfl, rfl, trivial⟩ fun j => ?_
 clear k o G rK rL rF hpe rN
 -- no program
 refine zF hO 1 [] [(1, znN h), (2, znM 0), (3, znM 0), (6, znM 0), (7, znM 8), (11, znM 9), (53, .agg #[.slice none 0 0, .slice none 0 0])] ⟨rfl, rfl, rfl, rfl, rfl, rfl, rfl, trivial⟩ fun j => ?_
 refine zT hO (zft (p0 := ⟨[], []⟩) (RdT.nil _ _) (RdT.nil _ _) h4) rfl fun _ σ _ _ hO c0 g0 => ?_
 have hL := hL.trans c0
 have rB := rB.le c0
 have rP := rP.le c0
 obtain ⟨i4, i5, rfl, rfl, Z, g2⟩ := g0
 obtain ⟨g3, g4, rfl, -⟩ := Z.form
 obtain ⟨g5, g6, rfl, -⟩ := g2.form
 have hO := znR1 hO
 refine zF hO 4 [] [(1, znN h), (2, znM 0), (3, znM 0), (6, znM 0), (7, znM 8), (11, znM 9), (55, .agg #[znT g3 t4.Bodies g4, .int .i64 t4.Main, znT g5 t4.Points g6]), (56, znM 0), (57, znM 8)] ⟨rfl, rfl, rfl, rfl, rfl, rfl, rfl, rfl, rfl, trivial⟩ fun j => ?_
 refine zbg hO fun i6 σ hO => ?_
 have hO := znR2 hO
 refine zy hO (i := 1) rfl (off := 0) rfl rfl rfl rfl (Nat.le_of_ble_eq_true rfl) rfl fun σ hO => ?_
 have hO := hO.sel [0]
 have hO : Obs _ _ [some (h, ⟨[.slice AB 1 cB, .int .i64 m, .slice AP 4 cP], 31, 3, true⟩)] := hO
 refine zz hO [] [(1, znN h), (2, znM 0), (3, znM 0), (6, znM 0), (7, znM 8), (11, znM 9), (13, znM 0), (14, znM 8)] ⟨rfl, rfl, rfl, rfl, rfl, rfl, rfl, rfl, trivial⟩ fun j => ?_
 -- what is answered
 refine zF hO 9 [0] [(1, znN h), (2, znM 0), (3, znM 0), (6, znM 0), (7, znM 8), (11, znM 9), (13, znM 0), (14, znM 8), (70, .bool true)] ⟨⟨rfl, rfl⟩, fun _ => ⟨⟨rfl, rfl⟩, ⟨rfl, rfl⟩, fun _ => ⟨rfl, rfl, rfl, rfl, rfl, rfl, rfl, rfl, rfl, trivial⟩⟩⟩ fun j => ?_
 refine zbr rfl ?_
 refine zF hO 2 [0] [(1, znN h), (2, znM 0), (3, znM 0), (6, znM 0), (7, znM 8), (11, znM 9), (13, znM 0), (14, znM 8), (70, .bool true), (72, .slice AP 4 cP)] ⟨⟨rfl, rfl⟩, rfl, rfl, rfl, rfl, rfl, rfl, rfl, rfl, rfl, rfl, trivial⟩ fun j => ?_
 refine zbw (T := zp) rP hO.base rfl rfl (show zJ _ 2 = some _ from rfl) (by decide) fun a _ g u => ?_
 obtain ⟨w, rfl, g⟩ := g
 obtain ⟨A, c, rfl, -⟩ := g.form
 refine zF hO 1 [] [(1, znN h), (2, znM 0), (3, znM 0), (6, znM 0), (7, znM 8), (11, znM 9), (13, znM 0), (14, znM 8), (70, .bool true), (74, .pointer (some (a.add 1)))] ⟨rfl, rfl, rfl, rfl, rfl, rfl, rfl, rfl, rfl, rfl, trivial⟩ fun j => ?_
 refine zbb rfl ((u.le hO.base).one 1 rfl) ?_
 refine zF hO 1 [] [(1, znN h), (2, znM 0), (3, znM 0), (6, znM 0), (7, znM 8), (11, znM 9), (13, znM 0), (14, znM 8), (70, .bool true), (76, .bool true)] ⟨rfl, rfl, rfl, rfl, rfl, rfl, rfl, rfl, rfl, rfl, trivial⟩ fun j => ?_
 refine zZ rfl ?_
 refine zF hO 1 [] [(1, znN h), (2, znM 0), (3, znM 0), (6, znM 0), (7, znM 8), (11, znM 9), (13, znM 0), (14, znM 8), (78, .bool true)] ⟨rfl, rfl, rfl, rfl, rfl, rfl, rfl, rfl, rfl, trivial⟩ fun j => ?_
 refine zbr rfl ?_
 refine zF hO 2 [0] [(1, znN h), (2, znM 0), (3, znM 0), (6, znM 0), (7, znM 8), (11, znM 9), (13, znM 0), (14, znM 8), (78, .bool true), (80, .slice AP 4 cP)] ⟨⟨rfl, rfl⟩, rfl, rfl, rfl, rfl, rfl, rfl, rfl, rfl, rfl, rfl, trivial⟩ fun j => ?_
 refine zbw (T := zp) rP hO.base rfl rfl (show zJ _ 1 = some _ from rfl) (by decide) fun a _ g u => ?_
 obtain ⟨w, rfl, g⟩ := g
 obtain ⟨A, c, rfl, -⟩ := g.form
 refine zF hO 1 [] [(1, znN h), (2, znM 0), (3, znM 0), (6, znM 0), (7, znM 8), (11, znM 9), (13, znM 0), (14, znM 8), (78, .bool true), (82, .pointer (some (a.add 2)))] ⟨rfl, rfl, rfl, rfl, rfl, rfl, rfl, rfl, rfl, rfl, trivial⟩ fun j => ?_
 refine zbb rfl ((u.le hO.base).one 2 rfl) ?_
 refine zF hO 2 [] [(1, znN h), (2, znM 0), (3, znM 0), (6, znM 0), (7, znM 8), (11, znM 9), (13, znM 0), (14, znM 8), (78, .bool true), (85, .bool true)] ⟨rfl, rfl, rfl, rfl, rfl, rfl, rfl, rfl, rfl, rfl, trivial⟩ fun j => ?_
 refine zZ rfl ?_
 refine zF hO 1 [] [(1, znN h), (2, znM 0), (3, znM 0), (6, znM 0), (7, znM 8), (11, znM 9), (13, znM 0), (14, znM 8), (87, .bool true)] ⟨rfl, rfl, rfl, rfl, rfl, rfl, rfl, rfl, rfl, trivial⟩ fun j => ?_
 refine zbr rfl ?_
 refine zF hO 2 [0] [(1, znN h), (2, znM 0), (3, znM 0), (6, znM 0), (7, znM 8), (11, znM 9), (13, znM 0), (14, znM 8), (87, .bool true), (89, .slice AP 4 cP)] ⟨⟨rfl, rfl⟩, rfl, rfl, rfl, rfl, rfl, rfl, rfl, rfl, rfl, rfl, trivial⟩ fun j => ?_
 refine zbw (T := zp) rP hO.base rfl rfl (show zJ _ 0 = some _ from rfl) (by decide) fun a _ g u => ?_
 obtain ⟨w, rfl, g⟩ := g
 obtain ⟨A, c, rfl, -⟩ := g.form
 refine zF hO 1 [] [(1, znN h), (2, znM 0), (3, znM 0), (6, znM 0), (7, znM 8), (11, znM 9), (13, znM 0), (14, znM 8), (87, .bool true), (91, .pointer (some (a.add 2)))] ⟨rfl, rfl, rfl, rfl, rfl, rfl, rfl, rfl, rfl, rfl, trivial⟩ fun j => ?_
 refine zbb rfl ((u.le hO.base).one 2 rfl) ?_
 refine zF hO 2 [] [(1, znN h), (2, znM 0), (3, znM 0), (6, znM 0), (7, znM 8), (11, znM 9), (13, znM 0), (14, znM 8), (87, .bool true), (94, .bool true)] ⟨rfl, rfl, rfl, rfl, rfl, rfl, rfl, rfl, rfl, rfl, trivial⟩ fun j => ?_
 refine zZ rfl ?_
 refine zF hO 4 [0] [(1, znN h), (2, znM 0), (3, znM 0), (6, znM 0), (7, znM 8), (11, znM 9), (13, znM 0), (14, znM 8), (102, .bool true)] ⟨⟨rfl, rfl⟩, ⟨rfl, rfl⟩, fun _ => ⟨rfl, rfl, rfl, rfl, rfl, rfl, rfl, rfl, rfl, trivial⟩⟩ fun j => ?_
 refine zbr rfl ?_
 refine zF hO 2 [0] [(1, znN h), (2, znM 0), (3, znM 0), (6, znM 0), (7, znM 8), (11, znM 9), (13, znM 0), (14, znM 8), (102, .bool true), (104, .slice AB 1 cB)] ⟨⟨rfl, rfl⟩, rfl, rfl, rfl, rfl, rfl, rfl, rfl, rfl, rfl, rfl, trivial⟩ fun j => ?_
 refine zbw (T := zo) rB hO.base rfl rfl (show zJ _ 0 = some _ from rfl) (by decide) fun a _ g u => ?_
 obtain ⟨w, w', rfl, g', g⟩ := g
 obtain ⟨A, c, rfl, -⟩ := g.form
 refine zF hO 1 [] [(1, znN h), (2, znM 0), (3, znM 0), (6, znM 0), (7, znM 8), (11, znM 9), (13, znM 0), (14, znM 8), (102, .bool true), (106, .pointer (some (a.add 4)))] ⟨rfl, rfl, rfl, rfl, rfl, rfl, rfl, rfl, rfl, rfl, trivial⟩ fun j => ?_
 refine zbb rfl ((u.le hO.base).one 4 rfl) ?_
 refine zF hO 2 [] [(1, znN h), (2, znM 0), (3, znM 0), (6, znM 0), (7, znM 8), (11, znM 9), (13, znM 0), (14, znM 8), (102, .bool true), (109, .bool true)] ⟨rfl, rfl, rfl, rfl, rfl, rfl, rfl, rfl, rfl, rfl, trivial⟩ fun j => ?_
 refine zZ rfl ?_
 refine zz hO [] [(0, .bool true)] ⟨⟨rfl, rfl⟩, fun _ => ⟨⟨rfl, rfl⟩, fun _ => ⟨⟨rfl, rfl⟩, fun _ => ⟨⟨rfl, rfl⟩, fun _ => ⟨⟨rfl, rfl⟩, fun _ => ⟨rfl, trivial⟩⟩⟩⟩⟩⟩ fun j => ?_
 refine zW ?_
 have hO := hO.sel []
 exact hQ _ _ _ _ _ rfl hO hL ⟨rfl, rfl⟩
theorem zg8 {τ : Hp}   {rr : Bool} (hF : zeD  = some rr) :
  Ctr Try.prog 9 #[] τ [] (fun v τ' vs' => v = .bool rr ∧ vs' = []) := by
 cases hF
 exact znc
end Go.Proofs.Ytakcaekikfcbpaa
