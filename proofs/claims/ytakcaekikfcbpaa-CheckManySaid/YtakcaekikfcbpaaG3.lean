import Derived.Test.YtakcaekikfcbpaaG2
namespace Go.Proofs.Ytakcaekikfcbpaa
open Go.Ab Go.RowKit
set_option linter.unusedVariables false
set_option linter.unusedSimpArgs false
set_option maxRecDepth 10000
set_option maxHeartbeats 1000000
theorem znt {v : Value} {k : Int} (h : zdi v = some k) : v = .iface 134 (.int .i64 k) := by
 unfold zdi at h
 split at h
 ·injection h with h
  rw [h]
 ·cases h
def zfv : zU := (.seq (.reg [.s ⟨(some 6), .mv (.t 1), []⟩,
 .s ⟨(some 7), .tas 134 ((.int .i64 0)) (.t 6), []⟩,
 .s ⟨(some 5), .mv (.t 7), []⟩,
 .s ⟨(some 8), .ext 0 (.t 5), []⟩,
 .s ⟨(some 9), .ext 1 (.t 5), []⟩,
 .s ⟨(some 2), .mv (.t 8), []⟩,
 .s ⟨(some 3), .mv (.t 9), []⟩])
(.seq (.reg [.s ⟨(some 10), .mv (.t 3), []⟩])
(.cond (.t 10) (.reg [.s ⟨(some 11), .mv (.t 2), []⟩,
 .s ⟨none, .store 1 (.t 0) (.t 11), []⟩])
(.seq (.reg [.s ⟨(some 12), .mv (.t 1), []⟩,
 .s ⟨(some 13), .inil true (.t 12), []⟩])
(.cond (.t 13) (.reg [.s ⟨(some 14), .mv (.t 1), []⟩,
 .s ⟨none, .pan (.t 14), []⟩])
.skip)))))
def a50 : zgw := ⟨15, 4, 1, zfv⟩
theorem s50 : zhJ Try.prog Try.f50 = some a50.fn := by kernel_rfl
def ziC : zU := (.seq (.seq (.reg [.s ⟨(some 8), .mv (.t 0), []⟩,
 .s ⟨(some 9), .nilchk (.t 8), []⟩,
 .s ⟨(some 10), .faddr 0 (.t 9), []⟩,
 .s ⟨(some 11), .faddr 0 (.t 10), []⟩,
 .s ⟨(some 12), .load false 1 (.t 11), []⟩,
 .s ⟨(some 13), .lenL (.t 12), []⟩,
 .s ⟨(some 14), .mv (.c (.int .i64 0)), []⟩])
(.block 0 (.loop (.seq (.reg [.s ⟨(some 15), .bin .lss (.t 14) (.t 13), []⟩])
(.seq (.cond (.t 15) .skip
(.exit 0))
(.seq (.block 1 (.seq (.reg [.s ⟨(some 16), .mv (.t 14), []⟩,
 .s ⟨(some 4), .mv (.t 16), []⟩])
(.seq (.reg [.s ⟨(some 17), .mv (.t 0), []⟩,
 .s ⟨(some 18), .mv (.t 4), []⟩,
 .s ⟨(some 19), .call 51 [(.t 17), (.t 18)], []⟩])
(.reg [.s ⟨(some 20), .mv (.t 2), []⟩,
 .s ⟨(some 21), .bin .add (.t 20) (.c (.int .i64 1)), []⟩,
 .s ⟨(some 2), .mv (.t 21), []⟩]))))
(.reg [.s ⟨(some 22), .bin .add (.t 14) (.c (.int .i64 1)), []⟩,
 .s ⟨(some 14), .mv (.t 22), []⟩])))))))
(.seq (.seq (.reg [.s ⟨(some 23), .mv (.t 0), []⟩,
 .s ⟨(some 24), .nilchk (.t 23), []⟩,
 .s ⟨(some 25), .faddr 0 (.t 24), []⟩,
 .s ⟨(some 26), .faddr 1 (.t 25), []⟩,
 .s ⟨(some 27), .load false 1 (.t 26), []⟩,
 .s ⟨(some 28), .lenL (.t 27), []⟩,
 .s ⟨(some 29), .mv (.c (.int .i64 0)), []⟩])
(.block 2 (.loop (.seq (.reg [.s ⟨(some 30), .bin .lss (.t 29) (.t 28), []⟩])
(.seq (.cond (.t 30) .skip
(.exit 2))
(.seq (.block 3 (.seq (.reg [.s ⟨(some 31), .mv (.t 29), []⟩,
 .s ⟨(some 5), .mv (.t 31), []⟩])
(.seq (.reg [.s ⟨(some 32), .mv (.t 0), []⟩,
 .s ⟨(some 33), .mv (.t 5), []⟩,
 .s ⟨(some 34), .call 52 [(.t 32), (.t 33)], []⟩])
(.reg [.s ⟨(some 35), .mv (.t 2), []⟩,
 .s ⟨(some 36), .bin .add (.t 35) (.c (.int .i64 1)), []⟩,
 .s ⟨(some 2), .mv (.t 36), []⟩]))))
(.reg [.s ⟨(some 37), .bin .add (.t 29) (.c (.int .i64 1)), []⟩,
 .s ⟨(some 29), .mv (.t 37), []⟩])))))))
(.seq (.reg [.s ⟨(some 38), .mv (.t 0), []⟩,
 .s ⟨(some 39), .mv (.t 0), []⟩,
 .s ⟨(some 40), .call 53 [(.t 39), (.c (.string znT))], []⟩,
 .s ⟨(some 41), .nilchk (.t 38), []⟩,
 .s ⟨(some 42), .faddr 2 (.t 41), []⟩,
 .s ⟨(some 43), .faddr 1 (.t 42), []⟩,
 .s ⟨none, .store 1 (.t 43) (.t 40), []⟩])
(.seq (.reg [.s ⟨(some 44), .mv (.t 0), []⟩,
 .s ⟨(some 45), .nilchk (.t 44), []⟩,
 .s ⟨(some 46), .faddr 2 (.t 45), []⟩,
 .s ⟨(some 47), .faddr 1 (.t 46), []⟩,
 .s ⟨(some 48), .load false 1 (.t 47), []⟩,
 .s ⟨(some 49), .bin .geq (.t 48) (.c (.int .i64 0)), []⟩,
 .s ⟨(some 50), .call 54 [(.t 49), (.c (.int .i64 8))], []⟩])
(.seq (.par [.s ⟨(some 51), .mv (.t 0), []⟩,
 .s ⟨(some 52), .nilchk (.t 51), []⟩,
 .s ⟨(some 53), .faddr 0 (.t 52), []⟩,
 .s ⟨(some 54), .faddr 1 (.t 53), []⟩,
 .s ⟨(some 55), .load false 1 (.t 54), []⟩,
 .s ⟨(some 56), .mv (.t 0), []⟩,
 .s ⟨(some 57), .nilchk (.t 56), []⟩,
 .s ⟨(some 58), .faddr 2 (.t 57), []⟩,
 .s ⟨(some 59), .faddr 1 (.t 58), []⟩,
 .s ⟨(some 60), .load false 1 (.t 59), []⟩,
 .s ⟨(some 61), .idx 7 (.t 55) (.t 60), []⟩,
 .s ⟨(some 62), .load true 7 (.t 61), []⟩,
 .s ⟨(some 6), .alloc 53 [(.string znS), (.int .i64 0), (.slice none 0 0), (.int .u8 0), (.int .i64 0), (.string znS), (.slice none 0 0)], [⟨none, (some 62), .load true 7 (.t 61)⟩, ⟨none, (some 60), .load false 1 (.t 59)⟩, ⟨none, (some 55), .load false 1 (.t 54)⟩]⟩,
 .s ⟨none, .store 7 (.t 6) (.t 62), []⟩])
(.seq (.reg [.s ⟨(some 63), .faddr 2 (.t 6), []⟩,
 .s ⟨(some 64), .load false 1 (.t 63), []⟩,
 .s ⟨(some 65), .lenL (.t 64), []⟩,
 .s ⟨(some 66), .bin .eql (.t 65) (.c (.int .i64 0)), []⟩,
 .s ⟨(some 67), .mv (.t 66), []⟩,
 .g 67 true [⟨(some 68), .faddr 3 (.t 6), []⟩,
 ⟨(some 69), .faddr 0 (.t 68), []⟩,
 ⟨(some 70), .load false 1 (.t 69), []⟩,
 ⟨(some 71), .bin .eql (.t 70) (.c (.int .u8 0)), []⟩],
 .s ⟨(some 72), .pick (.t 67) (.t 71) (.c (.bool false)), []⟩,
 .s ⟨(some 73), .call 54 [(.t 72), (.c (.int .i64 8))], []⟩])
(.seq (.reg [.s ⟨(some 74), .mv (.t 2), []⟩,
 .s ⟨(some 2), .mv (.t 74), []⟩,
 .s ⟨none, .store 1 (.t 3) (.c (.int .i64 0)), []⟩])
.ret)))))))
def a34 : zej := ⟨75, [.t 2, .c 3 false 1], (.pre (.reg [.s ⟨(some 2), .mv (.c (.int .i64 0)), []⟩,
 .s ⟨(some 3), .alloc 35 [(.int .i64 0)], []⟩])
(.dfr [.s ⟨(some 7), .mkfn (.func 50) [] [(.t 3)], []⟩] 7 [] ziC))⟩
theorem s34 : ze7 Try.prog [3] Try.f34 = some a34.fn := by kernel_rfl
theorem zlG {w0 : Base} {g : Nat} {h : Int} {τ σ : Hp} {k o q v : Ob} (hO : Obs τ σ [k, o, q, v, some (g, ⟨[.int .i64 h], 35, 1, true⟩)]) :
  zb3 Try.prog w0 50 #[.pointer (some ⟨g, 0, none⟩)] .returning σ fun u' σ' => settle u' = .returning ∧ Obs τ σ' [k, o, q, v, some (g, ⟨[.int .i64 h], 35, 1, true⟩)] := by
 refine ziW (args := [.pointer (some ⟨g, 0, none⟩)]) hm Try.func50 s50 rfl ?_
 show wpn _ _ zfv _ _ _
 unfold zfv
 refine zD hO [] [(1, .nilIface), (3, .bool false)] ⟨rfl, rfl, trivial⟩ fun j => ?_
 refine zD hO [] [(1, .nilIface), (10, .bool false)] ⟨rfl, rfl, trivial⟩ fun j => ?_
 refine zbz (zfl rfl ?_)
 refine zn (zD hO [] [(13, .bool false)] ⟨rfl, trivial⟩ fun j => ?_)
 refine zfl rfl ?_
 refine zN (zh ?_)
 exact ⟨.inr rfl, rfl, hO⟩
theorem zmX {w0 : Base} {g : Nat} {B k : Int} {τ σ : Hp} {h o q z : Ob} (hO : Obs τ σ [h, o, q, z, some (g, ⟨[.int .i64 B], 35, 1, true⟩)]) :
  zb3 Try.prog w0 50 #[.pointer (some ⟨g, 0, none⟩)] (.panicking [{ v := .iface 134 (.int .i64 k), recovered := false }]) σ fun u' σ' => settle u' = .returning ∧ Obs τ σ' [h, o, q, z, some (g, ⟨[.int .i64 k], 35, 1, true⟩)] := by
 refine ziW (args := [.pointer (some ⟨g, 0, none⟩)]) hm Try.func50 s50 rfl ?_
 show wpn _ _ zfv _ _ _
 unfold zfv
 refine zD hO [] [(0, zol g), (2, zok k), (3, .bool true)] ⟨rfl, rfl, rfl, trivial⟩ fun j => ?_
 refine zD hO [] [(0, zol g), (2, zok k), (10, .bool true)] ⟨rfl, rfl, rfl, trivial⟩ fun j => ?_
 refine zbz (zf6 rfl ?_)
 refine zM hO 1 [] [(0, zol g), (11, zok k)] ⟨rfl, rfl, trivial⟩ fun j => ?_
 refine zu hO (i := 4) rfl (off := 0) rfl rfl rfl rfl (Nat.le_of_ble_eq_true rfl) rfl fun σ hO => ?_
 refine ze (zh ?_)
 exact ⟨.inr rfl, rfl, hO⟩
section
variable {P : Program} {w0 : Base} {Q : Exit → Env → Hp → Prop} {e : Env} {σ : Hp}
theorem zm3 {l : List XI} (h : wpn P w0 (.seq (.reg l) .skip) Q e σ) : wpn P w0 (.par l) Q e σ := h
end
theorem zkX {w0 : Base} {g : Nat} {j : Int} {τ σ : Hp} {k o q v : Ob} (hO : Obs τ σ [some (g, ⟨[.int .i64 j], 35, 1, true⟩), k, o, q, v]) :
  zb3 Try.prog w0 50 #[.pointer (some ⟨g, 0, none⟩)] .returning σ fun u' σ' => settle u' = .returning ∧ Obs τ σ' [some (g, ⟨[.int .i64 j], 35, 1, true⟩), k, o, q, v] :=
 (zlG (hO.sel [1, 2, 3, 4, 0])).mono fun u' σ' h => ⟨h.1, h.2.sel [4, 0, 1, 2, 3]⟩
theorem zmv {w0 : Base} {U : Nat} {W k : Int} {τ σ : Hp} {E G I S : Ob} (hO : Obs τ σ [some (U, ⟨[.int .i64 W], 35, 1, true⟩), E, G, I, S]) :
  zb3 Try.prog w0 50 #[.pointer (some ⟨U, 0, none⟩)] (.panicking [{ v := .iface 134 (.int .i64 k), recovered := false }]) σ fun u' σ' => settle u' = .returning ∧ Obs τ σ' [some (U, ⟨[.int .i64 k], 35, 1, true⟩), E, G, I, S] :=
 (zmX (hO.sel [1, 2, 3, 4, 0])).mono fun u' σ' h => ⟨h.1, h.2.sel [4, 0, 1, 2, 3]⟩
def wK (V : Nat) (q : zb) (τ' : Hp) (E G I S : Ob) : Prop := ∃ (g j o z B D : Value), E = zm V g j o q.tree.Main z q.fn B D ∧ RdT zw τ' g q.prog.Structs ∧ RdT zt τ' j q.prog.Funcs ∧ za zq 59 τ' o q.tree.Bodies G ∧ za zr 87 τ' z q.tree.Points I ∧ RdT zo τ' B q.vars ∧ za (Ty.int .i64) 3 τ' D q.scope S
theorem zmh {τ : Hp} {q0 : zb} {g : Nat} {f5 f6 f7 : Value} {W : Ob} {f8 : Value} {X : Ob} {f9 g3 : Value} {Y : Ob} (b0 : RdT zw τ f5 q0.prog.Structs) (b1 : RdT zt τ f6 q0.prog.Funcs) (b2 : za zq 59 τ f7 q0.tree.Bodies W) (b4 : za zr 87 τ f8 q0.tree.Points X) (b5 : RdT zo τ f9 q0.vars) (b6 : za (Ty.int .i64) 3 τ g3 q0.scope Y) {rr : Int × Int × zb} (hF : zdF q0 = some rr) :
  Ctr Try.prog 34 #[.pointer (some ⟨g, 0, none⟩)] τ [zm g f5 f6 f7 q0.tree.Main f8 q0.fn f9 g3, W, X, Y] (fun v τ' vs' => ∃ (i4 i5 i6 : Value) (i7 : Ob) (i8 : Value) (i9 : Ob) (j0 j1 : Value) (j2 : Ob), v = .tuple #[.int .i64 rr.1, .int .i64 rr.2.1] ∧ vs' = [zm g i4 i5 i6 rr.2.2.tree.Main i8 rr.2.2.fn j0 j1, i7, i9, j2] ∧ RdT zw τ' i4 rr.2.2.prog.Structs ∧ RdT zt τ' i5 rr.2.2.prog.Funcs ∧ za zq 59 τ' i6 rr.2.2.tree.Bodies i7 ∧ za zr 87 τ' i8 rr.2.2.tree.Points i9 ∧ RdT zo τ' j0 rr.2.2.vars ∧ za (Ty.int .i64) 3 τ' j1 rr.2.2.scope j2) := by
 obtain ⟨b7, b8, rfl, -⟩ := b0.form
 obtain ⟨b9, c2, rfl, -⟩ := b1.form
 obtain ⟨c3, c4, rfl, -⟩ := b2.form
 obtain ⟨c5, c6, rfl, -⟩ := b4.form
 obtain ⟨c7, c8, rfl, -⟩ := b5.form
 obtain ⟨c9, d0, rfl, -⟩ := b6.form
 refine zbu.np (Kp := fun _ _ _ => False) (zke (J := [3]) (af := a34) (args := [.pointer (some ⟨g, 0, none⟩)]) hm Try.func34 s34 rfl fun w0 σ hO Q hQ hP => ?_) (fun _ _ _ _ h => h)
 unfold zdF at hF
 have hL := Hp.le.refl τ
 show zc8 _ _ _ a34.body _ _ _
 unfold a34
 dsimp only [zc8]
 refine zbi (zM hO 1 [] [(0, zol g), (2, zok 0)] ⟨rfl, rfl, trivial⟩ fun j => ?_)
 refine zbm hO fun B σ hO => ?_
 refine ze (zh (zi ?_))
 have hO := hO.sel [4, 0, 1, 2, 3]
 have hO : Obs _ _ [some (B, ⟨[.int .i64 0], 35, 1, true⟩), zm g (.slice b7 q0.prog.Structs.length b8) (.slice b9 q0.prog.Funcs.length c2) (.slice c3 q0.tree.Bodies.length c4) q0.tree.Main (.slice c5 q0.tree.Points.length c6) q0.fn (.slice c7 q0.vars.length c8) (.slice c9 q0.scope.length d0), W, X, Y] := hO
 refine zbi (zD hO [] [(0, zol g), (2, zok 0), (3, zol B), (7, .func (.func 50) #[] #[.pointer (some ⟨B, 0, none⟩)])] ⟨rfl, rfl, rfl, rfl, trivial⟩ fun j => ?_)
 refine zh ?_
 refine ⟨rfl, 50, #[.pointer (some ⟨B, 0, none⟩)], rfl, by kernel_rfl, ?_⟩
 simp only [List.map_nil, Array.empty_append]
 have key : ∀ (e1 : Env), e1 0 = .pointer (some ⟨g, 0, none⟩) → e1 2 = .int .i64 0 → e1 3 = .pointer (some ⟨B, 0, none⟩) → zbD Try.prog w0 ziC.code (dpost Try.prog w0 [3] 50 #[.pointer (some ⟨B, 0, none⟩)] e1 Q) e1 σ := ?_
 ·exact key _ rfl rfl rfl
 intro e1 t0 t2 t3
 have hRet : ∀ (n k : Int) (q : zb) (e' : Env) (σ' τ' : Hp) (V E G I : Ob), rr = (n, k, q) → wK g q τ' V E G I → Hp.le τ τ' → Obs τ' σ' [some (B, ⟨[.int .i64 k], 35, 1, true⟩), V, E, G, I] → e' 2 = .int .i64 n → e' 3 = .pointer (some ⟨B, 0, none⟩) → Q .ret e' σ' := by
  rintro n k q e' σ' τ' V E G I rfl ⟨u0, u1, u2, u4, u6, u7, rfl, h0, S, U, Z, h6, h7⟩ hle hO h2' h3'
  refine hQ e' σ' [.int .i64 n, .int .i64 k] τ' _ ?_ (hO.sel [1, 2, 3, 4]) hle ⟨u0, u1, u2, E, u4, G, u6, u7, I, rfl, rfl, h0, S, U, Z, h6, h7⟩
  rw [← h2']
  exact zco (zbY h3' (hO.val (i := 0) rfl (off := 0) (agg := false) (n := 1) rfl) rfl)
 obtain ⟨D, hD⟩ : ∃ D, D = dpost Try.prog w0 [3] 50 #[.pointer (some ⟨B, 0, none⟩)] e1 Q := ⟨_, rfl⟩
 have hDp : ∀ (n k0 k : Int) (v : Value) (ch : List PanicEntry) (q : zb) (e' : Env) (σ' τ' : Hp) (V E G I : Ob), zdi v = some k → ch = [{ v := v, recovered := false }] → rr = (n, k, q) → wK g q τ' V E G I → Hp.le τ τ' → Obs τ' σ' [some (B, ⟨[.int .i64 k0], 35, 1, true⟩), V, E, G, I] → e' 2 = .int .i64 n → D (.panic ch) e' σ' := by
  rintro n k0 k v ch q e' σ' τ' V E G I hs rfl hr hK hle hO h2'
  subst hD
  intro hJ
  have h3' := (hJ 3 (List.mem_cons_self ..)).trans t3
  rw [znt hs]
  exact (zmv hO).mono fun u' σ'' h => .inl ⟨h.1, hRet n k q e' σ'' τ' V E G I hr hK hle h.2 h2' h3'⟩
 have hDr : ∀ (n k : Int) (q : zb) (e' : Env) (σ' τ' : Hp) (V E G I : Ob), rr = (n, k, q) → wK g q τ' V E G I → Hp.le τ τ' → Obs τ' σ' [some (B, ⟨[.int .i64 k], 35, 1, true⟩), V, E, G, I] → e' 2 = .int .i64 n → D .ret e' σ' := by
  rintro n k q e' σ' τ' V E G I hr hK hle hO h2'
  subst hD
  intro hJ
  have h3' := (hJ 3 (List.mem_cons_self ..)).trans t3
  exact (zkX hO).mono fun u' σ'' h => ⟨h.1, hRet n k q e' σ'' τ' V E G I hr hK hle h.2 h2' h3'⟩
 rw [← hD]
 clear hD hRet hQ hP
 unfold ziC
 have hA : agr [(0, .pointer (some ⟨g, 0, none⟩)), (2, .int .i64 0), (3, .pointer (some ⟨B, 0, none⟩))] e1 := ⟨t0, t2, t3, trivial⟩
 rw [← zW _ _ hA]
 -- structs
 refine zce (zce (zcw (fun _ _ => False) rfl (fun _ _ _ h => h.elim) ?_))
 refine zbi (zD hO [1] [(0, zol g), (2, zok 0), (3, zol B), (13, zok (q0.prog.Structs.length : Int)), (14, zok 0)] ⟨⟨rfl, rfl⟩, rfl, rfl, rfl, rfl, rfl, trivial⟩ fun j => ?_)
 refine zh (zi ?_)
 obtain ⟨R, hR⟩ : ∃ R, R = wS q0 big 0 0 := ⟨_, rfl⟩
 rw [← hR] at hF
 refine zgj (lpE (fun (n : Nat) e' σ' => ∃ (z o : Int) (τ' : Hp), agr [(0, zol g), (2, zok z), (3, zol B), (13, zok (q0.prog.Structs.length : Int)), (14, zok o)] e' ∧ Obs τ' σ' [some (B, ⟨[.int .i64 0], 35, 1, true⟩), zm g (zor b7 q0.prog.Structs b8) (zor b9 q0.prog.Funcs c2) (zor c3 q0.tree.Bodies c4) q0.tree.Main (zor c5 q0.tree.Points c6) q0.fn (zor c7 q0.vars c8) (zor c9 q0.scope d0), W, X, Y] ∧ Hp.le τ τ' ∧ R = wS q0 n z o) big ⟨0, 0, _, ⟨rfl, rfl, rfl, rfl, rfl, trivial⟩, hO, hL, hR⟩ ?_)
 clear hR hO hL
 rintro k e σ ⟨z, o, τ1, hA, hO, hL, hR⟩
 rw [← zW _ _ hA]
 cases k with
 | zero =>
  rw [show R = none from hR] at hF
  cases hF
 | succ k =>
 replace hR : R = if (decide (o < (q0.prog.Structs.length : Int))) = true then (match zdv q0 o with
  | none => none
  | some (.error v) => some (.error (z, v))
  | some (.ok _) => wS q0 k (IntKind.i64.wrap (z + 1)) (IntKind.i64.wrap (o + 1))) else some (.ok z) := hR
 refine zce (zcw (fun _ _ => False) rfl (fun _ _ _ h => h.elim) ?_)
 refine zbi (zD hO [] [(0, zol g), (2, zok z), (3, zol B), (13, zok (q0.prog.Structs.length : Int)), (14, zok o), (15, .bool (decide (o < (q0.prog.Structs.length : Int))))] ⟨rfl, rfl, rfl, rfl, rfl, rfl, trivial⟩ fun j => ?_)
 refine zh (zi ?_)
 refine zce (zjB (t := decide (o < (q0.prog.Structs.length : Int))) rfl (fun ht => skE ?_) (fun ht => exE ?_))
 ·rw [if_pos ht] at hR
  refine zi ?_
  refine zce (zgj (zce (zcw (fun _ _ => False) rfl (fun _ _ _ h => h.elim) ?_)))
  refine zbi (zD hO [] [(0, zol g), (2, zok z), (3, zol B), (4, zok o), (13, zok (q0.prog.Structs.length : Int)), (14, zok o)] ⟨rfl, rfl, rfl, rfl, rfl, rfl, trivial⟩ fun j => ?_)
  refine zh (zi ?_)
  refine zce (rE (fun ch σ' => ∃ (v : Value) (τ' : Hp), R = some (.error (z, v)) ∧ ch = [{ v := v, recovered := false }] ∧ Obs τ' σ' [some (B, ⟨[.int .i64 0], 35, 1, true⟩), zm g (.slice b7 q0.prog.Structs.length b8) (.slice b9 q0.prog.Funcs.length c2) (.slice c3 q0.tree.Bodies.length c4) q0.tree.Main (.slice c5 q0.tree.Points.length c6) q0.fn (.slice c7 q0.vars.length c8) (.slice c9 q0.scope.length d0), W, X, Y] ∧ Hp.le τ τ') 2 rfl ?_ ?_)
  ·rintro ch e' σ' ⟨v, τ', S, U, h3, Z⟩ he
   rw [S] at hF
   obtain ⟨kk, hk, hr⟩ := Option.map_eq_some_iff.1 hF
   exact hDp z _ kk v ch q0 e' σ' τ' _ _ _ _ hk U hr.symm ⟨_, _, _, _, _, _, rfl, b0.le Z, b1.le Z, b2.le Z, b4.le Z, b5.le Z, b6.le Z⟩ Z h3 he
  refine zM hO 2 [] [(0, zol g), (2, zok z), (3, zol B), (13, zok (q0.prog.Structs.length : Int)), (14, zok o), (17, zol g), (18, zok o)] ⟨rfl, rfl, rfl, rfl, rfl, rfl, rfl, trivial⟩ fun j => ?_
  rcases hf : zdv q0 o with _ | ⟨v | u⟩
  ·rw [hf] at hR
   rw [show R = none from hR] at hF
   cases hF
  ·rw [hf] at hR
   refine zbo (hs := [_]) hO (zjM (b0.le hL) (b1.le hL) (b2.le hL) (b4.le hL) (b5.le hL) (b6.le hL) hf) zn2 rfl fun _ σ τ' _ hO S U => ?_
   obtain ⟨rfl, rfl⟩ := U
   exact ⟨v, τ', hR, rfl, hO, hL.trans S⟩
  ·rw [hf] at hR
   refine zbn (hs := [_]) hO (zjM (b0.le hL) (b1.le hL) (b2.le hL) (b4.le hL) (b5.le hL) (b6.le hL) hf) zn2 rfl fun _ σ τ' _ hO S U => ?_
   obtain ⟨rfl, rfl⟩ := U
   have hL := hL.trans S
   have hO : Obs _ _ [some (B, ⟨[.int .i64 0], 35, 1, true⟩), zm g (.slice b7 q0.prog.Structs.length b8) (.slice b9 q0.prog.Funcs.length c2) (.slice c3 q0.tree.Bodies.length c4) q0.tree.Main (.slice c5 q0.tree.Points.length c6) q0.fn (.slice c7 q0.vars.length c8) (.slice c9 q0.scope.length d0), W, X, Y] := hO
   refine ze (zh (zi (zcw (fun _ _ => False) rfl (fun _ _ _ h => h.elim) ?_)))
   refine zbi (zD hO [] [(0, zol g), (2, zok (IntKind.i64.wrap (z + 1))), (3, zol B), (13, zok (q0.prog.Structs.length : Int)), (14, zok o)] ⟨rfl, rfl, rfl, rfl, rfl, trivial⟩ fun j => ?_)
   refine zh (zX (zi (zcw (fun _ _ => False) rfl (fun _ _ _ h => h.elim) ?_)))
   refine zbi (zD hO [] [(0, zol g), (2, zok (IntKind.i64.wrap (z + 1))), (3, zol B), (13, zok (q0.prog.Structs.length : Int)), (14, zok (IntKind.i64.wrap (o + 1)))] ⟨rfl, rfl, rfl, rfl, rfl, trivial⟩ fun j => ?_)
   refine zh (zi ?_)
   exact ⟨k, Nat.lt_succ_self _, _, _, _, ⟨rfl, rfl, rfl, rfl, rfl, trivial⟩, hO, hL, hR⟩
 rw [ht] at hR
 replace hR : R = some (.ok z) := hR
 rw [hR] at hF
 clear hR
 refine zbR (zbR (zbX (zi ?_)))
 -- bodies
 replace hF : (match wB q0.prog.Funcs.length big q0 z 0 with
   | none => none
   | some (.error x) => (zdi x.2.1).map fun k => (x.1, k, x.2.2)
   | some (.ok x) => wT x.1 x.2) = some rr := hF
 refine zce (zce (zcw (fun _ _ => False) rfl (fun _ _ _ h => h.elim) ?_))
 refine zbi (zD hO [1] [(0, zol g), (2, zok z), (3, zol B), (28, zok (q0.prog.Funcs.length : Int)), (29, zok 0)] ⟨⟨rfl, rfl⟩, rfl, rfl, rfl, rfl, rfl, trivial⟩ fun j => ?_)
 refine zh (zi ?_)
 obtain ⟨R, hR⟩ : ∃ R, R = wB q0.prog.Funcs.length big q0 z 0 := ⟨_, rfl⟩
 rw [← hR] at hF
 obtain ⟨len, hlen⟩ : ∃ n, n = q0.prog.Funcs.length := ⟨_, rfl⟩
 rw [← hlen] at hR
 rw [← hlen]
 have hK : wK g q0 τ1 (zm g (.slice b7 q0.prog.Structs.length b8) (.slice b9 q0.prog.Funcs.length c2) (.slice c3 q0.tree.Bodies.length c4) q0.tree.Main (.slice c5 q0.tree.Points.length c6) q0.fn (.slice c7 q0.vars.length c8) (.slice c9 q0.scope.length d0)) W X Y := ⟨_, _, _, _, _, _, rfl, b0.le hL, b1.le hL, b2.le hL, b4.le hL, b5.le hL, b6.le hL⟩
 refine zgj (lpE (fun (n : Nat) e' σ' => ∃ (q : zb) (z o : Int) (τ' : Hp) (V E G I : Ob), agr [(0, zol g), (2, zok z), (3, zol B), (28, zok (len : Int)), (29, zok o)] e' ∧ Obs τ' σ' [some (B, ⟨[.int .i64 0], 35, 1, true⟩), V, E, G, I] ∧ wK g q τ' V E G I ∧ Hp.le τ τ' ∧ R = wB len n q z o) big ⟨q0, z, 0, τ1, _, _, _, _, ⟨rfl, rfl, rfl, rfl, rfl, trivial⟩, hO, hK, hL, hR⟩ ?_)
 clear hR hO hL hK hlen hA
 clear b0 b1 b2 b4 b5 b6
 rintro k e σ ⟨q, z, o, τ1, V, E, G, I, hA, hO, ⟨u0, u1, u2, u4, u6, u7, rfl, f0, d7, g5, g8, g9, i0⟩, hL, hR⟩
 rw [← zW _ _ hA]
 cases k with
 | zero =>
  rw [show R = none from hR] at hF
  cases hF
 | succ k =>
 replace hR : R = if (decide (o < (len : Int))) = true then (match zdw q o with
  | none => none
  | some (.error v) => some (.error (z, v.1, v.2))
  | some (.ok q') => wB len k q' (IntKind.i64.wrap (z + 1)) (IntKind.i64.wrap (o + 1))) else some (.ok (z, q)) := hR
 refine zce (zcw (fun _ _ => False) rfl (fun _ _ _ h => h.elim) ?_)
 refine zbi (zD hO [] [(0, zol g), (2, zok z), (3, zol B), (28, zok (len : Int)), (29, zok o), (30, .bool (decide (o < (len : Int))))] ⟨rfl, rfl, rfl, rfl, rfl, rfl, trivial⟩ fun j => ?_)
 refine zh (zi ?_)
 refine zce (zjB (t := decide (o < (len : Int))) rfl (fun ht => skE ?_) (fun ht => exE ?_))
 ·rw [if_pos ht] at hR
  refine zi ?_
  refine zce (zgj (zce (zcw (fun _ _ => False) rfl (fun _ _ _ h => h.elim) ?_)))
  refine zbi (zD hO [] [(0, zol g), (2, zok z), (3, zol B), (5, zok o), (28, zok (len : Int)), (29, zok o)] ⟨rfl, rfl, rfl, rfl, rfl, rfl, trivial⟩ fun j => ?_)
  refine zh (zi ?_)
  refine zce (rE (fun ch σ' => ∃ (v : Value) (q' : zb) (τ' : Hp) (V E G I : Ob), R = some (.error (z, v, q')) ∧ ch = [{ v := v, recovered := false }] ∧ wK g q' τ' V E G I ∧ Obs τ' σ' [some (B, ⟨[.int .i64 0], 35, 1, true⟩), V, E, G, I] ∧ Hp.le τ τ') 2 rfl ?_ ?_)
  ·rintro ch e' σ' ⟨v, q', τ', V, E, G, I, S, U, h3, Z, h5⟩ he
   rw [S] at hF
   obtain ⟨kk, hk, hr⟩ := Option.map_eq_some_iff.1 hF
   exact hDp z _ kk v ch q' e' σ' τ' _ _ _ _ hk U hr.symm h3 h5 Z he
  refine zM hO 2 [] [(0, zol g), (2, zok z), (3, zol B), (28, zok (len : Int)), (29, zok o), (32, zol g), (33, zok o)] ⟨rfl, rfl, rfl, rfl, rfl, rfl, rfl, trivial⟩ fun j => ?_
  rcases hf : zdw q o with _ | ⟨v | q'⟩
  ·rw [hf] at hR
   rw [show R = none from hR] at hF
   cases hF
  ·rw [hf] at hR
   refine zbo (hs := [_]) hO (zjj f0 d7 g5 g8 g9 i0 hf) zn2 rfl fun _ σ τ' _ hO S U => ?_
   obtain ⟨v0, v1, v2, p1, v4, p2, v6, v7, p3, rfl, rfl, g0, g1, g2, g4, g6, g7⟩ := U
   exact ⟨v.1, v.2, τ', _, _, _, _, hR, rfl, ⟨_, _, _, _, _, _, rfl, g0, g1, g2, g4, g6, g7⟩, hO, hL.trans S⟩
  ·rw [hf] at hR
   refine zbn (hs := [_]) hO (zjj f0 d7 g5 g8 g9 i0 hf) zn2 rfl fun _ σ τ' _ hO S U => ?_
   obtain ⟨v0, v1, v2, p1, v4, p2, v6, v7, p3, rfl, rfl, g0, g1, g2, g4, g6, g7⟩ := U
   have hL := hL.trans S
   have hO := zop5 hO
   refine ze (zh (zi (zcw (fun _ _ => False) rfl (fun _ _ _ h => h.elim) ?_)))
   refine zbi (zD hO [] [(0, zol g), (2, zok (IntKind.i64.wrap (z + 1))), (3, zol B), (28, zok (len : Int)), (29, zok o)] ⟨rfl, rfl, rfl, rfl, rfl, trivial⟩ fun j => ?_)
   refine zh (zX (zi (zcw (fun _ _ => False) rfl (fun _ _ _ h => h.elim) ?_)))
   refine zbi (zD hO [] [(0, zol g), (2, zok (IntKind.i64.wrap (z + 1))), (3, zol B), (28, zok (len : Int)), (29, zok (IntKind.i64.wrap (o + 1)))] ⟨rfl, rfl, rfl, rfl, rfl, trivial⟩ fun j => ?_)
   refine zh (zi ?_)
   exact ⟨k, Nat.lt_succ_self _, q', _, _, τ', _, _, _, _, ⟨rfl, rfl, rfl, rfl, rfl, trivial⟩, hO, ⟨_, _, _, _, _, _, rfl, g0, g1, g2, g4, g6, g7⟩, hL, hR⟩
 rw [ht] at hR
 replace hR : R = some (.ok (z, q)) := hR
 rw [hR] at hF
 clear hR
 replace hF : wT z q = some rr := hF
 refine zbR (zbR (zbX (zi ?_)))
 -- main
 unfold wT at hF
 obtain ⟨m, k7, hF⟩ := zoq hF
 obtain ⟨A0, c0, rfl, -⟩ := f0.form
 obtain ⟨A1, c1, rfl, -⟩ := d7.form
 refine zce (zcw (fun _ _ => False) rfl (fun _ _ _ h => h.elim) ?_)
 refine zbi (zM hO 2 [] [(0, zol g), (2, zok z), (3, zol B), (38, zol g), (39, zol g)] ⟨rfl, rfl, rfl, rfl, rfl, trivial⟩ fun j => ?_)
 refine zb1 (hs := [_]) hO (zjx f0 d7 g5 g8 g9 i0 k7) rfl fun _ σ τ' _ hO S U => ?_
 obtain ⟨rfl, rfl⟩ := U
 have hL := hL.trans S
 have hO := zop5 hO
 refine zM hO 3 [] [(0, zol g), (2, zok z), (3, zol B), (40, zok m), (43, .pointer (some ⟨g, 3, none⟩))] ⟨rfl, rfl, rfl, rfl, rfl, trivial⟩ fun j => ?_
 refine zu hO (i := 1) rfl (off := 3) rfl rfl rfl rfl (Nat.le_of_ble_eq_true rfl) rfl fun σ hO => ?_
 have hO : Obs _ _ [some (B, ⟨[.int .i64 0], 35, 1, true⟩), zm g (.slice A0 q.prog.Structs.length c0) (.slice A1 q.prog.Funcs.length c1) u2 m u4 q.fn u6 u7, E, G, I] := hO
 have hK : ∀ τ2, Hp.le τ' τ2 → wK g (wM q m) τ2 (zm g (.slice A0 q.prog.Structs.length c0) (.slice A1 q.prog.Funcs.length c1) u2 m u4 q.fn u6 u7) E G I := fun τ2 U => ⟨_, _, _, _, _, _, rfl, (f0.le S).le U, (d7.le S).le U, (g5.le S).le U, (g8.le S).le U, (g9.le S).le U, (i0.le S).le U⟩
 refine ze (zh (zi ?_))
 refine zce (rE (fun ch σ' => ∃ (v : Value) (τ2 : Hp) (k : Int), zdi v = some k ∧ rr = (z, k, wM q m) ∧ ch = [{ v := v, recovered := false }] ∧ Obs τ2 σ' [some (B, ⟨[.int .i64 0], 35, 1, true⟩), zm g (.slice A0 q.prog.Structs.length c0) (.slice A1 q.prog.Funcs.length c1) u2 m u4 q.fn u6 u7, E, G, I] ∧ Hp.le τ' τ2) 2 rfl ?_ ?_)
 ·rintro ch e' σ' ⟨v, τ2, kk, h3, Z, h5, h6, h7⟩ he
  exact hDp z _ kk v ch _ e' σ' τ2 _ _ _ _ h3 h5 Z (hK _ h7) (hL.trans h7) h6 he
 refine zM hO 6 [1] [(0, zol g), (2, zok z), (3, zol B), (49, .bool (decide (m ≥ 0)))] ⟨⟨rfl, rfl⟩, rfl, rfl, rfl, rfl, trivial⟩ fun j => ?_
 rcases hf : zby (decide (m ≥ 0)) 8 with _ | ⟨v | u⟩
 ·rw [hf] at hF
  cases hF
 ·rw [hf] at hF
  obtain ⟨kk, hk, hr⟩ := Option.map_eq_some_iff.1 hF
  refine zbM hO (zbg hf) zn2 rfl fun _ σ τ2 _ hO h3 Z => ?_
  obtain ⟨rfl, rfl⟩ := Z
  exact ⟨v, τ2, kk, hk, hr.symm, rfl, hO, h3⟩
 rw [hf] at hF
 replace hF : (zL q.prog.Funcs m).bind _ = some rr := hF
 refine zbO hO (zbg hf) zn2 rfl fun _ σ τ2 _ hO h3 Z => ?_
 obtain ⟨rfl, rfl⟩ := Z
 have hO : Obs _ _ [some (B, ⟨[.int .i64 0], 35, 1, true⟩), zm g (.slice A0 q.prog.Structs.length c0) (.slice A1 q.prog.Funcs.length c1) u2 m u4 q.fn u6 u7, E, G, I] := hO
 refine ze (zh (zi ?_))
 obtain ⟨d, hd, hF⟩ := zoq hF
 clear hf
 -- the declaration
 refine zce (zcw (fun _ _ => False) rfl (fun _ _ _ h => h.elim) ?_)
 refine zm3 (zM hO 10 [1, 1] [(0, zol g), (2, zok z), (3, zol B), (54, .pointer (some ⟨g, 1, none⟩)), (55, zor A1 q.prog.Funcs c1), (59, .pointer (some ⟨g, 3, none⟩)), (60, zok m)] ⟨⟨rfl, rfl⟩, ⟨rfl, rfl⟩, rfl, rfl, rfl, rfl, rfl, rfl, rfl, trivial⟩ fun j => ?_)
 refine zbG (T := zt) ((d7.le S).le h3) hO.base rfl rfl hd (by decide) fun a5 _ k6 m7 => ?_
 obtain ⟨v8, m5, rfl, r9, k9⟩ := k6
 obtain ⟨m6, m8, rfl, -⟩ := r9.form
 obtain ⟨m9, n0, rfl, -⟩ := k9.form
 refine zbh rfl ((m7.le hO.base).all rfl) ?_
 refine zbt (zbm hO fun n1 σ hO => ?_)
 have hO := zop6 hO
 refine ze (zbs ⟨(zA rfl ((m7.le hO.base).all rfl) rfl), (zA rfl (hO.val (i := 1) (off := 3) (agg := false) (n := 1) rfl rfl) rfl), (zA rfl (hO.val (i := 1) (off := 1) (agg := false) (n := 1) rfl rfl) rfl), trivial⟩ ?_)
 refine zu hO (i := 5) rfl (off := 0) rfl rfl rfl rfl (Nat.le_of_ble_eq_true rfl) rfl fun σ hO => ?_
 have hO := zop6 hO
 refine ze (zh (zi ?_))
 refine zce (rE (fun ch σ' => ∃ (v : Value) (τ3 : Hp) (k : Int), zdi v = some k ∧ rr = (z, k, wM q m) ∧ ch = [{ v := v, recovered := false }] ∧ Obs τ3 σ' [some (B, ⟨[.int .i64 0], 35, 1, true⟩), zm g (.slice A0 q.prog.Structs.length c0) (.slice A1 q.prog.Funcs.length c1) u2 m u4 q.fn u6 u7, E, G, I] ∧ Hp.le τ' τ3) 2 rfl ?_ ?_)
 ·rintro ch e' σ' ⟨v, τ3, kk, h5, h6, h7, h8, h9⟩ he
  exact hDp z _ kk v ch _ e' σ' τ3 _ _ _ _ h5 h7 h6 (hK _ h9) (hL.trans h9) h8 he
 refine zM hO 7 [5, 5] [(0, zol g), (2, zok z), (3, zol B), (72, .bool (((d.Params.length : Int) == 0) && ((d.Result.Kind.toNat : Int) == 0)))] ⟨⟨rfl, rfl⟩, ⟨rfl, rfl⟩, ⟨⟨rfl, rfl⟩, fun J => ⟨rfl, rfl, rfl, rfl, trivial⟩⟩⟩ fun j => ?_
 rcases hf : zby (((d.Params.length : Int) == 0) && ((d.Result.Kind.toNat : Int) == 0)) 8 with _ | ⟨v | u⟩
 ·rw [hf] at hF
  cases hF
 ·rw [hf] at hF
  obtain ⟨kk, hk, hr⟩ := Option.map_eq_some_iff.1 hF
  refine zbM hO (zbg hf) zn2 rfl fun _ σ τ3 _ hO h5 h6 => ?_
  obtain ⟨rfl, rfl⟩ := h6
  exact ⟨v, τ3, kk, hk, hr.symm, rfl, hO.sel [0, 1, 2, 3, 4], h3.trans h5⟩
 rw [hf] at hF
 replace hF : some (z, (0 : Int), wM q m) = some rr := hF
 refine zbO hO (zbg hf) zn2 rfl fun _ σ τ3 _ hO h5 h6 => ?_
 obtain ⟨rfl, rfl⟩ := h6
 have hO := zop6 hO
 refine ze (zh (zi ?_))
 injection hF with hF
 -- OK is stored
 refine zcw (fun _ _ => False) rfl (fun _ _ _ h => h.elim) ?_
 refine zM hO 2 [] [(2, zok z), (3, zol B)] ⟨rfl, rfl, trivial⟩ fun j => ?_
 refine zu hO (i := 0) rfl (off := 0) rfl rfl rfl rfl (Nat.le_of_ble_eq_true rfl) rfl fun σ hO => ?_
 refine ze (zbb ?_)
 exact hDr z 0 (wM q m) _ _ _ _ _ _ _ hF.symm (hK _ (h3.trans h5)) (hL.trans (h3.trans h5)) (hO.sel [0, 1, 2, 3, 4]) rfl
theorem zna {τ : Hp} {p0 : zI} {g h : Value} (k : RdT zo τ g p0.Vars) (o : RdT zba τ h p0.Acts) {rr : Bool} (hF : zh6 p0 = some rr) :
  Ctr Try.prog 36 #[.agg #[.string p0.Name, .int .i64 p0.Params, .bool p0.Result, g, h]] τ [] (fun v τ' vs' => v = .bool rr ∧ vs' = []) := by
 obtain ⟨q, z, rfl, -⟩ := k.form
 obtain ⟨B, D, rfl, -⟩ := o.form
 refine zbp (args := [.agg #[.string p0.Name, .int .i64 p0.Params, .bool p0.Result, (.slice q p0.Vars.length z), (.slice B p0.Acts.length D)]]) hm Try.func36 s36 rfl fun w0 σ hO Q hQ => ?_
 unfold zh6 at hF
 have hL := Hp.le.refl τ
 show wpn _ _ a36.body _ _ _
 unfold a36
 dsimp only
 refine zbJ (n := 5) hO rfl rfl fun E σ hO => ?_
 have hO := zop1 hO
 refine zd hO [] [] [1] zn4 fun j => ?_
 refine zD hO [0] [(2, .bool (decide ((p0.Vars.length : Int) > 64)))] (And.intro (And.intro rfl rfl) zn4) fun j => ?_
 refine zbb ?_
 cases hF
 have hO := hO.sel []
 exact hQ _ _ _ _ _ rfl hO hL ⟨rfl, rfl⟩
theorem zmL {τ : Hp} {E : Value} {p0 : (List zI)} (G : RdT zq τ E p0) {rr : Int} (hF : zf1 p0 = some rr) :
  Ctr Try.prog 55 #[E, .func (.func 36) #[] #[]] τ [] (fun v τ' vs' => v = .int .i64 rr ∧ vs' = []) := by
 obtain ⟨B, D, rfl, -⟩ := G.form
 refine zbp (args := [.slice B p0.length D, .func (.func 36) #[] #[]]) hm Try.func55 s55 rfl fun w0 σ hO Q hQ => ?_
 unfold zf1 at hF
 have hL := Hp.le.refl τ
 show wpn _ _ a55.body _ _ _
 unfold a55
 dsimp only
 refine zd hO [] [] [0, 1] zn5 fun j => ?_
 refine zn (zd hO [] [(7, zok (p0.length : Int)), (8, zok 0)] [0, 1] zn7 fun j => ?_)
 refine zbr (zcg (fun (n : Nat) e' σ' => ∃ (g : Int) (τ' : Hp), agr [(0, zor B p0 D), (1, .func (.func 36) #[] #[]), (7, zok (p0.length : Int)), (8, zok g)] e' ∧ Obs τ' σ' [] ∧ Hp.le τ τ' ∧ zgQ p0 n g = some rr) big ⟨0, _, zoj zn6, hO, hL, hF⟩ ?_)
 clear hF hO hL
 rintro h e σ ⟨g, _, hA, hO, hL, hF⟩
 rw [← zW _ _ hA]
 cases h with
 | zero => exact nomatch (show none = some rr from hF)
 | succ h =>
 replace hF : zhO (zgQ p0 h) p0 g = some rr := hF
 unfold zhO at hF
 refine zd hO [] [(9, .bool (decide (g < (p0.length : Int))))] [0, 1, 7, 8] zn8 fun j => ?_
 refine zz hF rfl (fun hF => ?_) fun hF => ?_
 ·refine zN (zbr (zd hO [] [(5, zok g)] [0, 1, 7, 8] zn8 fun j => ?_))
  refine zg hO 3 [] [(11, .func (.func 36) #[] #[]), (12, zor B p0 D), (13, zok g)] [0, 1, 5, 7, 8] zob fun j => ?_
  obtain ⟨W, I, hF⟩ := zoq hF
  refine zbG (T := zq) (G.le hL) hO.base rfl rfl I (by decide) fun a46 _ S z => ?_
  obtain ⟨X, Y, rfl, k, o⟩ := S
  obtain ⟨Z, b0, rfl, -⟩ := k.form
  obtain ⟨b1, b2, rfl, -⟩ := o.form
  refine zbh rfl ((z.le hO.base).all rfl) ?_
  obtain ⟨b3, U, hF⟩ := zoq hF
  refine ze1 rfl (by kernel_rfl) hO (zna k o U) rfl fun _ σ _ _ hO q V => ?_
  have hL := hL.trans q
  have z := z.le q
  have k := k.le q
  have o := o.le q
  obtain ⟨rfl, rfl⟩ := V
  have hO : Obs _ _ [] := hO
  refine ze (zbz (zz hF rfl (fun hF => ?_) fun hF => ?_))
  ·refine zn (zD hO [] [(4, zok g)] zn4 fun j => ?_)
   refine zbH (zbE (zbw (zbw (zbE (zbw ?_)))))
   cases hF
   exact hQ _ _ _ _ _ rfl hO hL ⟨rfl, rfl⟩
  refine zN (zh (zX (zi (zbi (zd hO [] [(8, zok (IntKind.i64.wrap (g + 1)))] [0, 1, 7] zn7 fun j => ?_)))))
  refine zh (zi ?_)
  exact ⟨h, Nat.lt_succ_self _, (IntKind.i64.wrap (g + 1)), _, zoj zn6, hO, hL, hF⟩
 refine zb9 (zbR (zbX (zi (zD hO [] [(4, zok (-1))] zn4 fun j => ?_))))
 refine zbb ?_
 cases hF
 exact hQ _ _ _ _ _ rfl hO hL ⟨rfl, rfl⟩
theorem zmE {τ : Hp} {g : Value} {p0 : (List zI)} (h : RdT zq τ g p0) {rr : Bool} (hF : zgc p0 = some rr) :
  Ctr Try.prog 35 #[g, .func (.func 36) #[] #[]] τ [] (fun v τ' vs' => v = .bool rr ∧ vs' = []) := by
 obtain ⟨k, o, rfl, -⟩ := h.form
 refine zbp (args := [.slice k p0.length o, .func (.func 36) #[] #[]]) hm Try.func35 s35 rfl fun w0 σ hO Q hQ => ?_
 unfold zgc at hF
 have hL := Hp.le.refl τ
 show wpn _ _ a35.body _ _ _
 unfold a35
 dsimp only
 refine zd hO [] [] [0, 1] zn5 fun j => ?_
 refine zM hO 2 [] [(5, zor k p0 o), (6, .func (.func 36) #[] #[])] zn5 fun j => ?_
 obtain ⟨q, z, hF⟩ := zoq hF
 refine z3 hO (zmL (h.le hL) z) rfl fun _ σ _ _ hO B D => ?_
 have hL := hL.trans B
 obtain ⟨rfl, rfl⟩ := D
 have hO : Obs _ _ [] := hO
 refine zD hO [] [(4, .bool (decide (q ≥ 0)))] zn4 fun j => ?_
 refine zbb ?_
 cases hF
 exact hQ _ _ _ _ _ rfl hO hL ⟨rfl, rfl⟩
theorem zfn {τ : Hp} {p0 : zs} {k V : Value} (W : RdT zw τ k p0.Structs) (X : RdT zt τ V p0.Funcs) {rr : zx × Int × Int} (hF : zcD p0 = some rr) :
  Ctr Try.prog 17 #[.agg #[k, V]] τ [] (fun v τ' vs' => ∃ (k Y : Value), v = .tuple #[.agg #[k, .int .i64 rr.1.Main, Y], .int .i64 rr.2.1, .int .i64 rr.2.2] ∧ vs' = [] ∧ RdT zq τ' k rr.1.Bodies ∧ RdT zr τ' Y rr.1.Points) := by
 obtain ⟨Z, b0, rfl, -⟩ := W.form
 obtain ⟨b1, b5, rfl, -⟩ := X.form
 refine zbp (args := [.agg #[(zor Z p0.Structs b0), (zor b1 p0.Funcs b5)]]) hm Try.func17 s17 rfl fun w0 σ hO Q hQ => ?_
 unfold zcD at hF
 have hL := Hp.le.refl τ
 show wpn _ _ a17.body _ _ _
 unfold a17
 dsimp only
 refine zbJ (n := 2) hO rfl rfl fun b2 σ hO => ?_
 have hO := zop1 hO
 refine zbm hO fun b3 σ hO => ?_
 have hO := zop2 hO
 refine zd hO [] [] [1, 2] zn5 fun j => ?_
 refine zg hO 2 [0] [(10, .agg #[(zor Z p0.Structs b0), (zor b1 p0.Funcs b5), (.slice none 0 0), (.int .i64 0), (.slice none 0 0), (.int .i64 0), (.slice none 0 0), (.slice none 0 0)])] [1, 2] (And.intro (And.intro rfl rfl) zn6) fun j => ?_
 refine zbJ (n := 8) hO rfl rfl fun b4 σ hO => ?_
 have hO := zop3 hO
 refine zd hO [] [(5, zol b4)] [1, 2] zn6 fun j => ?_
 refine zn (zg hO 1 [] [(13, zol b4)] [1, 2, 5] zn7 fun j => ?_)
 have hO := hO.no
 have hO := zop4 hO
 have w5 := za.nil0 (T := zq) (ty := 59) hO
 have hO := hO.no
 have hO := zop5 hO
 have w6 := za.nil0 (T := zr) (ty := 87) hO
 have hO := hO.no
 have hO := zop6 hO
 have w7 := za.nil0 (T := (Ty.int .i64)) (ty := 3) hO
 obtain ⟨g, h9, hF⟩ := zoq hF
 refine zb1 (hs := [_, _]) hO (zmh (q0 := (⟨(⟨p0.Structs, p0.Funcs⟩ : zs), (⟨([] : List zI), 0, ([] : List zE)⟩ : zx), 0, [], ([] : List Int)⟩ : zb)) (W.le hL) (X.le hL) w5 w6 (RdT.nil zo _) w7 h9) rfl fun _ σ _ _ hO c1 c2 => ?_
 have hL := hL.trans c1
 obtain ⟨d9, f0, f1, f2, f3, f4, f5, f6, f7, rfl, rfl, o, q, S, E, z, B⟩ := c2
 obtain ⟨f8, f9, rfl, -⟩ := o.form
 obtain ⟨g0, g1, rfl, -⟩ := q.form
 obtain ⟨b7, b8, rfl, -⟩ := S.form
 obtain ⟨c3, c4, rfl, -⟩ := E.form
 obtain ⟨g2, g3, rfl, -⟩ := z.form
 obtain ⟨g4, g5, rfl, -⟩ := B.form
 have hO := zop6 hO
 refine zd hO [] [(6, zok g.1), (7, zok g.2.1)] [1, 2, 5] zn8 fun j => ?_
 refine zn (zd hO [] [(18, .bool (g.2.1 != 0))] [1, 2, 5, 6, 7] zn9 fun j => ?_)
 refine zz hF rfl (fun hF => ?_) fun hF => ?_
 ·refine zn (zg hO 3 [] [(19, .agg #[(.slice none 0 0), (.int .i64 0), (.slice none 0 0)]), (20, zok g.1), (21, zok g.2.1)] [2] zn7 fun j => ?_)
  refine zu hO (i := 1) rfl (off := 0) rfl rfl rfl rfl (Nat.le_of_ble_eq_true rfl) rfl fun σ hO => ?_
  have hO := zop6 hO
  refine zd hO [] [(3, zok g.1), (4, zok g.2.1)] [2] zn6 fun j => ?_
  refine zbH ?_
  cases hF
  have U := hO.val (i := 1) rfl (off := 0) (agg := true) (n := 3) rfl
  have hO := hO.sel []
  exact hQ _ _ _ _ _ (zbY rfl (U) (zco (zco rfl))) hO hL ⟨_, _, rfl, rfl, (RdT.nil _ _), (RdT.nil _ _)⟩
 refine zN (zg hO 5 [2] [(26, zor b7 g.2.2.tree.Bodies b8)] [1, 2, 5] (And.intro (And.intro rfl rfl) zn7) fun j => ?_)
 obtain ⟨b9, c5, hF⟩ := zoq hF
 have hO := hO.sel [0, 1, 2, 4, 5, 3]
 refine zb1 (hs := [_, _, _, _, _]) hO (Ctr.lendG S (fun _ _ _ _ h => h) fun _ g6 c6 => zmE c6 c5) rfl fun _ σ _ _ hO D c7 => ?_
 have hL := hL.trans D
 have S := S.le D
 have o := o.le D
 have q := q.le D
 have E := E.le D
 have z := z.le D
 have B := B.le D
 obtain ⟨_, rfl, rfl, rfl⟩ := c7
 have hO := zop6 hO
 have hO := hO.sel [0, 1, 2, 5, 3, 4]
 have hO := zop6 hO
 refine zd hO [] [(8, .bool b9)] [1, 2, 5] zn7 fun j => ?_
 refine zn (zD hO [0, 2] [(2, zol b3), (5, zol b4), (43, .bool ((b9 || (decide ((p0.Funcs.length : Int) > 64))) || (decide ((g.2.2.tree.Points.length : Int) > 1000))))] (And.intro (And.intro rfl rfl) (And.intro (And.intro rfl rfl) (fun _ => And.intro (And.intro rfl rfl) (And.intro (And.intro rfl rfl) (fun _ => zoj zn5))))) fun j => ?_)
 refine zz hF rfl (fun hF => ?_) fun hF => ?_
 ·refine zn (zg hO 1 [] [(44, .agg #[(.slice none 0 0), (.int .i64 0), (.slice none 0 0)])] [2] zn5 fun j => ?_)
  refine zu hO (i := 1) rfl (off := 0) rfl rfl rfl rfl (Nat.le_of_ble_eq_true rfl) rfl fun σ hO => ?_
  have hO := zop6 hO
  refine zd hO [] [(3, zok 0), (4, zok 11)] [2] zn6 fun j => ?_
  refine zbH ?_
  cases hF
  have U := hO.val (i := 1) rfl (off := 0) (agg := true) (n := 3) rfl
  have hO := hO.sel []
  exact hQ _ _ _ _ _ (zbY rfl (U) (zco (zco rfl))) hO hL ⟨_, _, rfl, rfl, (RdT.nil _ _), (RdT.nil _ _)⟩
 refine zN (zg hO 4 [2] [(48, .agg #[(zor b7 g.2.2.tree.Bodies b8), (.int .i64 g.2.2.tree.Main), (zor c3 g.2.2.tree.Points c4)])] [2] (And.intro (And.intro rfl rfl) zn5) fun j => ?_)
 refine zu hO (i := 1) rfl (off := 0) rfl rfl rfl rfl (Nat.le_of_ble_eq_true rfl) rfl fun σ hO => ?_
 have hO := zop6 hO
 refine zd hO [] [(3, zok 0), (4, zok 0)] [2] zn6 fun j => ?_
 refine zbb ?_
 obtain ⟨_, G, b6, hO⟩ := S.share hO (i := 3) rfl
 have hL := hL.trans G
 have E := E.le G
 have o := o.le G
 have q := q.le G
 have z := z.le G
 have B := B.le G
 have hO := zop6 hO
 obtain ⟨_, I, c9, hO⟩ := E.share hO (i := 4) rfl
 have hL := hL.trans I
 have b6 := b6.le I
 have o := o.le I
 have q := q.le I
 have z := z.le I
 have B := B.le I
 have hO := zop6 hO
 cases hF
 have U := hO.val (i := 1) rfl (off := 0) (agg := true) (n := 3) rfl
 have hO := hO.sel []
 exact hQ _ _ _ _ _ (zbY rfl (U) (zco (zco rfl))) hO hL ⟨_, _, rfl, rfl, b6, c9⟩
theorem zd1 {τ : Hp} {p0 : Int}  {rr : zc} (hF : zfg p0 = some rr) :
  Ctr Try.prog 25 #[.int .i64 p0] τ [] (fun v τ' vs' => ∃ (g : Value), v = .agg #[.int .u8 rr.Kind.toNat, .int .i64 rr.Num, .string rr.Name, .string rr.Field, .string rr.Op, g] ∧ vs' = [] ∧ RdT zZ τ' g rr.Kids) := by
 refine zbp (args := [.int .i64 p0]) hm Try.func25 s25 rfl fun w0 σ hO Q hQ => ?_
 unfold zfg at hF
 have hL := Hp.le.refl τ
 show wpn _ _ a25.body _ _ _
 unfold a25
 dsimp only
 refine zbm hO fun k σ hO => ?_
 have hO := zop1 hO
 refine ze (zg hO 2 [] [(4, .agg #[(.int .u8 1), (.int .i64 p0), (.string znS), (.string znS), (.string znS), (.slice none 0 0)])] [2] zn5 fun j => ?_)
 refine zu hO (i := 0) rfl (off := 0) rfl rfl rfl rfl (Nat.le_of_ble_eq_true rfl) rfl fun σ hO => ?_
 have hO := zop1 hO
 refine ze (zbb ?_)
 cases hF
 have h := hO.val (i := 0) rfl (off := 0) (agg := true) (n := 6) rfl
 have hO := hO.sel []
 exact hQ _ _ _ _ _ (zbY rfl (h) rfl) hO hL ⟨_, rfl, rfl, (RdT.nil _ _)⟩
theorem zeB {τ : Hp} {p0 : ByteArray}  {rr : zc} (hF : zfR p0 = some rr) :
  Ctr Try.prog 39 #[.string p0] τ [] (fun v τ' vs' => ∃ (g : Value), v = .agg #[.int .u8 rr.Kind.toNat, .int .i64 rr.Num, .string rr.Name, .string rr.Field, .string rr.Op, g] ∧ vs' = [] ∧ RdT zZ τ' g rr.Kids) := by
 refine zbp (args := [.string p0]) hm Try.func39 s39 rfl fun w0 σ hO Q hQ => ?_
 unfold zfR at hF
 have hL := Hp.le.refl τ
 show wpn _ _ a39.body _ _ _
 unfold a39
 dsimp only
 refine zbm hO fun k σ hO => ?_
 have hO := zop1 hO
 refine ze (zg hO 2 [] [(4, .agg #[(.int .u8 3), (.int .i64 0), (.string p0), (.string znS), (.string znS), (.slice none 0 0)])] [2] zn5 fun j => ?_)
 refine zu hO (i := 0) rfl (off := 0) rfl rfl rfl rfl (Nat.le_of_ble_eq_true rfl) rfl fun σ hO => ?_
 have hO := zop1 hO
 refine ze (zbb ?_)
 cases hF
 have h := hO.val (i := 0) rfl (off := 0) (agg := true) (n := 6) rfl
 have hO := hO.sel []
 exact hQ _ _ _ _ _ (zbY rfl (h) rfl) hO hL ⟨_, rfl, rfl, (RdT.nil _ _)⟩
theorem zfT {τ : Hp} {p0 : ByteArray} {p1 : zc} {z : Value} {g : zc} {B : Value} (D : RdT zZ τ z p1.Kids) (E : RdT zZ τ B g.Kids) {rr : zc} (hF : zf2 p0 p1 g = some rr) :
  Ctr Try.prog 40 #[.string p0, .agg #[.int .u8 p1.Kind.toNat, .int .i64 p1.Num, .string p1.Name, .string p1.Field, .string p1.Op, z], .agg #[.int .u8 g.Kind.toNat, .int .i64 g.Num, .string g.Name, .string g.Field, .string g.Op, B]] τ [] (fun v τ' vs' => ∃ (G : Value), v = .agg #[.int .u8 rr.Kind.toNat, .int .i64 rr.Num, .string rr.Name, .string rr.Field, .string rr.Op, G] ∧ vs' = [] ∧ RdT zZ τ' G rr.Kids) := by
 obtain ⟨h, k, rfl, -⟩ := D.form
 obtain ⟨o, q, rfl, -⟩ := E.form
 refine zbp (args := [.string p0, .agg #[.int .u8 p1.Kind.toNat, .int .i64 p1.Num, .string p1.Name, .string p1.Field, .string p1.Op, (.slice h p1.Kids.length k)], .agg #[.int .u8 g.Kind.toNat, .int .i64 g.Num, .string g.Name, .string g.Field, .string g.Op, (.slice o g.Kids.length q)]]) hm Try.func40 s40 rfl fun w0 σ hO Q hQ => ?_
 unfold zf2 at hF
 have hL := Hp.le.refl τ
 show wpn _ _ a40.body _ _ _
 unfold a40
 dsimp only
 refine zbJ (n := 6) hO rfl rfl fun Y σ hO => ?_
 have hO := zop1 hO
 refine zbJ (n := 6) hO rfl rfl fun Z σ hO => ?_
 have hO := zop2 hO
 refine zbm hO fun b6 σ hO => ?_
 have hO := zop3 hO
 refine ze (zg hO 3 [0, 1] [(7, .string p0), (8, .agg #[(.int .u8 (p1.Kind.toNat : Int)), (.int .i64 p1.Num), (.string p1.Name), (.string p1.Field), (.string p1.Op), (zor h p1.Kids k)]), (9, .agg #[(.int .u8 (g.Kind.toNat : Int)), (.int .i64 g.Num), (.string g.Name), (.string g.Field), (.string g.Op), (zor o g.Kids q)])] [6] (And.intro (And.intro rfl rfl) (And.intro (And.intro rfl rfl) zn7)) fun j => ?_)
 refine z5 (T := zZ) (l := ([(⟨p1.Kind, p1.Num, p1.Name, p1.Field, p1.Op, p1.Kids⟩ : zc), (⟨g.Kind, g.Num, g.Name, g.Field, g.Op, g.Kids⟩ : zc)] : List zc)) (cs := [.int .u8 (p1.Kind.toNat : Int), .int .i64 p1.Num, .string p1.Name, .string p1.Field, .string p1.Op, zor h p1.Kids k, .int .u8 (g.Kind.toNat : Int), .int .i64 g.Num, .string g.Name, .string g.Field, .string g.Op, zor o g.Kids q]) hO rfl ⟨[.int .u8 (p1.Kind.toNat : Int), .int .i64 p1.Num, .string p1.Name, .string p1.Field, .string p1.Op, zor h p1.Kids k], _, rfl, (zb6 ⟨_, rfl, (D.le hL)⟩), ⟨[.int .u8 (g.Kind.toNat : Int), .int .i64 g.Num, .string g.Name, .string g.Field, .string g.Op, zor o g.Kids q], _, rfl, (zb6 ⟨_, rfl, (E.le hL)⟩), rfl⟩⟩ rfl (by decide) fun _ σ o9 I hO => ?_
 obtain ⟨W, X, rfl, -⟩ := I.form
 have hO := zop4 hO
 refine zg hO 1 [] [(11, .agg #[(.int .u8 7), (.int .i64 0), (.string znS), (.string znS), (.string p0), (zor W ([(⟨p1.Kind, p1.Num, p1.Name, p1.Field, p1.Op, p1.Kids⟩ : zc), (⟨g.Kind, g.Num, g.Name, g.Field, g.Op, g.Kids⟩ : zc)] : List zc) X)])] [6] zn5 fun j => ?_
 refine zu hO (i := 2) rfl (off := 0) rfl rfl rfl rfl (Nat.le_of_ble_eq_true rfl) rfl fun σ hO => ?_
 have hO := zop4 hO
 refine ze (zbb ?_)
 obtain ⟨_, S, U, hO⟩ := I.share hO (i := 3) rfl
 have hL := hL.trans S
 have hO := zop4 hO
 cases hF
 have V := hO.val (i := 2) rfl (off := 0) (agg := true) (n := 6) rfl
 have hO := hO.sel []
 exact hQ _ _ _ _ _ (zbY rfl (V) rfl) hO hL ⟨_, rfl, rfl, U⟩
theorem zl6 {τ : Hp} {p0 : Int}  {rr : zs} (hF : zdf p0 = some rr) :
  Ctr Try.prog 21 #[.int .i64 p0] τ [] (fun v τ' vs' => ∃ (b4 b5 : Value), v = .agg #[b4, b5] ∧ vs' = [] ∧ RdT zw τ' b4 rr.Structs ∧ RdT zt τ' b5 rr.Funcs) := by
 refine zbp (args := [.int .i64 p0]) hm Try.func21 s21 rfl fun w0 σ hO Q hQ => ?_
 unfold zdf at hF
 have hL := Hp.le.refl τ
 show wpn _ _ a21.body _ _ _
 unfold a21
 dsimp only
 refine zbm hO fun b2 σ hO => ?_
 have hO := zop1 hO
 refine ze ?_
 obtain ⟨o, h4, hF⟩ := zoq hF
 refine z3 hO (zeB (p0 := znU) h4) rfl fun _ σ _ _ hO h5 h6 => ?_
 have hL := hL.trans h5
 obtain ⟨v7, rfl, rfl, r8⟩ := h6
 obtain ⟨A9, d8, rfl, -⟩ := r8.form
 have hO := zop1 hO
 refine z5 (T := zZ) (l := ([(⟨o.Kind, o.Num, o.Name, o.Field, o.Op, o.Kids⟩ : zc)] : List zc)) (cs := [.int .u8 (o.Kind.toNat : Int), .int .i64 o.Num, .string o.Name, .string o.Field, .string o.Op, zor A9 o.Kids d8]) hO rfl ⟨[.int .u8 (o.Kind.toNat : Int), .int .i64 o.Num, .string o.Name, .string o.Field, .string o.Op, zor A9 o.Kids d8], _, rfl, (zb6 ⟨_, rfl, r8⟩), rfl⟩ rfl (by decide) fun _ σ j5 z hO => ?_
 obtain ⟨b6, b7, rfl, -⟩ := z.form
 have hO := zop2 hO
 refine zg hO 1 [] [(7, .agg #[(.int .u8 8), (.int .i64 3), (.string znS), (.string znS), (.string znS), (.int .u8 0), (.int .i64 0), (.string znS), (zor b6 ([(⟨o.Kind, o.Num, o.Name, o.Field, o.Op, o.Kids⟩ : zc)] : List zc) b7), (.slice none 0 0), (.slice none 0 0)])] [0, 2] zn6 fun j => ?_
 obtain ⟨j6, h0, hF⟩ := zoq hF
 refine z3 hO (zeB (p0 := znU) h0) rfl fun _ σ _ _ hO d9 h1 => ?_
 have hL := hL.trans d9
 have z := z.le d9
 obtain ⟨j7, rfl, rfl, D⟩ := h1
 obtain ⟨j8, j9, rfl, -⟩ := D.form
 have hO := zop2 hO
 obtain ⟨k0, h2, hF⟩ := zoq hF
 refine z3 hO (zd1 h2) rfl fun _ σ _ _ hO b8 h3 => ?_
 have hL := hL.trans b8
 have z := z.le b8
 have D := D.le b8
 obtain ⟨k1, rfl, rfl, S⟩ := h3
 obtain ⟨k2, k3, rfl, -⟩ := S.form
 have hO := zop2 hO
 obtain ⟨g, h7, hF⟩ := zoq hF
 refine z3 hO (zfT (p0 := znY) D S h7) rfl fun _ σ _ _ hO U h8 => ?_
 have hL := hL.trans U
 have z := z.le U
 have D := D.le U
 have S := S.le U
 obtain ⟨k4, rfl, rfl, f0⟩ := h8
 obtain ⟨f1, f2, rfl, -⟩ := f0.form
 have hO := zop2 hO
 refine z5 (T := zZ) (l := ([(⟨g.Kind, g.Num, g.Name, g.Field, g.Op, g.Kids⟩ : zc)] : List zc)) (cs := [.int .u8 (g.Kind.toNat : Int), .int .i64 g.Num, .string g.Name, .string g.Field, .string g.Op, zor f1 g.Kids f2]) hO rfl ⟨[.int .u8 (g.Kind.toNat : Int), .int .i64 g.Num, .string g.Name, .string g.Field, .string g.Op, zor f1 g.Kids f2], _, rfl, (zb6 ⟨_, rfl, f0⟩), rfl⟩ rfl (by decide) fun _ σ k5 V hO => ?_
 obtain ⟨b9, c0, rfl, -⟩ := V.form
 have hO := zop3 hO
 refine zg hO 1 [] [(12, .agg #[(.int .u8 2), (.int .i64 4), (.string znU), (.string znS), (.string znS), (.int .u8 0), (.int .i64 0), (.string znS), (zor b9 ([(⟨g.Kind, g.Num, g.Name, g.Field, g.Op, g.Kids⟩ : zc)] : List zc) c0), (.slice none 0 0), (.slice none 0 0)])] [0, 2, 7] zn7 fun j => ?_
 obtain ⟨_, f3, c1, hO⟩ := z.share hO (i := 1) rfl
 have hL := hL.trans f3
 have V := V.le f3
 have hO := zop3 hO
 obtain ⟨_, f4, h9, hO⟩ := V.share hO (i := 2) rfl
 have hL := hL.trans f4
 have c1 := c1.le f4
 have hO := zop3 hO
 refine z5 (T := zH) (l := ([(⟨(8 : UInt8), 3, znS, znS, znS, (⟨(0 : UInt8), 0, znS⟩ : zk), ([(⟨o.Kind, o.Num, o.Name, o.Field, o.Op, o.Kids⟩ : zc)] : List zc), [], []⟩ : zf), (⟨(2 : UInt8), 4, znU, znS, znS, (⟨(0 : UInt8), 0, znS⟩ : zk), ([(⟨g.Kind, g.Num, g.Name, g.Field, g.Op, g.Kids⟩ : zc)] : List zc), [], []⟩ : zf)] : List zf)) (cs := [.int .u8 8, .int .i64 3, .string znS, .string znS, .string znS, .int .u8 0, .int .i64 0, .string znS, zor b6 ([(⟨o.Kind, o.Num, o.Name, o.Field, o.Op, o.Kids⟩ : zc)] : List zc) b7, .slice none 0 0, .slice none 0 0, .int .u8 2, .int .i64 4, .string znU, .string znS, .string znS, .int .u8 0, .int .i64 0, .string znS, zor b9 ([(⟨g.Kind, g.Num, g.Name, g.Field, g.Op, g.Kids⟩ : zc)] : List zc) c0, .slice none 0 0, .slice none 0 0]) hO rfl ⟨[.int .u8 8, .int .i64 3, .string znS, .string znS, .string znS, .int .u8 0, .int .i64 0, .string znS, zor b6 ([(⟨o.Kind, o.Num, o.Name, o.Field, o.Op, o.Kids⟩ : zc)] : List zc) b7, .slice none 0 0, .slice none 0 0], _, rfl, (zbL ⟨_, _, _, rfl, c1, RdT.nil _ _, RdT.nil _ _⟩), ⟨[.int .u8 2, .int .i64 4, .string znU, .string znS, .string znS, .int .u8 0, .int .i64 0, .string znS, zor b9 ([(⟨g.Kind, g.Num, g.Name, g.Field, g.Op, g.Kids⟩ : zc)] : List zc) c0, .slice none 0 0, .slice none 0 0], _, rfl, (zbL ⟨_, _, _, rfl, h9, RdT.nil _ _, RdT.nil _ _⟩), rfl⟩⟩ rfl (by decide) fun _ σ k6 q hO => ?_
 obtain ⟨W, X, rfl, -⟩ := q.form
 have hO := zop4 hO
 refine zd hO [] [(3, .slice W ([(⟨(8 : UInt8), 3, znS, znS, znS, (⟨(0 : UInt8), 0, znS⟩ : zk), ([(⟨o.Kind, o.Num, o.Name, o.Field, o.Op, o.Kids⟩ : zc)] : List zc), [], []⟩ : zf), (⟨(2 : UInt8), 4, znU, znS, znS, (⟨(0 : UInt8), 0, znS⟩ : zk), ([(⟨g.Kind, g.Num, g.Name, g.Field, g.Op, g.Kids⟩ : zc)] : List zc), [], []⟩ : zf)] : List zf).length X)] [0, 2] zn6 fun j => ?_
 refine zg hO 2 [] [(14, .agg #[(.int .u8 1), (.int .i64 0), (.string znS)]), (15, zok p0)] [2, 3] zn7 fun j => ?_
 obtain ⟨h, i0, hF⟩ := zoq hF
 refine z3 hO (zd1 i0) rfl fun _ σ _ _ hO f5 i1 => ?_
 have hL := hL.trans f5
 have q := q.le f5
 obtain ⟨k7, rfl, rfl, f6⟩ := i1
 obtain ⟨f7, f8, rfl, -⟩ := f6.form
 have hO := zop4 hO
 refine z5 (T := zZ) (l := ([(⟨h.Kind, h.Num, h.Name, h.Field, h.Op, h.Kids⟩ : zc)] : List zc)) (cs := [.int .u8 (h.Kind.toNat : Int), .int .i64 h.Num, .string h.Name, .string h.Field, .string h.Op, zor f7 h.Kids f8]) hO rfl ⟨[.int .u8 (h.Kind.toNat : Int), .int .i64 h.Num, .string h.Name, .string h.Field, .string h.Op, zor f7 h.Kids f8], _, rfl, (zb6 ⟨_, rfl, f6⟩), rfl⟩ rfl (by decide) fun _ σ k8 B hO => ?_
 obtain ⟨c2, c4, rfl, -⟩ := B.form
 have hO := zop5 hO
 refine zg hO 1 [] [(18, .agg #[(.int .u8 1), (.int .i64 1), (.string znU), (.string znS), (.string znS), (.int .u8 1), (.int .i64 0), (.string znS), (zor c2 ([(⟨h.Kind, h.Num, h.Name, h.Field, h.Op, h.Kids⟩ : zc)] : List zc) c4), (.slice none 0 0), (.slice none 0 0)])] [2, 3] zn6 fun j => ?_
 obtain ⟨k9, i2, hF⟩ := zoq hF
 refine z3 hO (zeB (p0 := znU) i2) rfl fun _ σ _ _ hO c5 i3 => ?_
 have hL := hL.trans c5
 have q := q.le c5
 have B := B.le c5
 obtain ⟨l0, rfl, rfl, E⟩ := i3
 obtain ⟨l1, l2, rfl, -⟩ := E.form
 have hO := zop5 hO
 obtain ⟨l3, i4, hF⟩ := zoq hF
 refine z3 hO (zd1 i4) rfl fun _ σ _ _ hO Y i5 => ?_
 have hL := hL.trans Y
 have q := q.le Y
 have B := B.le Y
 have E := E.le Y
 obtain ⟨l4, rfl, rfl, Z⟩ := i5
 obtain ⟨l5, l6, rfl, -⟩ := Z.form
 have hO := zop5 hO
 obtain ⟨k, i6, hF⟩ := zoq hF
 refine z3 hO (zfT (p0 := zn0) E Z i6) rfl fun _ σ _ _ hO G i7 => ?_
 have hL := hL.trans G
 have q := q.le G
 have B := B.le G
 have E := E.le G
 have Z := Z.le G
 obtain ⟨l7, rfl, rfl, f9⟩ := i7
 obtain ⟨g0, g1, rfl, -⟩ := f9.form
 have hO := zop5 hO
 refine z5 (T := zZ) (l := ([(⟨k.Kind, k.Num, k.Name, k.Field, k.Op, k.Kids⟩ : zc)] : List zc)) (cs := [.int .u8 (k.Kind.toNat : Int), .int .i64 k.Num, .string k.Name, .string k.Field, .string k.Op, zor g0 k.Kids g1]) hO rfl ⟨[.int .u8 (k.Kind.toNat : Int), .int .i64 k.Num, .string k.Name, .string k.Field, .string k.Op, zor g0 k.Kids g1], _, rfl, (zb6 ⟨_, rfl, f9⟩), rfl⟩ rfl (by decide) fun _ σ l8 b0 hO => ?_
 obtain ⟨c6, c7, rfl, -⟩ := b0.form
 have hO := zop6 hO
 refine zg hO 2 [] [(24, .agg #[(.int .u8 7), (.int .i64 2), (.string znS), (.string znS), (.string znS), (.int .u8 0), (.int .i64 0), (.string znS), (zor c6 ([(⟨k.Kind, k.Num, k.Name, k.Field, k.Op, k.Kids⟩ : zc)] : List zc) c7), (.slice W ([(⟨(8 : UInt8), 3, znS, znS, znS, (⟨(0 : UInt8), 0, znS⟩ : zk), ([(⟨o.Kind, o.Num, o.Name, o.Field, o.Op, o.Kids⟩ : zc)] : List zc), [], []⟩ : zf), (⟨(2 : UInt8), 4, znU, znS, znS, (⟨(0 : UInt8), 0, znS⟩ : zk), ([(⟨g.Kind, g.Num, g.Name, g.Field, g.Op, g.Kids⟩ : zc)] : List zc), [], []⟩ : zf)] : List zf).length X), (.slice none 0 0)])] [2, 18] zn6 fun j => ?_
 obtain ⟨_, c8, I, hO⟩ := B.share hO (i := 4) rfl
 have hL := hL.trans c8
 have b0 := b0.le c8
 have q := q.le c8
 have hO := zop6 hO
 obtain ⟨_, c9, d0, hO⟩ := b0.share hO (i := 5) rfl
 have hL := hL.trans c9
 have I := I.le c9
 have q := q.le c9
 have hO := zop6 hO
 obtain ⟨_, d5, i8, hO⟩ := q.share hO (i := 3) rfl
 have hL := hL.trans d5
 have I := I.le d5
 have d0 := d0.le d5
 have hO := zop6 hO
 refine z5 (T := zH) (l := ([(⟨(1 : UInt8), 1, znU, znS, znS, (⟨(1 : UInt8), 0, znS⟩ : zk), ([(⟨h.Kind, h.Num, h.Name, h.Field, h.Op, h.Kids⟩ : zc)] : List zc), [], []⟩ : zf), (⟨(7 : UInt8), 2, znS, znS, znS, (⟨(0 : UInt8), 0, znS⟩ : zk), ([(⟨k.Kind, k.Num, k.Name, k.Field, k.Op, k.Kids⟩ : zc)] : List zc), ([(⟨(8 : UInt8), 3, znS, znS, znS, (⟨(0 : UInt8), 0, znS⟩ : zk), ([(⟨o.Kind, o.Num, o.Name, o.Field, o.Op, o.Kids⟩ : zc)] : List zc), [], []⟩ : zf), (⟨(2 : UInt8), 4, znU, znS, znS, (⟨(0 : UInt8), 0, znS⟩ : zk), ([(⟨g.Kind, g.Num, g.Name, g.Field, g.Op, g.Kids⟩ : zc)] : List zc), [], []⟩ : zf)] : List zf), []⟩ : zf)] : List zf)) (cs := [.int .u8 1, .int .i64 1, .string znU, .string znS, .string znS, .int .u8 1, .int .i64 0, .string znS, zor c2 ([(⟨h.Kind, h.Num, h.Name, h.Field, h.Op, h.Kids⟩ : zc)] : List zc) c4, .slice none 0 0, .slice none 0 0, .int .u8 7, .int .i64 2, .string znS, .string znS, .string znS, .int .u8 0, .int .i64 0, .string znS, zor c6 ([(⟨k.Kind, k.Num, k.Name, k.Field, k.Op, k.Kids⟩ : zc)] : List zc) c7, .slice W ([(⟨(8 : UInt8), 3, znS, znS, znS, (⟨(0 : UInt8), 0, znS⟩ : zk), ([(⟨o.Kind, o.Num, o.Name, o.Field, o.Op, o.Kids⟩ : zc)] : List zc), [], []⟩ : zf), (⟨(2 : UInt8), 4, znU, znS, znS, (⟨(0 : UInt8), 0, znS⟩ : zk), ([(⟨g.Kind, g.Num, g.Name, g.Field, g.Op, g.Kids⟩ : zc)] : List zc), [], []⟩ : zf)] : List zf).length X, .slice none 0 0]) hO rfl ⟨[.int .u8 1, .int .i64 1, .string znU, .string znS, .string znS, .int .u8 1, .int .i64 0, .string znS, zor c2 ([(⟨h.Kind, h.Num, h.Name, h.Field, h.Op, h.Kids⟩ : zc)] : List zc) c4, .slice none 0 0, .slice none 0 0], _, rfl, (zbL ⟨_, _, _, rfl, I, RdT.nil _ _, RdT.nil _ _⟩), ⟨[.int .u8 7, .int .i64 2, .string znS, .string znS, .string znS, .int .u8 0, .int .i64 0, .string znS, zor c6 ([(⟨k.Kind, k.Num, k.Name, k.Field, k.Op, k.Kids⟩ : zc)] : List zc) c7, .slice W ([(⟨(8 : UInt8), 3, znS, znS, znS, (⟨(0 : UInt8), 0, znS⟩ : zk), ([(⟨o.Kind, o.Num, o.Name, o.Field, o.Op, o.Kids⟩ : zc)] : List zc), [], []⟩ : zf), (⟨(2 : UInt8), 4, znU, znS, znS, (⟨(0 : UInt8), 0, znS⟩ : zk), ([(⟨g.Kind, g.Num, g.Name, g.Field, g.Op, g.Kids⟩ : zc)] : List zc), [], []⟩ : zf)] : List zf).length X, .slice none 0 0], _, rfl, (zbL ⟨_, _, _, rfl, d0, i8, RdT.nil _ _⟩), rfl⟩⟩ rfl (by decide) fun _ σ l9 d6 hO => ?_
 obtain ⟨b1, b3, rfl, -⟩ := d6.form
 have hO := zop7 hO
 refine zd hO [] [(4, .slice b1 ([(⟨(1 : UInt8), 1, znU, znS, znS, (⟨(1 : UInt8), 0, znS⟩ : zk), ([(⟨h.Kind, h.Num, h.Name, h.Field, h.Op, h.Kids⟩ : zc)] : List zc), [], []⟩ : zf), (⟨(7 : UInt8), 2, znS, znS, znS, (⟨(0 : UInt8), 0, znS⟩ : zk), ([(⟨k.Kind, k.Num, k.Name, k.Field, k.Op, k.Kids⟩ : zc)] : List zc), ([(⟨(8 : UInt8), 3, znS, znS, znS, (⟨(0 : UInt8), 0, znS⟩ : zk), ([(⟨o.Kind, o.Num, o.Name, o.Field, o.Op, o.Kids⟩ : zc)] : List zc), [], []⟩ : zf), (⟨(2 : UInt8), 4, znU, znS, znS, (⟨(0 : UInt8), 0, znS⟩ : zk), ([(⟨g.Kind, g.Num, g.Name, g.Field, g.Op, g.Kids⟩ : zc)] : List zc), [], []⟩ : zf)] : List zf), []⟩ : zf)] : List zf).length b3)] [2] zn5 fun j => ?_
 refine zg hO 2 [] [(27, .agg #[(.string znT), (.int .i64 1), (.slice none 0 0), (.int .u8 0), (.int .i64 0), (.string znS), (.slice b1 ([(⟨(1 : UInt8), 1, znU, znS, znS, (⟨(1 : UInt8), 0, znS⟩ : zk), ([(⟨h.Kind, h.Num, h.Name, h.Field, h.Op, h.Kids⟩ : zc)] : List zc), [], []⟩ : zf), (⟨(7 : UInt8), 2, znS, znS, znS, (⟨(0 : UInt8), 0, znS⟩ : zk), ([(⟨k.Kind, k.Num, k.Name, k.Field, k.Op, k.Kids⟩ : zc)] : List zc), ([(⟨(8 : UInt8), 3, znS, znS, znS, (⟨(0 : UInt8), 0, znS⟩ : zk), ([(⟨o.Kind, o.Num, o.Name, o.Field, o.Op, o.Kids⟩ : zc)] : List zc), [], []⟩ : zf), (⟨(2 : UInt8), 4, znU, znS, znS, (⟨(0 : UInt8), 0, znS⟩ : zk), ([(⟨g.Kind, g.Num, g.Name, g.Field, g.Op, g.Kids⟩ : zc)] : List zc), [], []⟩ : zf)] : List zf), []⟩ : zf)] : List zf).length b3)])] [2] zn5 fun j => ?_
 obtain ⟨_, g2, g3, hO⟩ := d6.share hO (i := 6) rfl
 have hL := hL.trans g2
 have hO := zop7 hO
 refine z5 (T := zt) (l := ([(⟨znT, 1, [], (⟨(0 : UInt8), 0, znS⟩ : zk), ([(⟨(1 : UInt8), 1, znU, znS, znS, (⟨(1 : UInt8), 0, znS⟩ : zk), ([(⟨h.Kind, h.Num, h.Name, h.Field, h.Op, h.Kids⟩ : zc)] : List zc), [], []⟩ : zf), (⟨(7 : UInt8), 2, znS, znS, znS, (⟨(0 : UInt8), 0, znS⟩ : zk), ([(⟨k.Kind, k.Num, k.Name, k.Field, k.Op, k.Kids⟩ : zc)] : List zc), ([(⟨(8 : UInt8), 3, znS, znS, znS, (⟨(0 : UInt8), 0, znS⟩ : zk), ([(⟨o.Kind, o.Num, o.Name, o.Field, o.Op, o.Kids⟩ : zc)] : List zc), [], []⟩ : zf), (⟨(2 : UInt8), 4, znU, znS, znS, (⟨(0 : UInt8), 0, znS⟩ : zk), ([(⟨g.Kind, g.Num, g.Name, g.Field, g.Op, g.Kids⟩ : zc)] : List zc), [], []⟩ : zf)] : List zf), []⟩ : zf)] : List zf)⟩ : zB)] : List zB)) (cs := [.string znT, .int .i64 1, .slice none 0 0, .int .u8 0, .int .i64 0, .string znS, .slice b1 ([(⟨(1 : UInt8), 1, znU, znS, znS, (⟨(1 : UInt8), 0, znS⟩ : zk), ([(⟨h.Kind, h.Num, h.Name, h.Field, h.Op, h.Kids⟩ : zc)] : List zc), [], []⟩ : zf), (⟨(7 : UInt8), 2, znS, znS, znS, (⟨(0 : UInt8), 0, znS⟩ : zk), ([(⟨k.Kind, k.Num, k.Name, k.Field, k.Op, k.Kids⟩ : zc)] : List zc), ([(⟨(8 : UInt8), 3, znS, znS, znS, (⟨(0 : UInt8), 0, znS⟩ : zk), ([(⟨o.Kind, o.Num, o.Name, o.Field, o.Op, o.Kids⟩ : zc)] : List zc), [], []⟩ : zf), (⟨(2 : UInt8), 4, znU, znS, znS, (⟨(0 : UInt8), 0, znS⟩ : zk), ([(⟨g.Kind, g.Num, g.Name, g.Field, g.Op, g.Kids⟩ : zc)] : List zc), [], []⟩ : zf)] : List zf), []⟩ : zf)] : List zf).length b3]) hO rfl ⟨[.string znT, .int .i64 1, .slice none 0 0, .int .u8 0, .int .i64 0, .string znS, .slice b1 ([(⟨(1 : UInt8), 1, znU, znS, znS, (⟨(1 : UInt8), 0, znS⟩ : zk), ([(⟨h.Kind, h.Num, h.Name, h.Field, h.Op, h.Kids⟩ : zc)] : List zc), [], []⟩ : zf), (⟨(7 : UInt8), 2, znS, znS, znS, (⟨(0 : UInt8), 0, znS⟩ : zk), ([(⟨k.Kind, k.Num, k.Name, k.Field, k.Op, k.Kids⟩ : zc)] : List zc), ([(⟨(8 : UInt8), 3, znS, znS, znS, (⟨(0 : UInt8), 0, znS⟩ : zk), ([(⟨o.Kind, o.Num, o.Name, o.Field, o.Op, o.Kids⟩ : zc)] : List zc), [], []⟩ : zf), (⟨(2 : UInt8), 4, znU, znS, znS, (⟨(0 : UInt8), 0, znS⟩ : zk), ([(⟨g.Kind, g.Num, g.Name, g.Field, g.Op, g.Kids⟩ : zc)] : List zc), [], []⟩ : zf)] : List zf), []⟩ : zf)] : List zf).length b3], _, rfl, ⟨_, _, rfl, RdT.nil _ _, g3⟩, rfl⟩ rfl (by decide) fun _ σ j4 d7 hO => ?_
 obtain ⟨g4, g5, rfl, -⟩ := d7.form
 have hO := zop8 hO
 refine zM hO 1 [] [(2, zol b2), (29, .agg #[(.slice none 0 0), (.slice g4 ([(⟨znT, 1, [], (⟨(0 : UInt8), 0, znS⟩ : zk), ([(⟨(1 : UInt8), 1, znU, znS, znS, (⟨(1 : UInt8), 0, znS⟩ : zk), ([(⟨h.Kind, h.Num, h.Name, h.Field, h.Op, h.Kids⟩ : zc)] : List zc), [], []⟩ : zf), (⟨(7 : UInt8), 2, znS, znS, znS, (⟨(0 : UInt8), 0, znS⟩ : zk), ([(⟨k.Kind, k.Num, k.Name, k.Field, k.Op, k.Kids⟩ : zc)] : List zc), ([(⟨(8 : UInt8), 3, znS, znS, znS, (⟨(0 : UInt8), 0, znS⟩ : zk), ([(⟨o.Kind, o.Num, o.Name, o.Field, o.Op, o.Kids⟩ : zc)] : List zc), [], []⟩ : zf), (⟨(2 : UInt8), 4, znU, znS, znS, (⟨(0 : UInt8), 0, znS⟩ : zk), ([(⟨g.Kind, g.Num, g.Name, g.Field, g.Op, g.Kids⟩ : zc)] : List zc), [], []⟩ : zf)] : List zf), []⟩ : zf)] : List zf)⟩ : zB)] : List zB).length g5)])] zn5 fun j => ?_
 refine zu hO (i := 0) rfl (off := 0) rfl rfl rfl rfl (Nat.le_of_ble_eq_true rfl) rfl fun σ hO => ?_
 have hO := zop8 hO
 refine ze (zbb ?_)
 obtain ⟨_, g6, g7, hO⟩ := d7.share hO (i := 7) rfl
 have hL := hL.trans g6
 have hO := zop8 hO
 cases hF
 have i9 := hO.val (i := 0) rfl (off := 0) (agg := true) (n := 2) rfl
 have hO := hO.sel []
 exact hQ _ _ _ _ _ (zbY rfl (i9) rfl) hO hL ⟨_, _, rfl, rfl, (RdT.nil _ _), g7⟩
theorem zh7 {τ : Hp} {p0 : Int}  {rr : zs} (hF : zdf p0 = some rr) :
  Ctr Try.prog 21 #[.int .i64 p0] τ [] (fun v τ' vs' => ∃ (bF bL bK : Nat) (k1 : List zc) (V1 : Value) (x : zc) (V3 : Value) (inn : List zf) (V2 : Value), v = .agg #[.slice none 0 0, .slice (some ⟨bF, 0, none⟩) 1 1] ∧ vs' = [some (bF, ⟨[.string znT, .int .i64 1, .slice none 0 0, .int .u8 0, .int .i64 0, .string znS, .slice (some ⟨bL, 0, none⟩) 2 2], 53, 7, true⟩), some (bL, ⟨[.int .u8 1, .int .i64 1, .string znU, .string znS, .string znS, .int .u8 1, .int .i64 0, .string znS, V1, .slice none 0 0, .slice none 0 0, .int .u8 7, .int .i64 2, .string znS, .string znS, .string znS, .int .u8 0, .int .i64 0, .string znS, .slice (some ⟨bK, 0, none⟩) 1 1, V2, .slice none 0 0], 73, 22, true⟩), some (bK, ⟨[.int .u8 (x.Kind.toNat : Int), .int .i64 x.Num, .string x.Name, .string x.Field, .string x.Op, V3], 71, 6, true⟩)] ∧ RdT zZ τ' V1 k1 ∧ RdT zZ τ' V3 x.Kids ∧ RdT zH τ' V2 inn ∧ rr = (⟨[], [⟨znT, 1, [], ⟨0, 0, znS⟩, [⟨1, 1, znU, znS, znS, ⟨1, 0, znS⟩, k1, [], []⟩, ⟨7, 2, znS, znS, znS, ⟨0, 0, znS⟩, [⟨x.Kind, x.Num, x.Name, x.Field, x.Op, x.Kids⟩], inn, []⟩]⟩]⟩ : zs)) := by
 refine zbp (args := [.int .i64 p0]) hm Try.func21 s21 rfl fun w0 σ hO Q hQ => ?_
 unfold zdf at hF
 have hL := Hp.le.refl τ
 show wpn _ _ a21.body _ _ _
 unfold a21
 dsimp only
 refine zbm hO fun b2 σ hO => ?_
 have hO := zop1 hO
 refine ze ?_
 obtain ⟨o, h4, hF⟩ := zoq hF
 refine z3 hO (zeB (p0 := znU) h4) rfl fun _ σ _ _ hO h5 h6 => ?_
 have hL := hL.trans h5
 obtain ⟨v7, rfl, rfl, r8⟩ := h6
 obtain ⟨A9, c4, rfl, -⟩ := r8.form
 have hO := zop1 hO
 refine z5 (T := zZ) (l := ([(⟨o.Kind, o.Num, o.Name, o.Field, o.Op, o.Kids⟩ : zc)] : List zc)) (cs := [.int .u8 (o.Kind.toNat : Int), .int .i64 o.Num, .string o.Name, .string o.Field, .string o.Op, zor A9 o.Kids c4]) hO rfl ⟨[.int .u8 (o.Kind.toNat : Int), .int .i64 o.Num, .string o.Name, .string o.Field, .string o.Op, zor A9 o.Kids c4], _, rfl, (zb6 ⟨_, rfl, r8⟩), rfl⟩ rfl (by decide) fun _ σ i4 B hO => ?_
 obtain ⟨b0, b1, rfl, -⟩ := B.form
 have hO := zop2 hO
 refine zg hO 1 [] [(7, .agg #[(.int .u8 8), (.int .i64 3), (.string znS), (.string znS), (.string znS), (.int .u8 0), (.int .i64 0), (.string znS), (zor b0 ([(⟨o.Kind, o.Num, o.Name, o.Field, o.Op, o.Kids⟩ : zc)] : List zc) b1), (.slice none 0 0), (.slice none 0 0)])] [0, 2] zn6 fun j => ?_
 obtain ⟨i5, f7, hF⟩ := zoq hF
 refine z3 hO (zeB (p0 := znU) f7) rfl fun _ σ _ _ hO c5 f8 => ?_
 have hL := hL.trans c5
 have B := B.le c5
 obtain ⟨i6, rfl, rfl, G⟩ := f8
 obtain ⟨i7, i8, rfl, -⟩ := G.form
 have hO := zop2 hO
 obtain ⟨i9, f9, hF⟩ := zoq hF
 refine z3 hO (zd1 f9) rfl fun _ σ _ _ hO b3 g0 => ?_
 have hL := hL.trans b3
 have B := B.le b3
 have G := G.le b3
 obtain ⟨j0, rfl, rfl, V⟩ := g0
 obtain ⟨j1, j2, rfl, -⟩ := V.form
 have hO := zop2 hO
 obtain ⟨g, g1, hF⟩ := zoq hF
 refine z3 hO (zfT (p0 := znY) G V g1) rfl fun _ σ _ _ hO W g2 => ?_
 have hL := hL.trans W
 have B := B.le W
 have G := G.le W
 have V := V.le W
 obtain ⟨j3, rfl, rfl, c6⟩ := g2
 obtain ⟨c7, c8, rfl, -⟩ := c6.form
 have hO := zop2 hO
 refine z5 (T := zZ) (l := ([(⟨g.Kind, g.Num, g.Name, g.Field, g.Op, g.Kids⟩ : zc)] : List zc)) (cs := [.int .u8 (g.Kind.toNat : Int), .int .i64 g.Num, .string g.Name, .string g.Field, .string g.Op, zor c7 g.Kids c8]) hO rfl ⟨[.int .u8 (g.Kind.toNat : Int), .int .i64 g.Num, .string g.Name, .string g.Field, .string g.Op, zor c7 g.Kids c8], _, rfl, (zb6 ⟨_, rfl, c6⟩), rfl⟩ rfl (by decide) fun _ σ j4 X hO => ?_
 obtain ⟨b4, b5, rfl, -⟩ := X.form
 have hO := zop3 hO
 refine zg hO 1 [] [(12, .agg #[(.int .u8 2), (.int .i64 4), (.string znU), (.string znS), (.string znS), (.int .u8 0), (.int .i64 0), (.string znS), (zor b4 ([(⟨g.Kind, g.Num, g.Name, g.Field, g.Op, g.Kids⟩ : zc)] : List zc) b5), (.slice none 0 0), (.slice none 0 0)])] [0, 2, 7] zn7 fun j => ?_
 obtain ⟨_, c9, b6, hO⟩ := B.share hO (i := 1) rfl
 have hL := hL.trans c9
 have X := X.le c9
 have hO := zop3 hO
 obtain ⟨_, d0, g3, hO⟩ := X.share hO (i := 2) rfl
 have hL := hL.trans d0
 have b6 := b6.le d0
 have hO := zop3 hO
 refine z5 (T := zH) (l := ([(⟨(8 : UInt8), 3, znS, znS, znS, (⟨(0 : UInt8), 0, znS⟩ : zk), ([(⟨o.Kind, o.Num, o.Name, o.Field, o.Op, o.Kids⟩ : zc)] : List zc), [], []⟩ : zf), (⟨(2 : UInt8), 4, znU, znS, znS, (⟨(0 : UInt8), 0, znS⟩ : zk), ([(⟨g.Kind, g.Num, g.Name, g.Field, g.Op, g.Kids⟩ : zc)] : List zc), [], []⟩ : zf)] : List zf)) (cs := [.int .u8 8, .int .i64 3, .string znS, .string znS, .string znS, .int .u8 0, .int .i64 0, .string znS, zor b0 ([(⟨o.Kind, o.Num, o.Name, o.Field, o.Op, o.Kids⟩ : zc)] : List zc) b1, .slice none 0 0, .slice none 0 0, .int .u8 2, .int .i64 4, .string znU, .string znS, .string znS, .int .u8 0, .int .i64 0, .string znS, zor b4 ([(⟨g.Kind, g.Num, g.Name, g.Field, g.Op, g.Kids⟩ : zc)] : List zc) b5, .slice none 0 0, .slice none 0 0]) hO rfl ⟨[.int .u8 8, .int .i64 3, .string znS, .string znS, .string znS, .int .u8 0, .int .i64 0, .string znS, zor b0 ([(⟨o.Kind, o.Num, o.Name, o.Field, o.Op, o.Kids⟩ : zc)] : List zc) b1, .slice none 0 0, .slice none 0 0], _, rfl, (zbL ⟨_, _, _, rfl, b6, RdT.nil _ _, RdT.nil _ _⟩), ⟨[.int .u8 2, .int .i64 4, .string znU, .string znS, .string znS, .int .u8 0, .int .i64 0, .string znS, zor b4 ([(⟨g.Kind, g.Num, g.Name, g.Field, g.Op, g.Kids⟩ : zc)] : List zc) b5, .slice none 0 0, .slice none 0 0], _, rfl, (zbL ⟨_, _, _, rfl, g3, RdT.nil _ _, RdT.nil _ _⟩), rfl⟩⟩ rfl (by decide) fun _ σ j5 z hO => ?_
 obtain ⟨b7, b8, rfl, -⟩ := z.form
 have hO := zop4 hO
 refine zd hO [] [(3, .slice b7 ([(⟨(8 : UInt8), 3, znS, znS, znS, (⟨(0 : UInt8), 0, znS⟩ : zk), ([(⟨o.Kind, o.Num, o.Name, o.Field, o.Op, o.Kids⟩ : zc)] : List zc), [], []⟩ : zf), (⟨(2 : UInt8), 4, znU, znS, znS, (⟨(0 : UInt8), 0, znS⟩ : zk), ([(⟨g.Kind, g.Num, g.Name, g.Field, g.Op, g.Kids⟩ : zc)] : List zc), [], []⟩ : zf)] : List zf).length b8)] [0, 2] zn6 fun j => ?_
 refine zg hO 2 [] [(14, .agg #[(.int .u8 1), (.int .i64 0), (.string znS)]), (15, zok p0)] [2, 3] zn7 fun j => ?_
 obtain ⟨q, g4, hF⟩ := zoq hF
 refine z3 hO (zd1 g4) rfl fun _ σ _ _ hO d5 g5 => ?_
 have hL := hL.trans d5
 have z := z.le d5
 obtain ⟨j6, rfl, rfl, d6⟩ := g5
 obtain ⟨d7, d8, rfl, -⟩ := d6.form
 have hO := zop4 hO
 refine z5 (T := zZ) (l := ([(⟨q.Kind, q.Num, q.Name, q.Field, q.Op, q.Kids⟩ : zc)] : List zc)) (cs := [.int .u8 (q.Kind.toNat : Int), .int .i64 q.Num, .string q.Name, .string q.Field, .string q.Op, zor d7 q.Kids d8]) hO rfl ⟨[.int .u8 (q.Kind.toNat : Int), .int .i64 q.Num, .string q.Name, .string q.Field, .string q.Op, zor d7 q.Kids d8], _, rfl, (zb6 ⟨_, rfl, d6⟩), rfl⟩ rfl (by decide) fun _ σ j7 D hO => ?_
 obtain ⟨d9, f0, rfl, -⟩ := D.form
 have hO := zop5 hO
 refine zg hO 1 [] [(18, .agg #[(.int .u8 1), (.int .i64 1), (.string znU), (.string znS), (.string znS), (.int .u8 1), (.int .i64 0), (.string znS), (zor d9 ([(⟨q.Kind, q.Num, q.Name, q.Field, q.Op, q.Kids⟩ : zc)] : List zc) f0), (.slice none 0 0), (.slice none 0 0)])] [2, 3] zn6 fun j => ?_
 obtain ⟨j8, g6, hF⟩ := zoq hF
 refine z3 hO (zeB (p0 := znU) g6) rfl fun _ σ _ _ hO b9 g7 => ?_
 have hL := hL.trans b9
 have z := z.le b9
 have D := D.le b9
 obtain ⟨j9, rfl, rfl, I⟩ := g7
 obtain ⟨k0, k2, rfl, -⟩ := I.form
 have hO := zop5 hO
 obtain ⟨k3, g8, hF⟩ := zoq hF
 refine z3 hO (zd1 g8) rfl fun _ σ _ _ hO Y g9 => ?_
 have hL := hL.trans Y
 have z := z.le Y
 have D := D.le Y
 have I := I.le Y
 obtain ⟨k4, rfl, rfl, Z⟩ := g9
 obtain ⟨k5, k6, rfl, -⟩ := Z.form
 have hO := zop5 hO
 obtain ⟨E, h0, hF⟩ := zoq hF
 refine z3 hO (zfT (p0 := zn0) I Z h0) rfl fun _ σ _ _ hO U h1 => ?_
 have hL := hL.trans U
 have z := z.le U
 have D := D.le U
 have I := I.le U
 have Z := Z.le U
 obtain ⟨k7, rfl, rfl, S⟩ := h1
 obtain ⟨h2, h3, rfl, -⟩ := S.form
 have hO := zop5 hO
 refine zhk (cs := [.int .u8 (E.Kind.toNat : Int), .int .i64 E.Num, .string E.Name, .string E.Field, .string E.Op, .slice h2 E.Kids.length h3]) hO rfl fun bK σ hO => ?_
 have hO := zop6 hO
 refine zg hO 2 [] [(24, .agg #[.int .u8 7, .int .i64 2, .string znS, .string znS, .string znS, .int .u8 0, .int .i64 0, .string znS, .slice (some ⟨bK, 0, none⟩) 1 1, .slice b7 ([(⟨(8 : UInt8), 3, znS, znS, znS, (⟨(0 : UInt8), 0, znS⟩ : zk), ([(⟨o.Kind, o.Num, o.Name, o.Field, o.Op, o.Kids⟩ : zc)] : List zc), [], []⟩ : zf), (⟨(2 : UInt8), 4, znU, znS, znS, (⟨(0 : UInt8), 0, znS⟩ : zk), ([(⟨g.Kind, g.Num, g.Name, g.Field, g.Op, g.Kids⟩ : zc)] : List zc), [], []⟩ : zf)] : List zf).length b8, .slice none 0 0])] [2, 18] zn6 fun j => ?_
 obtain ⟨_, c0, c1, hO⟩ := D.share hO (i := 4) rfl
 have hL := hL.trans c0
 have z := z.le c0
 have S := S.le c0
 have hO := zop6 hO
 obtain ⟨_, c2, h7, hO⟩ := z.share hO (i := 3) rfl
 have hL := hL.trans c2
 have c1 := c1.le c2
 have S := S.le c2
 have hO := zop6 hO
 refine zhk (cs := [.int .u8 1, .int .i64 1, .string znU, .string znS, .string znS, .int .u8 1, .int .i64 0, .string znS, zor d9 ([(⟨q.Kind, q.Num, q.Name, q.Field, q.Op, q.Kids⟩ : zc)] : List zc) f0, .slice none 0 0, .slice none 0 0, .int .u8 7, .int .i64 2, .string znS, .string znS, .string znS, .int .u8 0, .int .i64 0, .string znS, .slice (some ⟨bK, 0, none⟩) 1 1, .slice b7 ([(⟨(8 : UInt8), 3, znS, znS, znS, (⟨(0 : UInt8), 0, znS⟩ : zk), ([(⟨o.Kind, o.Num, o.Name, o.Field, o.Op, o.Kids⟩ : zc)] : List zc), [], []⟩ : zf), (⟨(2 : UInt8), 4, znU, znS, znS, (⟨(0 : UInt8), 0, znS⟩ : zk), ([(⟨g.Kind, g.Num, g.Name, g.Field, g.Op, g.Kids⟩ : zc)] : List zc), [], []⟩ : zf)] : List zf).length b8, .slice none 0 0]) hO rfl fun bL σ hO => ?_
 have hO := zop7 hO
 refine zd hO [] [(4, .slice (some ⟨bL, 0, none⟩) 2 2)] [2] zn5 fun j => ?_
 refine zg hO 2 [] [(27, .agg #[.string znT, .int .i64 1, .slice none 0 0, .int .u8 0, .int .i64 0, .string znS, .slice (some ⟨bL, 0, none⟩) 2 2])] [2] zn5 fun j => ?_
 refine zhk (cs := [.string znT, .int .i64 1, .slice none 0 0, .int .u8 0, .int .i64 0, .string znS, .slice (some ⟨bL, 0, none⟩) 2 2]) hO rfl fun bF σ hO => ?_
 have hO := zop8 hO
 refine zM hO 1 [] [(2, zol b2), (29, .agg #[(.slice none 0 0), .slice (some ⟨bF, 0, none⟩) 1 1])] zn5 fun j => ?_
 refine zu hO (i := 0) rfl (off := 0) rfl rfl rfl rfl (Nat.le_of_ble_eq_true rfl) rfl fun σ hO => ?_
 have hO := zop8 hO
 refine ze (zbb ?_)
 cases hF
 have h8 := hO.val (i := 0) rfl (off := 0) (agg := true) (n := 2) rfl
 have hO := hO.sel [7, 6, 5]
 exact hQ _ _ _ _ _ (zbY rfl (h8) rfl) hO hL ⟨bF, bL, bK, _, _, E, _, _, _, rfl, rfl, c1, S, h7, rfl⟩
def zkd (p : zs) : Option zs := match p with
 | ⟨s, [⟨a, b, c, d, [x, y]⟩]⟩ => some ⟨s, [⟨a, b, c, d, [⟨x.Kind, x.Line, znW, x.Field, x.Call, x.Type_, x.Kids, x.Body, x.Else⟩, y]⟩]⟩
 | _ => none
def zkt (p : zs) : Option zs := match p with
 | ⟨s, [⟨a, b, c, d, [x, y]⟩]⟩ => some ⟨s, [⟨a, b, c, d, [x, ⟨y.Kind, y.Line, y.Name, y.Field, y.Call, y.Type_, [⟨1, 1, znS, znS, znS, []⟩], y.Body, y.Else⟩]⟩]⟩
 | _ => none
def okT : Option (zx × Int × Int) → Bool
 | some (⟨[⟨_, _, _, _, [_, _]⟩], _, [⟨_, _, []⟩, ⟨_, _, [_]⟩, ⟨_, n2, _⟩, _]⟩, n, e) => n == 0 && (e == 0 && n2 == 3)
 | _ => false
def okE (n e : Int) : Option (zx × Int × Int) → Bool
 | some (_, k, h) => (k == n || n == -1) && h == e
 | _ => false
def zj4 (F : zs → Option (zx × Int × Int)) : Option zs → Bool
 | none => false
 | some p => okT (F p) && (okE 0 8 ((zkd p).bind F) && (okE (-1) 9 ((zkt p).bind F) && okE 0 8 (F ⟨[], []⟩)))
theorem zmo {o : Option (zx × Int × Int)} (h : okT o = true) : ∃ nm pr rs vs a1 a2 m g j k q s1 v s2 z, o = some ((⟨[⟨nm, pr, rs, vs, [a1, a2]⟩], m, [⟨g, j, []⟩, ⟨k, q, [s1]⟩, ⟨v, 3, s2⟩, z]⟩ : zx), 0, 0) := by
 unfold okT at h
 split at h
 ·simp only [Bool.and_eq_true, beq_iff_eq] at h
  obtain ⟨rfl, rfl, rfl⟩ := h
  exact ⟨_, _, _, _, _, _, _, _, _, _, _, _, _, _, _, rfl⟩
 ·cases h
theorem zhb {n e : Int} {o : Option (zx × Int × Int)} (h : okE n e o = true) : ∃ t k, o = some (t, k, e) ∧ (n ≠ -1 → k = n) := by
 unfold okE at h
 split at h
 ·simp only [Bool.and_eq_true, Bool.or_eq_true, beq_iff_eq] at h
  obtain ⟨g, rfl⟩ := h
  exact ⟨_, _, rfl, fun hn => g.resolve_right hn⟩
 ·cases h
theorem okW : zj4 zcD (zdf 2) = true := by kernel_rfl
theorem zk4 : ∃ p, zdf 2 = some p ∧ (∃ nm pr rs vs a1 a2 m q v z B s1 D s2 E, zcD p = some ((⟨[⟨nm, pr, rs, vs, [a1, a2]⟩], m, [⟨q, v, []⟩, ⟨z, B, [s1]⟩, ⟨D, 3, s2⟩, E]⟩ : zx), 0, 0)) ∧ (∃ t, (zkd p).bind zcD = some (t, 0, 8)) ∧ (∃ t k, (zkt p).bind zcD = some (t, k, 9)) ∧ ∃ t, zcD ⟨[], []⟩ = some (t, 0, 8) := by
 have h := okW
 generalize zdf 2 = o at h ⊢
 generalize zcD = F at h ⊢
 cases o with
 | none => cases h
 | some p =>
  simp only [zj4, Bool.and_eq_true] at h
  obtain ⟨G, I, S, U⟩ := h
  obtain ⟨V, k2, g, W⟩ := zhb I
  obtain ⟨X, Y, Z, e3⟩ := zhb S
  obtain ⟨t4, k4, j, e4⟩ := zhb U
  rw [W (by decide)] at g
  rw [e4 (by decide)] at j
  exact ⟨p, rfl, zmo G, ⟨V, g⟩, ⟨X, Y, Z⟩, t4, j⟩
theorem zm9 {τ : Hp} : Ctr Try.prog 9 #[] τ [] (fun v τ' vs' => v = .bool true ∧ vs' = []) := by
 obtain ⟨p, hp, ⟨nm, pr, rs, vs, a1, a2, m, f0, l0, f1, l1, s1, f2, s2, x3, ht⟩, ⟨t2, hn⟩, ⟨t3, k3, hk⟩, t4, h4⟩ := zk4
 refine zbp (args := []) hm Try.func9 s9 rfl fun w0 σ hO Q hQ => ?_
 have hL := Hp.le.refl τ
 show wpn _ _ a9.body _ _ _
 unfold a9
 dsimp only
 refine zD hO [] [] trivial fun j => ?_
 refine z3 hO (zl6 hp) rfl fun _ σ _ _ hO h5 h6 => ?_
 have hL := hL.trans h5
 obtain ⟨v7, v8, rfl, rfl, r7, r8⟩ := h6
 have hO : Obs _ _ [] := hO
 refine z3 hO (zfn r7 r8 ht) rfl fun _ σ _ _ hO h9 c9 => ?_
 have hL := hL.trans h9
 obtain ⟨h3, h7, rfl, rfl, rB, rP⟩ := c9
 obtain ⟨AB, cB, rfl, -⟩ := rB.form
 obtain ⟨AP, cP, rfl, -⟩ := rP.form
 have hO : Obs _ _ [] := hO
 refine zM hO 4 [] [(18, .agg #[.slice AB 1 cB, .int .i64 m, .slice AP 4 cP]), (19, zok 0), (20, zok 0)] ⟨rfl, rfl, rfl, trivial⟩ fun j => ?_
 refine zbm hO fun h σ hO => ?_
 have hO := zop1 hO
 refine zu hO (i := 0) rfl (off := 0) rfl rfl rfl rfl (Nat.le_of_ble_eq_true rfl) rfl fun σ hO => ?_
 have hO := zop1 hO
 refine zD hO [] [(1, zol h), (2, zok 0), (3, zok 0)] ⟨rfl, rfl, rfl, trivial⟩ fun j => ?_
 -- p
 refine z3 hO (zh7 hp) rfl fun _ σ _ _ hO S d0 => ?_
 have hL := hL.trans S
 have rB := rB.le S
 have rP := rP.le S
 obtain ⟨bF, bL, bK, z, U, x, V3, inn, V, rfl, rfl, k, G, o, hpe⟩ := d0
 have hO := zop4 hO
 refine zbm hO fun b4 σ hO => ?_
 have hO := zop5 hO
 refine zu hO (i := 4) rfl (off := 0) rfl rfl rfl rfl (Nat.le_of_ble_eq_true rfl) rfl fun σ hO => ?_
 have hO := zop5 hO
 refine ze (zM hO 2 [4] [(1, zol h), (2, zok 0), (3, zok 0), (4, zol b4), (23, .slice (some ⟨bF, 0, none⟩) 1 1)] ⟨⟨rfl, rfl⟩, rfl, rfl, rfl, rfl, rfl, trivial⟩ fun j => ?_)
 refine zb4 rfl rfl (by decide) (by decide) ?_
 refine zM hO 2 [1] [(1, zol h), (2, zok 0), (3, zok 0), (4, zol b4), (26, .slice (some ⟨bL, 0, none⟩) 2 2)] ⟨⟨rfl, rfl⟩, rfl, rfl, rfl, rfl, rfl, trivial⟩ fun j => ?_
 refine zb4 rfl rfl (by decide) (by decide) ?_
 refine zM hO 1 [] [(1, zol h), (2, zok 0), (3, zok 0), (4, zol b4), (28, .pointer (some ⟨bL, 2, none⟩))] ⟨rfl, rfl, rfl, rfl, rfl, trivial⟩ fun j => ?_
 refine zu hO (i := 2) rfl (off := 2) rfl rfl rfl rfl (Nat.le_of_ble_eq_true rfl) rfl fun σ hO => ?_
 have hO : Obs _ _ [_, some (bF, ⟨[.string znT, .int .i64 1, .slice none 0 0, .int .u8 0, .int .i64 0, .string znS, .slice (some ⟨bL, 0, none⟩) 2 2], 53, 7, true⟩), some (bL, ⟨[.int .u8 1, .int .i64 1, .string znW, .string znS, .string znS, .int .u8 1, .int .i64 0, .string znS, U, .slice none 0 0, .slice none 0 0, .int .u8 7, .int .i64 2, .string znS, .string znS, .string znS, .int .u8 0, .int .i64 0, .string znS, .slice (some ⟨bK, 0, none⟩) 1 1, V, .slice none 0 0], 73, 22, true⟩), some (bK, ⟨[.int .u8 (x.Kind.toNat : Int), .int .i64 x.Num, .string x.Name, .string x.Field, .string x.Op, V3], 71, 6, true⟩), _] := hO
 refine ze (zM hO 1 [4] [(1, zol h), (2, zok 0), (3, zok 0), (30, .agg #[.slice none 0 0, .slice (some ⟨bF, 0, none⟩) 1 1])] ⟨⟨rfl, rfl⟩, rfl, rfl, rfl, rfl, trivial⟩ fun j => ?_)
 obtain ⟨_, B, rK, hO⟩ := (za.ofRow (T := zZ) (l := [⟨x.Kind, x.Num, x.Name, x.Field, x.Op, x.Kids⟩]) (n := 1) (ty := 71) (bb := bK) ⟨[.int .u8 (x.Kind.toNat : Int), .int .i64 x.Num, .string x.Name, .string x.Field, .string x.Op, V3], _, rfl, zb6 ⟨_, rfl, G⟩, rfl⟩ rfl rfl (by decide)).share hO (i := 3) rfl
 have hL := hL.trans B
 have rB := rB.le B
 have rP := rP.le B
 have k := k.le B
 have o := o.le B
 have hO := zop5 hO
 obtain ⟨_, W, rL, hO⟩ := (za.ofRow (T := zH) (l := [⟨1, 1, znW, znS, znS, ⟨1, 0, znS⟩, z, [], []⟩, ⟨7, 2, znS, znS, znS, ⟨0, 0, znS⟩, [⟨x.Kind, x.Num, x.Name, x.Field, x.Op, x.Kids⟩], inn, []⟩]) (n := 2) (ty := 73) (bb := bL) ⟨[.int .u8 1, .int .i64 1, .string znW, .string znS, .string znS, .int .u8 1, .int .i64 0, .string znS, U, .slice none 0 0, .slice none 0 0], _, rfl, zbL ⟨_, _, _, rfl, k, RdT.nil _ _, RdT.nil _ _⟩, ⟨[.int .u8 7, .int .i64 2, .string znS, .string znS, .string znS, .int .u8 0, .int .i64 0, .string znS, .slice (some ⟨bK, 0, none⟩) 1 1, V, .slice none 0 0], _, rfl, zbL ⟨_, _, _, rfl, rK, o, RdT.nil _ _⟩, rfl⟩⟩ rfl rfl (by decide)).share hO (i := 2) rfl
 have hL := hL.trans W
 have rB := rB.le W
 have rP := rP.le W
 have hO := zop5 hO
 obtain ⟨_, X, rF, hO⟩ := (za.ofRow (T := zt) (l := [⟨znT, 1, [], ⟨0, 0, znS⟩, [⟨1, 1, znW, znS, znS, ⟨1, 0, znS⟩, z, [], []⟩, ⟨7, 2, znS, znS, znS, ⟨0, 0, znS⟩, [⟨x.Kind, x.Num, x.Name, x.Field, x.Op, x.Kids⟩], inn, []⟩]⟩]) (n := 1) (ty := 53) (bb := bF) ⟨[.string znT, .int .i64 1, .slice none 0 0, .int .u8 0, .int .i64 0, .string znS, .slice (some ⟨bL, 0, none⟩) 2 2], _, rfl, ⟨_, _, rfl, RdT.nil _ _, rL⟩, rfl⟩ rfl rfl (by decide)).share hO (i := 1) rfl
 have hL := hL.trans X
 have rB := rB.le X
 have rP := rP.le X
 have hO := zop5 hO
 have hn : zcD (⟨[], [⟨znT, 1, [], ⟨0, 0, znS⟩, [⟨1, 1, znW, znS, znS, ⟨1, 0, znS⟩, z, [], []⟩, ⟨7, 2, znS, znS, znS, ⟨0, 0, znS⟩, [⟨x.Kind, x.Num, x.Name, x.Field, x.Op, x.Kids⟩], inn, []⟩]⟩]⟩ : zs) = some (t2, 0, 8) := by
  rw [hpe] at hn
  exact hn
 refine z3 hO (zfn (p0 := (⟨[], [⟨znT, 1, [], ⟨0, 0, znS⟩, [⟨1, 1, znW, znS, znS, ⟨1, 0, znS⟩, z, [], []⟩, ⟨7, 2, znS, znS, znS, ⟨0, 0, znS⟩, [⟨x.Kind, x.Num, x.Name, x.Field, x.Op, x.Kids⟩], inn, []⟩]⟩]⟩ : zs)) (RdT.nil _ _) rF hn) rfl fun _ σ _ _ hO Y d5 => ?_
 have hL := hL.trans Y
 have rB := rB.le Y
 have rP := rP.le Y
 obtain ⟨h8, i0, rfl, rfl, Z, g2⟩ := d5
 obtain ⟨d6, d7, rfl, -⟩ := Z.form
 obtain ⟨d8, d9, rfl, -⟩ := g2.form
 have hO := zop5 hO
 refine zM hO 4 [] [(1, zol h), (2, zok 0), (3, zok 0), (32, .agg #[zor d6 t2.Bodies d7, .int .i64 t2.Main, zor d8 t2.Points d9]), (33, zok 0), (34, zok 8)] ⟨rfl, rfl, rfl, rfl, rfl, rfl, trivial⟩ fun j => ?_
 refine zbm hO fun b5 σ hO => ?_
 have hO := zop6 hO
 refine zu hO (i := 5) rfl (off := 0) rfl rfl rfl rfl (Nat.le_of_ble_eq_true rfl) rfl fun σ hO => ?_
 have hO := hO.sel [0]
 have hO := zop1 hO
 refine zD hO [] [(1, zol h), (2, zok 0), (3, zok 0), (6, zok 0), (7, zok 8)] ⟨rfl, rfl, rfl, rfl, rfl, trivial⟩ fun j => ?_
 clear k o G rK rL rF hpe
 -- q
 refine z3 hO (zh7 hp) rfl fun _ σ _ _ hO b2 f3 => ?_
 have hL := hL.trans b2
 have rB := rB.le b2
 have rP := rP.le b2
 obtain ⟨bF, bL, bK, z, U, x, V3, inn, V, rfl, rfl, k, G, o, hpe⟩ := f3
 have hO := zop4 hO
 refine zbm hO fun I σ hO => ?_
 have hO := zop5 hO
 refine zu hO (i := 4) rfl (off := 0) rfl rfl rfl rfl (Nat.le_of_ble_eq_true rfl) rfl fun σ hO => ?_
 have hO := zop5 hO
 refine ze (zcQ (zM hO 2 [4] [(1, zol h), (2, zok 0), (3, zok 0), (6, zok 0), (7, zok 8), (8, zol I), (36, .pointer (some ⟨I, 1, none⟩)), (37, .slice (some ⟨bF, 0, none⟩) 1 1)] ⟨⟨rfl, rfl⟩, rfl, rfl, rfl, rfl, rfl, rfl, rfl, rfl, trivial⟩ fun j => ?_))
 refine zb4 rfl rfl (by decide) (by decide) ?_
 refine zM hO 2 [1] [(1, zol h), (2, zok 0), (3, zok 0), (6, zok 0), (7, zok 8), (8, zol I), (36, .pointer (some ⟨I, 1, none⟩)), (37, .slice (some ⟨bF, 0, none⟩) 1 1), (39, .pointer (some ⟨bF, 6, none⟩)), (40, .slice (some ⟨bL, 0, none⟩) 2 2)] ⟨⟨rfl, rfl⟩, rfl, rfl, rfl, rfl, rfl, rfl, rfl, rfl, rfl, rfl, trivial⟩ fun j => ?_
 refine zb4 rfl rfl (by decide) (by decide) ?_
 refine zM hO 2 [2] [(1, zol h), (2, zok 0), (3, zok 0), (6, zok 0), (7, zok 8), (8, zol I), (36, .pointer (some ⟨I, 1, none⟩)), (37, .slice (some ⟨bF, 0, none⟩) 1 1), (39, .pointer (some ⟨bF, 6, none⟩)), (40, .slice (some ⟨bL, 0, none⟩) 2 2), (42, .pointer (some ⟨bL, 19, none⟩)), (43, .slice (some ⟨bK, 0, none⟩) 1 1)] ⟨⟨rfl, rfl⟩, rfl, rfl, rfl, rfl, rfl, rfl, rfl, rfl, rfl, rfl, rfl, rfl, trivial⟩ fun j => ?_
 refine zbt (z3 hO (zd1 (p0 := 1) (rr := ⟨1, 1, znS, znS, znS, []⟩) rfl) rfl fun _ σ _ _ hO D f4 => ?_)
 have hL := hL.trans D
 have rB := rB.le D
 have rP := rP.le D
 have k := k.le D
 have o := o.le D
 obtain ⟨i1, rfl, rfl, rN⟩ := f4
 obtain ⟨c3, c4, rfl, -⟩ := rN.form
 have hO := zop5 hO
 refine ze (zbs ⟨(zA rfl (hO.val (i := 2) rfl (off := 19) (agg := false) (n := 1) rfl) rfl), (zA rfl (hO.val (i := 1) rfl (off := 6) (agg := false) (n := 1) rfl) rfl), (zA rfl (hO.val (i := 4) rfl (off := 1) (agg := false) (n := 1) rfl) rfl), trivial⟩ ?_)
 refine zb4 rfl rfl (by decide) (by decide) ?_
 refine zu hO (i := 3) rfl (off := 0) rfl rfl rfl rfl (Nat.le_of_ble_eq_true rfl) rfl fun σ hO => ?_
 have hO : Obs _ _ [_, some (bF, ⟨[.string znT, .int .i64 1, .slice none 0 0, .int .u8 0, .int .i64 0, .string znS, .slice (some ⟨bL, 0, none⟩) 2 2], 53, 7, true⟩), some (bL, ⟨[.int .u8 1, .int .i64 1, .string znU, .string znS, .string znS, .int .u8 1, .int .i64 0, .string znS, U, .slice none 0 0, .slice none 0 0, .int .u8 7, .int .i64 2, .string znS, .string znS, .string znS, .int .u8 0, .int .i64 0, .string znS, .slice (some ⟨bK, 0, none⟩) 1 1, V, .slice none 0 0], 73, 22, true⟩), some (bK, ⟨[.int .u8 1, .int .i64 1, .string znS, .string znS, .string znS, .slice c3 0 c4], 71, 6, true⟩), _] := hO
 refine ze (zM hO 1 [4] [(1, zol h), (2, zok 0), (3, zok 0), (6, zok 0), (7, zok 8), (47, .agg #[.slice none 0 0, .slice (some ⟨bF, 0, none⟩) 1 1])] ⟨⟨rfl, rfl⟩, rfl, rfl, rfl, rfl, rfl, rfl, trivial⟩ fun j => ?_)
 obtain ⟨_, E, rK, hO⟩ := (za.ofRow (T := zZ) (l := [⟨1, 1, znS, znS, znS, []⟩]) (n := 1) (ty := 71) (bb := bK) ⟨[.int .u8 1, .int .i64 1, .string znS, .string znS, .string znS, .slice c3 0 c4], _, rfl, zb6 ⟨_, rfl, rN⟩, rfl⟩ rfl rfl (by decide)).share hO (i := 3) rfl
 have hL := hL.trans E
 have rB := rB.le E
 have rP := rP.le E
 have k := k.le E
 have o := o.le E
 have hO := zop5 hO
 obtain ⟨_, b3, rL, hO⟩ := (za.ofRow (T := zH) (l := [⟨1, 1, znU, znS, znS, ⟨1, 0, znS⟩, z, [], []⟩, ⟨7, 2, znS, znS, znS, ⟨0, 0, znS⟩, [⟨1, 1, znS, znS, znS, []⟩], inn, []⟩]) (n := 2) (ty := 73) (bb := bL) ⟨[.int .u8 1, .int .i64 1, .string znU, .string znS, .string znS, .int .u8 1, .int .i64 0, .string znS, U, .slice none 0 0, .slice none 0 0], _, rfl, zbL ⟨_, _, _, rfl, k, RdT.nil _ _, RdT.nil _ _⟩, ⟨[.int .u8 7, .int .i64 2, .string znS, .string znS, .string znS, .int .u8 0, .int .i64 0, .string znS, .slice (some ⟨bK, 0, none⟩) 1 1, V, .slice none 0 0], _, rfl, zbL ⟨_, _, _, rfl, rK, o, RdT.nil _ _⟩, rfl⟩⟩ rfl rfl (by decide)).share hO (i := 2) rfl
 have hL := hL.trans b3
 have rB := rB.le b3
 have rP := rP.le b3
 have hO := zop5 hO
 obtain ⟨_, b6, rF, hO⟩ := (za.ofRow (T := zt) (l := [⟨znT, 1, [], ⟨0, 0, znS⟩, [⟨1, 1, znU, znS, znS, ⟨1, 0, znS⟩, z, [], []⟩, ⟨7, 2, znS, znS, znS, ⟨0, 0, znS⟩, [⟨1, 1, znS, znS, znS, []⟩], inn, []⟩]⟩]) (n := 1) (ty := 53) (bb := bF) ⟨[.string znT, .int .i64 1, .slice none 0 0, .int .u8 0, .int .i64 0, .string znS, .slice (some ⟨bL, 0, none⟩) 2 2], _, rfl, ⟨_, _, rfl, RdT.nil _ _, rL⟩, rfl⟩ rfl rfl (by decide)).share hO (i := 1) rfl
 have hL := hL.trans b6
 have rB := rB.le b6
 have rP := rP.le b6
 have hO := zop5 hO
 have hk : zcD (⟨[], [⟨znT, 1, [], ⟨0, 0, znS⟩, [⟨1, 1, znU, znS, znS, ⟨1, 0, znS⟩, z, [], []⟩, ⟨7, 2, znS, znS, znS, ⟨0, 0, znS⟩, [⟨1, 1, znS, znS, znS, []⟩], inn, []⟩]⟩]⟩ : zs) = some (t3, k3, 9) := by
  rw [hpe] at hk
  exact hk
 refine z3 hO (zfn (p0 := (⟨[], [⟨znT, 1, [], ⟨0, 0, znS⟩, [⟨1, 1, znU, znS, znS, ⟨1, 0, znS⟩, z, [], []⟩, ⟨7, 2, znS, znS, znS, ⟨0, 0, znS⟩, [⟨1, 1, znS, znS, znS, []⟩], inn, []⟩]⟩]⟩ : zs)) (RdT.nil _ _) rF hk) rfl fun _ σ _ _ hO b7 f5 => ?_
 have hL := hL.trans b7
 have rB := rB.le b7
 have rP := rP.le b7
 obtain ⟨i2, i3, rfl, rfl, Z, g2⟩ := f5
 obtain ⟨f6, f7, rfl, -⟩ := Z.form
 obtain ⟨f8, f9, rfl, -⟩ := g2.form
 have hO := zop5 hO
 refine zM hO 4 [] [(1, zol h), (2, zok 0), (3, zok 0), (6, zok 0), (7, zok 8), (49, .agg #[zor f6 t3.Bodies f7, .int .i64 t3.Main, zor f8 t3.Points f9]), (50, zok k3), (51, zok 9)] ⟨rfl, rfl, rfl, rfl, rfl, rfl, rfl, rfl, trivial⟩ fun j => ?_
 refine zbm hO fun b9 σ hO => ?_
 have hO := zop6 hO
 refine zu hO (i := 5) rfl (off := 0) rfl rfl rfl rfl (Nat.le_of_ble_eq_true rfl) rfl fun σ hO => ?_
 have hO := hO.sel [0]
 have hO := zop1 hO
 refine zD hO [] [(1, zol h), (2, zok 0), (3, zok 0), (6, zok 0), (7, zok 8), (11, zok 9)] ⟨rfl, rfl, rfl, rfl, rfl, rfl, trivial⟩ fun j => ?_
 clear k o G rK rL rF hpe rN
 -- no program
 refine zM hO 1 [] [(1, zol h), (2, zok 0), (3, zok 0), (6, zok 0), (7, zok 8), (11, zok 9), (53, .agg #[.slice none 0 0, .slice none 0 0])] ⟨rfl, rfl, rfl, rfl, rfl, rfl, rfl, trivial⟩ fun j => ?_
 refine z3 hO (zfn (p0 := ⟨[], []⟩) (RdT.nil _ _) (RdT.nil _ _) h4) rfl fun _ σ _ _ hO c0 g0 => ?_
 have hL := hL.trans c0
 have rB := rB.le c0
 have rP := rP.le c0
 obtain ⟨i4, i5, rfl, rfl, Z, g2⟩ := g0
 obtain ⟨g3, g4, rfl, -⟩ := Z.form
 obtain ⟨g5, g6, rfl, -⟩ := g2.form
 have hO := zop1 hO
 refine zM hO 4 [] [(1, zol h), (2, zok 0), (3, zok 0), (6, zok 0), (7, zok 8), (11, zok 9), (55, .agg #[zor g3 t4.Bodies g4, .int .i64 t4.Main, zor g5 t4.Points g6]), (56, zok 0), (57, zok 8)] ⟨rfl, rfl, rfl, rfl, rfl, rfl, rfl, rfl, rfl, trivial⟩ fun j => ?_
 refine zbm hO fun i6 σ hO => ?_
 have hO := zop2 hO
 refine zu hO (i := 1) rfl (off := 0) rfl rfl rfl rfl (Nat.le_of_ble_eq_true rfl) rfl fun σ hO => ?_
 have hO := hO.sel [0]
 have hO : Obs _ _ [some (h, ⟨[.slice AB 1 cB, .int .i64 m, .slice AP 4 cP], 31, 3, true⟩)] := hO
 refine zD hO [] [(1, zol h), (2, zok 0), (3, zok 0), (6, zok 0), (7, zok 8), (11, zok 9), (13, zok 0), (14, zok 8)] ⟨rfl, rfl, rfl, rfl, rfl, rfl, rfl, rfl, trivial⟩ fun j => ?_
 -- what is answered
 refine zM hO 9 [0] [(1, zol h), (2, zok 0), (3, zok 0), (6, zok 0), (7, zok 8), (11, zok 9), (13, zok 0), (14, zok 8), (70, .bool true)] ⟨⟨rfl, rfl⟩, fun _ => ⟨⟨rfl, rfl⟩, ⟨rfl, rfl⟩, fun _ => ⟨rfl, rfl, rfl, rfl, rfl, rfl, rfl, rfl, rfl, trivial⟩⟩⟩ fun j => ?_
 refine zbA rfl ?_
 refine zM hO 2 [0] [(1, zol h), (2, zok 0), (3, zok 0), (6, zok 0), (7, zok 8), (11, zok 9), (13, zok 0), (14, zok 8), (70, .bool true), (72, .slice AP 4 cP)] ⟨⟨rfl, rfl⟩, rfl, rfl, rfl, rfl, rfl, rfl, rfl, rfl, rfl, rfl, trivial⟩ fun j => ?_
 refine zbG (T := zr) rP hO.base rfl rfl (show zL _ 2 = some _ from rfl) (by decide) fun a _ g u => ?_
 obtain ⟨w, rfl, g⟩ := g
 obtain ⟨A, c, rfl, -⟩ := g.form
 refine zM hO 1 [] [(1, zol h), (2, zok 0), (3, zok 0), (6, zok 0), (7, zok 8), (11, zok 9), (13, zok 0), (14, zok 8), (70, .bool true), (74, .pointer (some (a.add 1)))] ⟨rfl, rfl, rfl, rfl, rfl, rfl, rfl, rfl, rfl, rfl, trivial⟩ fun j => ?_
 refine zbh rfl ((u.le hO.base).one 1 rfl) ?_
 refine zM hO 1 [] [(1, zol h), (2, zok 0), (3, zok 0), (6, zok 0), (7, zok 8), (11, zok 9), (13, zok 0), (14, zok 8), (70, .bool true), (76, .bool true)] ⟨rfl, rfl, rfl, rfl, rfl, rfl, rfl, rfl, rfl, rfl, trivial⟩ fun j => ?_
 refine zbf rfl ?_
 refine zM hO 1 [] [(1, zol h), (2, zok 0), (3, zok 0), (6, zok 0), (7, zok 8), (11, zok 9), (13, zok 0), (14, zok 8), (78, .bool true)] ⟨rfl, rfl, rfl, rfl, rfl, rfl, rfl, rfl, rfl, trivial⟩ fun j => ?_
 refine zbA rfl ?_
 refine zM hO 2 [0] [(1, zol h), (2, zok 0), (3, zok 0), (6, zok 0), (7, zok 8), (11, zok 9), (13, zok 0), (14, zok 8), (78, .bool true), (80, .slice AP 4 cP)] ⟨⟨rfl, rfl⟩, rfl, rfl, rfl, rfl, rfl, rfl, rfl, rfl, rfl, rfl, trivial⟩ fun j => ?_
 refine zbG (T := zr) rP hO.base rfl rfl (show zL _ 1 = some _ from rfl) (by decide) fun a _ g u => ?_
 obtain ⟨w, rfl, g⟩ := g
 obtain ⟨A, c, rfl, -⟩ := g.form
 refine zM hO 1 [] [(1, zol h), (2, zok 0), (3, zok 0), (6, zok 0), (7, zok 8), (11, zok 9), (13, zok 0), (14, zok 8), (78, .bool true), (82, .pointer (some (a.add 2)))] ⟨rfl, rfl, rfl, rfl, rfl, rfl, rfl, rfl, rfl, rfl, trivial⟩ fun j => ?_
 refine zbh rfl ((u.le hO.base).one 2 rfl) ?_
 refine zM hO 2 [] [(1, zol h), (2, zok 0), (3, zok 0), (6, zok 0), (7, zok 8), (11, zok 9), (13, zok 0), (14, zok 8), (78, .bool true), (85, .bool true)] ⟨rfl, rfl, rfl, rfl, rfl, rfl, rfl, rfl, rfl, rfl, trivial⟩ fun j => ?_
 refine zbf rfl ?_
 refine zM hO 1 [] [(1, zol h), (2, zok 0), (3, zok 0), (6, zok 0), (7, zok 8), (11, zok 9), (13, zok 0), (14, zok 8), (87, .bool true)] ⟨rfl, rfl, rfl, rfl, rfl, rfl, rfl, rfl, rfl, trivial⟩ fun j => ?_
 refine zbA rfl ?_
 refine zM hO 2 [0] [(1, zol h), (2, zok 0), (3, zok 0), (6, zok 0), (7, zok 8), (11, zok 9), (13, zok 0), (14, zok 8), (87, .bool true), (89, .slice AP 4 cP)] ⟨⟨rfl, rfl⟩, rfl, rfl, rfl, rfl, rfl, rfl, rfl, rfl, rfl, rfl, trivial⟩ fun j => ?_
 refine zbG (T := zr) rP hO.base rfl rfl (show zL _ 0 = some _ from rfl) (by decide) fun a _ g u => ?_
 obtain ⟨w, rfl, g⟩ := g
 obtain ⟨A, c, rfl, -⟩ := g.form
 refine zM hO 1 [] [(1, zol h), (2, zok 0), (3, zok 0), (6, zok 0), (7, zok 8), (11, zok 9), (13, zok 0), (14, zok 8), (87, .bool true), (91, .pointer (some (a.add 2)))] ⟨rfl, rfl, rfl, rfl, rfl, rfl, rfl, rfl, rfl, rfl, trivial⟩ fun j => ?_
 refine zbh rfl ((u.le hO.base).one 2 rfl) ?_
 refine zM hO 2 [] [(1, zol h), (2, zok 0), (3, zok 0), (6, zok 0), (7, zok 8), (11, zok 9), (13, zok 0), (14, zok 8), (87, .bool true), (94, .bool true)] ⟨rfl, rfl, rfl, rfl, rfl, rfl, rfl, rfl, rfl, rfl, trivial⟩ fun j => ?_
 refine zbf rfl ?_
 refine zM hO 4 [0] [(1, zol h), (2, zok 0), (3, zok 0), (6, zok 0), (7, zok 8), (11, zok 9), (13, zok 0), (14, zok 8), (102, .bool true)] ⟨⟨rfl, rfl⟩, ⟨rfl, rfl⟩, fun _ => ⟨rfl, rfl, rfl, rfl, rfl, rfl, rfl, rfl, rfl, trivial⟩⟩ fun j => ?_
 refine zbA rfl ?_
 refine zM hO 2 [0] [(1, zol h), (2, zok 0), (3, zok 0), (6, zok 0), (7, zok 8), (11, zok 9), (13, zok 0), (14, zok 8), (102, .bool true), (104, .slice AB 1 cB)] ⟨⟨rfl, rfl⟩, rfl, rfl, rfl, rfl, rfl, rfl, rfl, rfl, rfl, rfl, trivial⟩ fun j => ?_
 refine zbG (T := zq) rB hO.base rfl rfl (show zL _ 0 = some _ from rfl) (by decide) fun a _ g u => ?_
 obtain ⟨w, w', rfl, g', g⟩ := g
 obtain ⟨A, c, rfl, -⟩ := g.form
 refine zM hO 1 [] [(1, zol h), (2, zok 0), (3, zok 0), (6, zok 0), (7, zok 8), (11, zok 9), (13, zok 0), (14, zok 8), (102, .bool true), (106, .pointer (some (a.add 4)))] ⟨rfl, rfl, rfl, rfl, rfl, rfl, rfl, rfl, rfl, rfl, trivial⟩ fun j => ?_
 refine zbh rfl ((u.le hO.base).one 4 rfl) ?_
 refine zM hO 2 [] [(1, zol h), (2, zok 0), (3, zok 0), (6, zok 0), (7, zok 8), (11, zok 9), (13, zok 0), (14, zok 8), (102, .bool true), (109, .bool true)] ⟨rfl, rfl, rfl, rfl, rfl, rfl, rfl, rfl, rfl, rfl, trivial⟩ fun j => ?_
 refine zbf rfl ?_
 refine zD hO [] [(0, .bool true)] ⟨⟨rfl, rfl⟩, fun _ => ⟨⟨rfl, rfl⟩, fun _ => ⟨⟨rfl, rfl⟩, fun _ => ⟨⟨rfl, rfl⟩, fun _ => ⟨⟨rfl, rfl⟩, fun _ => ⟨rfl, trivial⟩⟩⟩⟩⟩⟩ fun j => ?_
 refine zbb ?_
 have hO := hO.sel []
 exact hQ _ _ _ _ _ rfl hO hL ⟨rfl, rfl⟩
theorem ziK {τ : Hp}   {rr : Bool} (hF : zir  = some rr) :
  Ctr Try.prog 9 #[] τ [] (fun v τ' vs' => v = .bool rr ∧ vs' = []) := by
 cases hF
 exact zm9
end Go.Proofs.Ytakcaekikfcbpaa
