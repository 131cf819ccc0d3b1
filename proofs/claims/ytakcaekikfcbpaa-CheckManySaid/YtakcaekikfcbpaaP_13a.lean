import Derived.Test.YtakcaekikfcbpaaP_13
import Derived.KernelRfl
namespace Go.Proofs.Ytakcaekikfcbpaa
open Go.Ab Go.RowKit
set_option linter.unusedVariables false
set_option linter.unusedSimpArgs false
mutual
def szE : zc → Nat
 | ⟨_, _, _, _, _, ks⟩ => 1 + zbT ks
def zbT : List zc → Nat
 | [] => 0
 | e :: l => szE e + zbT l
end
theorem ziP (e : zc) : szE e = 1 + zbT e.Kids := by cases e; rfl
theorem zjk (e : zc) : 1 ≤ szE e := by rw [ziP]; omega
theorem zha : ∀ l : List zc, l.length ≤ zbT l
 | [] => Nat.le_refl _
 | e :: l => by
  have := zha l
  have := zjk e
  show l.length + 1 ≤ szE e + zbT l
  omega
theorem zgt {l : List zc} {x : zc} (h : x ∈ l) : szE x ≤ zbT l := by
 induction l with
 | nil => cases h
 | cons e l ih =>
  show szE x ≤ szE e + zbT l
  cases h with
  | head => omega
  | tail _ h => have := ih h; omega
abbrev Vk := zl × UInt8
abbrev Vks := List zl × List UInt8
theorem zkc (v : zl) : (⟨v.Kind, v.Op, v.Var, v.Num, v.Kids⟩ : zl) = v := by cases v; rfl
def vw (r : Er Vks) (want : List UInt8) : Er (List zl) := eb r fun w => eb (ck (decide (w.2 = want)) 9) fun _ => .ok w.1
def kpl (c : Ck) (kd : UInt8) (nm fd : BA) (r : Er Vks) : Er Vk := eb (fnd c nm) fun k =>
 if ((kd.toNat : Int) == 3) = true then eb (ck (sca (vt c k)) 9) fun _ => .ok (⟨2, 0, k, 0, []⟩, (vt c k).Kind)
 else if ((kd.toNat : Int) == 5) = true then eb (ck (((vt c k).Kind.toNat : Int) == 4) 9) fun _ => eb (zez c k fd) fun f => .ok (⟨4, 0, k, f, []⟩, 1)
 else eb (ck (((vt c k).Kind.toNat : Int) == 3) 9) fun _ => eb (vw r [1]) fun l => .ok (⟨3, 0, k, 0, l⟩, 1)
def kun (op : BA) (r : Er Vks) : Er Vk :=
 eb (vw r [if z9 op znX = true then 2 else 1]) fun l => eb (ck (z9 op znX || z9 op znY) 9) fun _ => .ok (⟨5, if z9 op znX = true then 14 else 15, 0, 0, l⟩, if z9 op znX = true then 2 else 1)
def bio (o : Nat) (ks : List UInt8) : UInt8 × UInt8 :=
 if o = 12 ∨ o = 13 then (2, 2) else if o = 6 ∨ o = 7 then (if ks.head? = some 2 then (2, 2) else (1, 2)) else if o = 8 ∨ o = 9 ∨ o = 10 ∨ o = 11 then (1, 2) else (1, 1)
def kbi (kd : UInt8) (op : BA) (r : Er Vks) : Er Vk := eb r fun w =>
 eb (ck (((kd.toNat : Int) == 7) && (((sg op : Nat) : Int) != 0) && decide (w.2 = [(bio (sg op) w.2).1, (bio (sg op) w.2).1])) 9) fun _ => .ok (⟨6, UInt8.ofNat (sg op), 0, 0, w.1⟩, (bio (sg op) w.2).2)
def kx (c : Ck) (kd : UInt8) (nu : Int) (nm fd op : BA) (r : Er Vks) : Er Vk :=
 if ((kd.toNat : Int) == 1) = true then .ok (⟨1, 0, 0, nu, []⟩, 1)
 else if ((kd.toNat : Int) == 2) = true then .ok (⟨1, 0, 0, if (nu != 0) = true then 1 else 0, []⟩, 2)
 else if (((kd.toNat : Int) == 3) || ((kd.toNat : Int) == 4) || ((kd.toNat : Int) == 5)) = true then kpl c kd nm fd r
 else if ((kd.toNat : Int) == 6) = true then kun op r
 else kbi kd op r
mutual
def kE (c : Ck) : zc → Er Vk
 | ⟨kd, nu, nm, fd, op, ks⟩ => kx c kd nu nm fd op (kEs c ks)
def kEs (c : Ck) : List zc → Er Vks
 | [] => .ok ([], [])
 | x :: l => eb (kE c x) fun v => eb (kEs c l) fun w => .ok (v.1 :: w.1, v.2 :: w.2)
end
theorem zkJ (c : Ck) (x : zc) : kE c x = kx c x.Kind x.Num x.Name x.Field x.Op (kEs c x.Kids) := by cases x; rfl
def kvs (c : Ck) (l : List zc) (want : List UInt8) : Er (List zl) := vw (kEs c l) want
abbrev Fx (α : Type) := Option (Except (Value × Ck) α)
def tV {α : Type} (c : Ck) (r : Er α) : Fx (α × Ck) := some (match r with
 | .error e => .error (pe e, c)
 | .ok a => .ok (a, c))
def tE (c : Ck) (r : Er Vk) : Fx (zl × Int × Ck) := some (match r with
 | .error e => .error (pe e, c)
 | .ok a => .ok (a.1, (a.2.toNat : Int), c))
theorem zdN {α : Type} {c : Ck} {r : Er α} {f : α → Er Vk} {G : Fx (zl × Int × Ck)} (he : ∀ e, r = .error e → G = some (.error (pe e, c))) (ho : ∀ a, r = .ok a → G = tE c (f a)) : G = tE c (eb r f) := by
 cases r with
 | error e => exact he e rfl
 | ok a => exact ho a rfl
structure Bd (c : Ck) : Prop where
 v : c.vars.length ≤ 1000000000000
 s : c.scope.length ≤ 1000000000000
 f : ∀ k, (vf c k).length ≤ 1000000000000
theorem zhe (n : UInt8) : u8o (n.toNat : Int) = some n := by
 rw [zjJ n.toNat_lt]
 simp
theorem znf {c : Ck} {R : Ck → zc → Fx (zl × Int × Ck)} {l : List zc} {want : List UInt8} (hl : l.length ≤ 1000000000) (hR : ∀ x ∈ l, R c x = tE c (kE c x)) :
  ∀ (n k : Nat) (out : List zl) (ks : List UInt8), k ≤ l.length → l.length - k < n → out.length = k → ks.length = k →
   zdZ R l want n c.prog.Structs c.prog.Funcs c.tree.Bodies c.tree.Main c.tree.Points c.fn c.vars c.scope out ks (k : Int) = tV c (eb (kEs c (l.drop k)) fun w => eb (ck (decide (ks ++ w.2 = want)) 9) fun _ => .ok (out ++ w.1)) := by
 intro n
 induction n with
 | zero => intro k _ _ _ h; omega
 | succ n ih =>
  intro k out ks hk hn ho hks
  show zfA (zdZ R l want n) R l want c.prog.Structs c.prog.Funcs c.tree.Bodies c.tree.Main c.tree.Points c.fn c.vars c.scope out ks (k : Int) = _
  unfold zfA
  by_cases h : k < l.length
  ·rw [if_pos (zca (by omega)), zbQ h, Option.bind_some, List.drop_eq_getElem_cons h]
   show zC (R c l[k]) _ _ = tV c (eb (eb (kE c l[k]) _) _)
   rw [hR _ (List.getElem_mem h)]
   cases he : kE c l[k] with
   | error e => rfl
   | ok v =>
    show ((room (out.length + 1)).bind fun _ => (u8o (v.2.toNat : Int)).bind fun z => (room (ks.length + 1)).bind fun _ => zdZ R l want n c.prog.Structs c.prog.Funcs c.tree.Bodies c.tree.Main c.tree.Points c.fn c.vars c.scope (out ++ [(⟨v.1.Kind, v.1.Op, v.1.Var, v.1.Num, v.1.Kids⟩ : zl)]) (ks ++ [z]) (IntKind.i64.wrap ((k : Int) + 1))) = _
    rw [zcr (by omega), Option.bind_some, zhe, Option.bind_some, zcr (by omega), Option.bind_some, zkc, zcS (by omega), ih (k + 1) _ _ (by omega) (by omega) (by simp [ho]) (by simp [hks])]
    congr 1
    cases kEs c (l.drop (k + 1)) with
    | error e => rfl
    | ok w =>
     show eb (ck (decide ((ks ++ [v.2]) ++ w.2 = want)) 9) (fun _ => Except.ok ((out ++ [v.1]) ++ w.1)) = eb (ck (decide (ks ++ v.2 :: w.2 = want)) 9) (fun _ => Except.ok (out ++ v.1 :: w.1))
     rw [List.append_assoc, List.append_assoc]
     rfl
  ·rw [if_neg (by simp; omega), List.drop_of_length_le (by omega), zi0 (by omega), Option.bind_some]
   show _ = tV c (eb (ck (decide (ks ++ [] = want)) 9) fun _ => .ok (out ++ []))
   rw [List.append_nil, List.append_nil]
   by_cases hb : decide (ks = want) = true
   ·rw [zbS hb, ckT hb]
    rfl
   ·rw [zb2 hb, ckF hb]
    rfl
theorem zlk {c : Ck} (hB : Bd c) {R : Ck → List zc → List UInt8 → Fx (List zl × Ck)} {R2 R3 R4 R5 : Ck → zc → Fx (zl × Int × Ck)} {x : zc} (hR : ∀ want, R c x.Kids want = tV c (kvs c x.Kids want)) :
  zfm R R2 R3 R4 R5 c x = tE c (kpl c x.Kind x.Name x.Field (kEs c x.Kids)) := by
 unfold zfm kpl
 rw [zg7 hB.v hB.s]
 refine zdN (fun e h => by rw [h]; rfl) fun k h => ?_
 rw [h]
 have hk := zic h
 show (if ((x.Kind.toNat : Int) == 3) = true then _ else _) = _
 by_cases h3 : ((x.Kind.toNat : Int) == 3) = true
 ·rw [if_pos h3, if_pos h3, zbQ hk, Option.bind_some, zgY, Option.bind_some, ← zeA hk]
  refine zdN (fun e h => ?_) fun a h => ?_
  ·by_cases hb : sca (vt c k) = true
   ·rw [ckT hb] at h; cases h
   ·rw [ckF hb] at h
    injection h with h
    subst h
    rw [zb2 hb]
    rfl
  ·rw [zbS (zmH h)]
   show some (Except.ok ((⟨2, 0, (k : Int), 0, []⟩ : zl), (c.vars[k].Type_.Kind.toNat : Int), c)) = _
   rw [← zeA hk]
   rfl
 rw [if_neg h3, if_neg h3]
 by_cases h5 : ((x.Kind.toNat : Int) == 5) = true
 ·rw [if_pos h5, if_pos h5, zfb hk]
  refine zdN (fun e h => by rw [h]; rfl) fun a h => ?_
  rw [h]
  show zC (zd3 c (k : Int) x.Field) _ _ = _
  rw [zks hk (hB.f k)]
  exact zdN (fun e h => by rw [h]; rfl) fun a h => by rw [h]; rfl
 ·rw [if_neg h5, if_neg h5, zfb hk]
  refine zdN (fun e h => by rw [h]; rfl) fun a h => ?_
  rw [h]
  show zC (R c x.Kids [1]) _ _ = _
  rw [hR]
  exact zdN (fun e h => by rw [kvs, h]; rfl) fun a h => by rw [kvs, h]; rfl
theorem zm7 {c : Ck} {R : Ck → List zc → List UInt8 → Fx (List zl × Ck)} {R2 R3 R4 R5 : Ck → zc → Fx (zl × Int × Ck)} {x : zc} (hR : ∀ want, R c x.Kids want = tV c (kvs c x.Kids want)) :
  zft R R2 R3 R4 R5 c x = tE c (kun x.Op (kEs c x.Kids)) := by
 unfold zft kun
 by_cases hb : (z9 x.Op znX) = true
 ·rw [if_pos hb, if_pos hb, if_pos hb]
  show zC (R c x.Kids [2]) _ _ = _
  rw [hR]
  refine zdN (fun e h => by rw [kvs, h]; rfl) fun a h => ?_
  rw [kvs, h]
  show zC (zby (z9 x.Op znX || z9 x.Op znY) 9) _ _ = _
  rw [hb]
  rfl
 ·rw [if_neg hb, if_neg hb, if_neg hb]
  show zC (R c x.Kids [1]) _ _ = _
  rw [hR]
  refine zdN (fun e h => by rw [kvs, h]; rfl) fun a h => ?_
  rw [kvs, h]
  show zC (zby (z9 x.Op znX || z9 x.Op znY) 9) _ _ = _
  by_cases h2 : (z9 x.Op znX || z9 x.Op znY) = true
  ·rw [zbS h2, ckT h2]
   rfl
  ·rw [zb2 h2, ckF h2]
   rfl
theorem zli {c : Ck} {x : zc} {w : Vks} {o : Nat} (ho : o < 256) (hw : w.2.length ≤ 1000000000) (a b : UInt8) :
  zcu x c.prog.Structs c.prog.Funcs c.tree.Main c.fn (o : Int) c.tree.Bodies c.tree.Points c.vars c.scope w.1 w.2 (a.toNat : Int) (b.toNat : Int) =
   tE c (eb (ck (((x.Kind.toNat : Int) == 7) && ((o : Int) != 0) && decide (w.2 = [a, a])) 9) fun _ => .ok (⟨6, UInt8.ofNat o, 0, 0, w.1⟩, b)) := by
 unfold zcu
 rw [zhe]
 simp only [Option.bind_some]
 rw [zi0 (by omega), zjJ ho]
 by_cases h7 : (((x.Kind.toNat : Int) == 7) && ((o : Int) != 0)) = true
 ·rw [if_pos h7, h7, Bool.true_and]
  show zC (zby (decide (w.2 = [a, a])) 9) _ _ = _
  by_cases hb : decide (w.2 = [a, a]) = true
  ·rw [zbS hb, ckT hb]
   rfl
  ·rw [zb2 hb, ckF hb]
   rfl
 ·rw [if_neg h7]
  rw [Bool.not_eq_true] at h7
  rw [h7]
  rfl
theorem zkY {c : Ck} {x : zc} {w : Vks} {o : Nat} (ho : o < 256) (hw : w.2.length ≤ 1000000000) :
  (if ((o : Int) == 12) = true then zdy x c.prog.Structs c.prog.Funcs c.tree.Main c.fn (o : Int) c.tree.Bodies c.tree.Points c.vars c.scope w.1 w.2 ((o : Int) == 12) else zdy x c.prog.Structs c.prog.Funcs c.tree.Main c.fn (o : Int) c.tree.Bodies c.tree.Points c.vars c.scope w.1 w.2 ((o : Int) == 13)) =
   tE c (eb (ck (((x.Kind.toNat : Int) == 7) && ((o : Int) != 0) && decide (w.2 = [(bio o w.2).1, (bio o w.2).1])) 9) fun _ => .ok (⟨6, UInt8.ofNat o, 0, 0, w.1⟩, (bio o w.2).2)) := by
 have key : ∀ a b : UInt8, bio o w.2 = (a, b) → zcu x c.prog.Structs c.prog.Funcs c.tree.Main c.fn (o : Int) c.tree.Bodies c.tree.Points c.vars c.scope w.1 w.2 (a.toNat : Int) (b.toNat : Int) = tE c (eb (ck (((x.Kind.toNat : Int) == 7) && ((o : Int) != 0) && decide (w.2 = [(bio o w.2).1, (bio o w.2).1])) 9) fun _ => .ok (⟨6, UInt8.ofNat o, 0, 0, w.1⟩, (bio o w.2).2)) := fun a b h => by
  rw [h]
  exact zli ho hw a b
 have e : ∀ {a b : Int}, (a == b) = decide (a = b) := fun {a b} => by rw [Bool.eq_iff_iff]; simp
 by_cases h12 : o = 12
 ·subst h12
  exact key 2 2 rfl
 by_cases h13 : o = 13
 ·subst h13
  exact key 2 2 rfl
 rw [if_neg (by simp; omega), zgI (a := (o : Int)) (b := 13) (by omega)]
 have hbio : (decide (o = 12 ∨ o = 13)) = false := by simp [h12, h13]
 have hr1 : bio o w.2 = if o = 6 ∨ o = 7 then (if w.2.head? = some 2 then (2, 2) else (1, 2)) else if o = 8 ∨ o = 9 ∨ o = 10 ∨ o = 11 then (1, 2) else (1, 1) := by
  unfold bio
  rw [if_neg (by omega)]
 have k36 : bio o w.2 = (if w.2.head? = some 2 then (2, 2) else (1, 2)) → zef x c.prog.Structs c.prog.Funcs c.tree.Main c.fn (o : Int) c.tree.Bodies c.tree.Points c.vars c.scope w.1 w.2 true = tE c (eb (ck (((x.Kind.toNat : Int) == 7) && ((o : Int) != 0) && decide (w.2 = [(bio o w.2).1, (bio o w.2).1])) 9) fun _ => .ok (⟨6, UInt8.ofNat o, 0, 0, w.1⟩, (bio o w.2).2)) := fun hb => by
  unfold zef
  rw [if_pos rfl]
  cases hw2 : w.2 with
  | nil =>
   rw [hw2] at hb
   have := key 1 2 (by rw [hw2]; exact hb)
   rw [hw2] at this
   exact this
  | cons y ys =>
   rw [if_pos (zca (by rw [List.length_cons]; omega))]
   show (if ((y.toNat : Int) == 2) = true then _ else _) = _
   rw [hw2] at hb
   by_cases hy : y = 2
   ·subst hy
    have := key 2 2 (by rw [hw2]; exact hb)
    rw [hw2] at this
    exact this
   ·have := key 1 2 (by rw [hw2, hb]; exact if_neg fun h => hy (by injection h))
    rw [hw2] at this
    rw [if_neg (by rw [e]; intro h; exact hy (ziZ.1 (of_decide_eq_true h)))]
    exact this
 show zdy x c.prog.Structs c.prog.Funcs c.tree.Main c.fn (o : Int) c.tree.Bodies c.tree.Points c.vars c.scope w.1 w.2 false = _
 unfold zdy
 rw [if_neg (by decide)]
 by_cases h6 : o = 6
 ·subst h6
  exact k36 hr1
 by_cases h7 : o = 7
 ·subst h7
  exact k36 hr1
 rw [if_neg (by simp; omega), zgI (a := (o : Int)) (b := 7) (by omega)]
 rw [if_neg (by omega)] at hr1
 unfold zef
 rw [if_neg (by decide)]
 by_cases h8 : o = 8
 ·subst h8
  exact key 1 2 hr1
 by_cases h9 : o = 9
 ·subst h9
  exact key 1 2 hr1
 by_cases h10 : o = 10
 ·subst h10
  exact key 1 2 hr1
 by_cases h11 : o = 11
 ·subst h11
  exact key 1 2 hr1
 rw [if_neg (by simp; omega), if_neg (by simp; omega), if_neg (by simp; omega), if_neg (by simp; omega)]
 rw [if_neg (by omega)] at hr1
 exact key 1 1 hr1
theorem zk3 {c : Ck} {R : Ck → zc → Fx (zl × Int × Ck)} {x : zc} (hl : x.Kids.length ≤ 1000000000) (hR : ∀ y ∈ x.Kids, R c y = tE c (kE c y)) :
  ∀ (n k : Nat) (out : List zl) (ks : List UInt8), k ≤ x.Kids.length → x.Kids.length - k < n → out.length = k → ks.length = k →
   zd2 R x n c.prog.Structs c.prog.Funcs c.tree.Bodies c.tree.Main c.tree.Points c.fn c.vars c.scope out ks (k : Int) = tE c (eb (kEs c (x.Kids.drop k)) fun w => kbi x.Kind x.Op (.ok (out ++ w.1, ks ++ w.2))) := by
 intro n
 induction n with
 | zero => intro k _ _ _ h; omega
 | succ n ih =>
  intro k out ks hk hn ho hks
  show zfC (zd2 R x n) R x c.prog.Structs c.prog.Funcs c.tree.Bodies c.tree.Main c.tree.Points c.fn c.vars c.scope out ks (k : Int) = _
  unfold zfC
  by_cases h : k < x.Kids.length
  ·rw [if_pos (zca (by omega)), zbQ h, Option.bind_some, List.drop_eq_getElem_cons h]
   show zC (R c x.Kids[k]) _ _ = tE c (eb (eb (kE c x.Kids[k]) _) _)
   rw [hR _ (List.getElem_mem h)]
   cases he : kE c x.Kids[k] with
   | error e => rfl
   | ok v =>
    show ((room (out.length + 1)).bind fun _ => (u8o (v.2.toNat : Int)).bind fun z => (room (ks.length + 1)).bind fun _ => zd2 R x n c.prog.Structs c.prog.Funcs c.tree.Bodies c.tree.Main c.tree.Points c.fn c.vars c.scope (out ++ [(⟨v.1.Kind, v.1.Op, v.1.Var, v.1.Num, v.1.Kids⟩ : zl)]) (ks ++ [z]) (IntKind.i64.wrap ((k : Int) + 1))) = _
    rw [zcr (by omega), Option.bind_some, zhe, Option.bind_some, zcr (by omega), Option.bind_some, zkc, zcS (by omega), ih (k + 1) _ _ (by omega) (by omega) (by simp [ho]) (by simp [hks])]
    congr 1
    cases kEs c (x.Kids.drop (k + 1)) with
    | error e => rfl
    | ok w =>
     show kbi x.Kind x.Op (.ok ((out ++ [v.1]) ++ w.1, (ks ++ [v.2]) ++ w.2)) = kbi x.Kind x.Op (.ok (out ++ v.1 :: w.1, ks ++ v.2 :: w.2))
     rw [List.append_assoc, List.append_assoc]
     rfl
  ·rw [if_neg (by simp; omega), List.drop_of_length_le (by omega), (zjP x.Op).1, Option.bind_some]
   show _ = tE c (kbi x.Kind x.Op (.ok (out ++ [], ks ++ [])))
   rw [List.append_nil, List.append_nil]
   exact zkY (w := (out, ks)) (zjP x.Op).2 (by show ks.length ≤ _; omega)
theorem zi3 : ∀ (n : Nat) {c : Ck}, Bd c →
  (∀ x : zc, 3 * szE x ≤ n → szE x ≤ 1000000000 → (zy n).2.1 c x = tE c (kE c x)) ∧
  (∀ (l : List zc) (want : List UInt8), 3 * zbT l + 1 ≤ n → zbT l ≤ 1000000000 → (zy n).1 c l want = tV c (kvs c l want)) ∧
  (∀ x : zc, 3 * zbT x.Kids + 2 ≤ n → zbT x.Kids ≤ 1000000000 → (zy n).2.2.1 c x = tE c (kpl c x.Kind x.Name x.Field (kEs c x.Kids)) ∧
   (zy n).2.2.2.1 c x = tE c (kun x.Op (kEs c x.Kids)) ∧ (zy n).2.2.2.2 c x = tE c (kbi x.Kind x.Op (kEs c x.Kids)))
 | 0, c, hB => ⟨fun x h => by have := zjk x; omega, fun l w h => by omega, fun x h => by omega⟩
 | n + 1, c, hB => by
  obtain ⟨i1, i2, i3⟩ := zi3 n hB
  refine ⟨fun x h hx => ?_, fun l want h hx => ?_, fun x h hx => ⟨?_, ?_, ?_⟩⟩
  ·have hz := ziP x
   obtain ⟨j1, j2, j3⟩ := i3 x (by omega) (by omega)
   rw [zkJ]
   show zfc (zy n).1 (zy n).2.1 (zy n).2.2.1 (zy n).2.2.2.1 (zy n).2.2.2.2 c x = _
   unfold zfc kx
   by_cases h1 : ((x.Kind.toNat : Int) == 1) = true
   ·rw [if_pos h1, if_pos h1]; rfl
   rw [if_neg h1, if_neg h1]
   by_cases h2 : ((x.Kind.toNat : Int) == 2) = true
   ·rw [if_pos h2, if_pos h2]
    by_cases hn : (x.Num != 0) = true
    ·rw [if_pos hn, if_pos hn]; rfl
    ·rw [if_neg hn, if_neg hn]; rfl
   rw [if_neg h2, if_neg h2]
   have kp : zdU (zy n).2.2.1 (zy n).2.2.2.1 (zy n).2.2.2.2 c x c.tree.Bodies c.tree.Points c.vars c.scope true = tE c (kpl c x.Kind x.Name x.Field (kEs c x.Kids)) := by
    unfold zdU
    rw [if_pos rfl]
    show zC ((zy n).2.2.1 c x) _ _ = _
    rw [j1]
    cases kpl c x.Kind x.Name x.Field (kEs c x.Kids) <;> rfl
   by_cases h3 : ((x.Kind.toNat : Int) == 3) = true
   ·rw [if_pos h3, h3]
    exact kp
   rw [if_neg h3]
   by_cases h4 : ((x.Kind.toNat : Int) == 4) = true
   ·rw [if_pos h4, h4, Bool.or_true, Bool.true_or, if_pos rfl]
    exact kp
   rw [if_neg h4]
   by_cases h5 : ((x.Kind.toNat : Int) == 5) = true
   ·rw [h5, Bool.or_true, if_pos rfl]
    exact kp
   rw [Bool.not_eq_true] at h3 h4 h5
   rw [h3, h4, h5]
   show _ = tE c (if ((x.Kind.toNat : Int) == 6) = true then kun x.Op (kEs c x.Kids) else kbi x.Kind x.Op (kEs c x.Kids))
   unfold zdU
   rw [if_neg (by decide)]
   by_cases h6 : ((x.Kind.toNat : Int) == 6) = true
   ·rw [if_pos h6, if_pos h6]
    show zC ((zy n).2.2.2.1 c x) _ _ = _
    rw [j2]
    cases kun x.Op (kEs c x.Kids) <;> rfl
   ·rw [if_neg h6, if_neg h6]
    show zC ((zy n).2.2.2.2 c x) _ _ = _
    rw [j3]
    cases kbi x.Kind x.Op (kEs c x.Kids) <;> rfl
  ·have hlen := zha l
   have := znf (c := c) (R := (zy n).2.1) (l := l) (want := want) (by omega) (fun x hm => i1 x (by have := zgt hm; omega) (by have := zgt hm; omega)) big 0 [] [] (by omega) (zcy (by omega)) rfl rfl
   refine this.trans ?_
   rw [List.drop_zero]
   rfl
  ·exact zlk (R2 := (zy n).2.1) (R3 := (zy n).2.2.1) (R4 := (zy n).2.2.2.1) (R5 := (zy n).2.2.2.2) hB fun want => i2 _ want (by omega) hx
  ·exact zm7 (R2 := (zy n).2.1) (R3 := (zy n).2.2.1) (R4 := (zy n).2.2.2.1) (R5 := (zy n).2.2.2.2) fun want => i2 _ want (by omega) hx
  ·have hlen := zha x.Kids
   have := zk3 (c := c) (R := (zy n).2.1) (x := x) (by omega) (fun y hm => i1 y (by have := zgt hm; omega) (by have := zgt hm; omega)) big 0 [] [] (by omega) (zcy (by omega)) rfl rfl
   refine this.trans ?_
   rw [List.drop_zero]
   cases kEs c x.Kids <;> rfl
theorem zdr {c : Ck} (hB : Bd c) {l : List zc} (h : zbT l ≤ 1000000000) (want : List UInt8) : zcp c l want = tV c (kvs c l want) := (zi3 big hB).2.1 l want (Nat.le_of_lt (zcy (by omega))) h
end Go.Proofs.Ytakcaekikfcbpaa
