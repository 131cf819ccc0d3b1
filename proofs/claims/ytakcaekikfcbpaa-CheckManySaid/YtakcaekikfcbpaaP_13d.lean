import Derived.Test.YtakcaekikfcbpaaP_13c
import Derived.KernelRfl
namespace Go.Proofs.Ytakcaekikfcbpaa
open Go.Ab Go.RowKit
set_option linter.unusedVariables false
set_option linter.unusedSimpArgs false
mutual
def rS : Stm → Bool
 | ⟨kd, _, _, _, _, _, _, b, e⟩ => ((kd.toNat : Int) == 10) || (((kd.toNat : Int) == 6) && (rL b && rL e))
def rL : List Stm → Bool
 | [] => false
 | s :: l => match l with
  | [] => rS s
  | _ :: _ => rL l
end
theorem zk5 (s : Stm) : rS s = (((s.Kind.toNat : Int) == 10) || (((s.Kind.toNat : Int) == 6) && (rL s.Body && rL s.Else))) := by cases s; rfl
theorem zjb : ∀ (l : List Stm) (h : l ≠ []), rL l = rS (l.getLast h)
 | [], h => absurd rfl h
 | [s], _ => rfl
 | s :: t :: l, h => zjb (t :: l) (by simp)
theorem zhE : ∀ (n : Nat) (l : List Stm), zO l < n → zO l ≤ 1000000000 → zeM n l = some (rL l)
 | 0, l, h, _ => by omega
 | n + 1, [], h, _ => rfl
 | n + 1, a :: l, h, hl => by
  show zfd (zeM n) (a :: l) = _
  unfold zfd
  have hlen := zhh (a :: l)
  have hne : a :: l ≠ [] := by simp
  have hlen2 : (a :: l).length = l.length + 1 := rfl
  rw [if_neg (by rw [hlen2]; simp; omega), hlen2, show IntKind.i64.wrap (((l.length + 1 : Nat) : Int) - 1) = ((l.length : Nat) : Int) from by rw [zkw (by omega)]; omega, zbQ (by rw [hlen2]; omega), Option.bind_some, zjb _ hne, List.getLast_eq_getElem]
  have hx : (a :: l)[(a :: l).length - 1] = (a :: l)[l.length] := rfl
  rw [hx]
  have hm : (a :: l)[l.length] ∈ a :: l := List.getElem_mem _
  generalize (a :: l)[l.length] = s at hm
  have hz := zid hm
  have he := zgo s
  rw [zk5]
  by_cases h10 : ((s.Kind.toNat : Int) == 10) = true
  ·rw [if_pos h10, h10]
   rfl
  rw [if_neg h10]
  rw [Bool.not_eq_true] at h10
  rw [h10, Bool.false_or]
  by_cases h6 : ((s.Kind.toNat : Int) == 6) = true
  ·rw [if_pos h6, h6, zhE n s.Body (by omega) (by omega), zhE n s.Else (by omega) (by omega), Option.bind_some, Option.bind_some]
   cases rL s.Body <;> rfl
  ·rw [if_neg h6]
   rw [Bool.not_eq_true] at h6
   rw [h6]
   rfl
theorem zlo {l : List Stm} (h : zO l ≤ 1000000000) : zgT l = some (rL l) := zhE big l (zcy (by omega)) h
def twL (pre : List BA) : List BA → Bool
 | [] => false
 | x :: l => pre.any (fun y => z9 x y) || twL (pre ++ [x]) l
theorem zm2 {l : List BA} (hl : l.length ≤ 1000000000) : ∀ n k, k ≤ l.length → l.length - k < n → zeO l n (k : Int) = some (twL (l.take k) (l.drop k)) := by
 intro n
 induction n with
 | zero => intro k _ h; omega
 | succ n ih =>
  intro k hk hn
  show ze5 (zeO l n) l (k : Int) = _
  unfold ze5
  by_cases h : k < l.length
  ·rw [if_pos (zca (by omega)), zbQ h, Option.bind_some, show (0 : Int) = ((0 : Nat) : Int) from rfl, zkh (by omega) hk, Option.bind_some, List.drop_zero, zla (by simp; omega), Option.bind_some, zcS (by omega), ih (k + 1) (by omega) (by omega), List.drop_eq_getElem_cons h, List.take_succ_eq_append_getElem h]
   show _ = some ((l.take k).any (fun y => z9 l[k] y) || twL (l.take k ++ [l[k]]) (l.drop (k + 1)))
   cases (l.take k).any (fun y => z9 l[k] y) <;> rfl
  ·rw [if_neg (by simp; omega), List.drop_of_length_le (by omega)]
   rfl
def twc (l : List BA) : Bool := twL [] l
theorem zjC {l : List BA} (hl : l.length ≤ 1000000000) : zfx l = some (twc l) := zm2 hl big 0 (by omega) (zcy (by omega))
def kPs (c : Ck) : List zfW → List zG → List Int → List BA → Bool → Er (List zG × List Int × Bool)
 | [], vs, sc, _, fine => .ok (vs, sc, fine)
 | x :: l, vs, sc, ns, fine => eb (ck (knw c x.Type_ && !(twc (ns ++ [x.Name]))) 8) fun _ => kPs c l (vs ++ [⟨x.Name, x.Type_, 1, []⟩]) (sc ++ [(sc.length : Int)]) (ns ++ [x.Name]) (fine && sca x.Type_)
def zcC (c : Ck) (i : Int) (vs : List zG) (sc : List Int) : Ck := ⟨c.prog, c.tree, i, vs, sc⟩
def zdc (c : Ck) (b : zI) : Ck := ⟨c.prog, ⟨c.tree.Bodies ++ [b], c.tree.Main, c.tree.Points⟩, c.fn, c.vars, c.scope⟩
def kBd (c : Ck) (i : Nat) (d : zB) : Er Ck :=
 eb (ck (fo (zcU c d.Name) == (i : Int)) 8) fun _ =>
 eb (kPs c d.Params [] [] [] (decide ((d.Params.length : Int) ≤ 6) && (((d.Result.Kind.toNat : Int) == 0) || sca d.Result))) fun v =>
 eb (ck (knw c d.Result) 8) fun _ => eb (ck v.2.2 9) fun _ =>
 eb (kL d.Body (zcC c i v.1 v.2.1)) fun r =>
 eb (ck (!((d.Result.Kind.toNat : Int) != 0) || rL d.Body) 10) fun _ =>
 .ok (zdc r.2 ⟨d.Name, (d.Params.length : Int), ((d.Result.Kind.toNat : Int) != 0), r.2.vars, r.1⟩)
def RB (G : Option (Except (Value × Ck) Ck)) (r : Er Ck) : Prop := match r with
 | .error e => ∃ c', G = some (.error (pe e, c'))
 | .ok x => G = some (.ok x)
theorem zfS {G : Option (Except (Value × Ck) Ck)} {b : Bool} {e : Int} {f : Unit → Er Ck} (he : ¬ b = true → ∃ c', G = some (.error (pe e, c'))) (ho : b = true → RB G (f ())) : RB G (eb (ck b e) f) := by
 by_cases hb : b = true
 ·rw [ckT hb]
  exact ho hb
 ·rw [ckF hb]
  exact he hb
theorem znj {c : Ck} {i : Nat} {d : zB} (hi : i < c.prog.Funcs.length) (hd : c.prog.Funcs[i] = d) (hst : c.prog.Structs.length ≤ 1000000000) (hsf : ∀ s ∈ c.prog.Structs, s.Fields.length ≤ 1000000000)
  (hfu : c.prog.Funcs.length ≤ 1000000000) (hfp : ∀ d ∈ c.prog.Funcs, d.Params.length ≤ 100000000) (hbo : c.tree.Bodies.length ≤ 1000000000) (hsz : zO d.Body ≤ 100000000) (hpt : c.tree.Points.length + 2 * zO d.Body ≤ 1000000000) :
  ∀ (n k : Nat) (vs : List zG) (sc : List Int) (ns : List BA) (fine : Bool), k ≤ d.Params.length → d.Params.length - k < n → vs.length = k → sc.length = k → ns.length = k → (∀ v ∈ vs, v.Fields = []) →
   RB (zeV c (i : Int) d n c.tree.Bodies c.tree.Points vs sc ns fine (k : Int))
    (eb (kPs c (d.Params.drop k) vs sc ns fine) fun v => eb (ck (knw c d.Result) 8) fun _ => eb (ck v.2.2 9) fun _ => eb (kL d.Body (zcC c i v.1 v.2.1)) fun r =>
     eb (ck (!((d.Result.Kind.toNat : Int) != 0) || rL d.Body) 10) fun _ => .ok (zdc r.2 ⟨d.Name, (d.Params.length : Int), ((d.Result.Kind.toNat : Int) != 0), r.2.vars, r.1⟩)) := by
 have hdm : d ∈ c.prog.Funcs := hd ▸ List.getElem_mem hi
 have hdp := hfp d hdm
 intro n
 induction n with
 | zero => intro k _ _ _ _ _ h; omega
 | succ n ih =>
  intro k vs sc ns fine hk hn hv hs hns hvf
  show RB (ze2 (zeV c (i : Int) d n) c (i : Int) d c.tree.Bodies c.tree.Points vs sc ns fine (k : Int)) _
  unfold ze2
  have kn : ∀ t, zc1 (zcC c (i : Int) vs sc) t = some (knw c t) := fun t => zkf (c := zcC c (i : Int) vs sc) (by show c.prog.Structs.length ≤ _; omega)
  by_cases h : k < d.Params.length
  ·rw [if_pos (zca (by omega)), zbQ h, Option.bind_some, zcr (by omega), Option.bind_some, List.drop_eq_getElem_cons h]
   show RB ((zc1 (zcC c (i : Int) vs sc) d.Params[k].Type_).bind _) (eb (eb (ck (knw c d.Params[k].Type_ && !(twc (ns ++ [d.Params[k].Name]))) 8) _) _)
   rw [kn, Option.bind_some, zjC (by simp; omega)]
   rw [show ((if knw c d.Params[k].Type_ = true then (some (twc (ns ++ [d.Params[k].Name]))).bind fun c471 => some (!c471) else some false)) = some (knw c d.Params[k].Type_ && !(twc (ns ++ [d.Params[k].Name]))) from by cases knw c d.Params[k].Type_ <;> rfl]
   rw [Option.bind_some]
   by_cases hb : (knw c d.Params[k].Type_ && !(twc (ns ++ [d.Params[k].Name]))) = true
   ·rw [zbS hb, ckT hb]
    show RB (((if fine = true then (zcY d.Params[k].Type_).bind fun c488 => some c488 else some false)).bind _) (eb (kPs c (d.Params.drop (k + 1)) (vs ++ [⟨d.Params[k].Name, d.Params[k].Type_, 1, []⟩]) (sc ++ [(sc.length : Int)]) (ns ++ [d.Params[k].Name]) (fine && sca d.Params[k].Type_)) _)
    rw [show ((if fine = true then (zcY d.Params[k].Type_).bind fun c488 => some c488 else some false)) = some (fine && sca d.Params[k].Type_) from by cases fine <;> rfl]
    rw [Option.bind_some, zcr (by show vs.length + 1 ≤ _; omega), Option.bind_some, zcr (by omega), Option.bind_some, zcS (by omega), hs]
    exact ih (k + 1) (vs ++ [⟨d.Params[k].Name, d.Params[k].Type_, 1, []⟩]) (sc ++ [(k : Int)]) (ns ++ [d.Params[k].Name]) (fine && sca d.Params[k].Type_) (by omega) (by omega) (by simp [hv]) (by simp [hs]) (by simp [hns]) (fun v hm => by
     rw [List.mem_append, List.mem_singleton] at hm
     cases hm with
     | inl hm => exact hvf v hm
     | inr hm => rw [hm])
   ·rw [zb2 hb, ckF hb]
    exact ⟨_, rfl⟩
  ·rw [if_neg (by simp; omega), List.drop_of_length_le (by omega)]
   show RB ((zc1 (zcC c (i : Int) vs sc) d.Result).bind _) (eb (ck (knw c d.Result) 8) _)
   rw [kn, Option.bind_some]
   refine zfS (fun hb => ⟨_, by rw [zb2 hb]; rfl⟩) fun hb => ?_
   rw [zbS hb]
   refine zfS (fun hb => ⟨zcC c (i : Int) vs sc, by rw [show zby fine 9 = _ from zb2 hb]; rfl⟩) fun hb => ?_
   rw [show zby fine 9 = _ from zbS hb]
   have hB : Bs (2 * zO d.Body) (zcC c (i : Int) vs sc) := ⟨hpt, by show vs.length + _ ≤ _; omega, by show sc.length + _ ≤ _; omega, fun k => by
    unfold vf zcC
    dsimp only
    cases e : vs[k]? with
    | none => exact Nat.zero_le _
    | some v =>
     obtain ⟨hk, rfl⟩ := List.getElem?_eq_some_iff.1 e
     dsimp only
     rw [hvf _ (List.getElem_mem hk)]
     exact Nat.zero_le _, hst, hsf, hfu, fun d hd => by have := hfp d hd; omega, by show (zL c.prog.Funcs (i : Int)).isSome = true; rw [zbQ hi]; rfl⟩
   have hL := znm hsz hB
   show RB (zC (ze9 (zcC c (i : Int) vs sc) d.Body) _ _) (eb (kL d.Body (zcC c (i : Int) vs sc)) _)
   cases e : kL d.Body (zcC c (i : Int) vs sc) with
   | error e' =>
    rw [e] at hL
    obtain ⟨c', h1, _⟩ := hL
    exact ⟨c', by rw [h1]; rfl⟩
   | ok r =>
    rw [e] at hL
    rw [show ze9 (zcC c (i : Int) vs sc) d.Body = some (.ok (r.1, r.2)) from hL]
    have g := zim e
    show RB (((if (!((d.Result.Kind.toNat : Int) != 0)) = true then some true else (zgT d.Body).bind fun c606 => some c606)).bind _) (eb (ck (!((d.Result.Kind.toNat : Int) != 0) || rL d.Body) 10) _)
    rw [zlo (by omega), show ((if (!((d.Result.Kind.toNat : Int) != 0)) = true then some true else (some (rL d.Body)).bind fun c606 => some c606)) = some (!((d.Result.Kind.toNat : Int) != 0) || rL d.Body) from by cases (!((d.Result.Kind.toNat : Int) != 0)) <;> rfl, Option.bind_some]
    refine zfS (fun hb => ⟨r.2, by rw [zb2 hb]; rfl⟩) fun hb => ?_
    rw [zbS hb]
    show RB ((room (r.2.tree.Bodies.length + 1)).bind _) _
    rw [zcr (by rw [g.bod]; show c.tree.Bodies.length + 1 ≤ _; omega)]
    rfl
theorem zlX {c : Ck} {i : Nat} (hi : i < c.prog.Funcs.length) (hst : c.prog.Structs.length ≤ 1000000000) (hsf : ∀ s ∈ c.prog.Structs, s.Fields.length ≤ 1000000000)
  (hfu : c.prog.Funcs.length ≤ 1000000000) (hfp : ∀ d ∈ c.prog.Funcs, d.Params.length ≤ 100000000) (hbo : c.tree.Bodies.length ≤ 1000000000) (hsz : zO c.prog.Funcs[i].Body ≤ 100000000) (hpt : c.tree.Points.length + 2 * zO c.prog.Funcs[i].Body ≤ 1000000000) :
  RB (zdw c (i : Int)) (kBd c i c.prog.Funcs[i]) := by
 unfold zdw kBd
 rw [zbQ hi, Option.bind_some, zjp (by omega), Option.bind_some]
 refine zfS (fun hb => ⟨_, by rw [zb2 hb]; rfl⟩) fun hb => ?_
 rw [zbS hb]
 show RB (((if (decide ((c.prog.Funcs[i].Params.length : Int) ≤ 6)) = true then (if ((c.prog.Funcs[i].Result.Kind.toNat : Int) == 0) = true then some true else (zcY c.prog.Funcs[i].Result).bind fun c33 => some c33) else some false)).bind _) _
 rw [show ((if (decide ((c.prog.Funcs[i].Params.length : Int) ≤ 6)) = true then (if ((c.prog.Funcs[i].Result.Kind.toNat : Int) == 0) = true then some true else (zcY c.prog.Funcs[i].Result).bind fun c33 => some c33) else some false)) = some (decide ((c.prog.Funcs[i].Params.length : Int) ≤ 6) && (((c.prog.Funcs[i].Result.Kind.toNat : Int) == 0) || sca c.prog.Funcs[i].Result)) from by
  cases decide ((c.prog.Funcs[i].Params.length : Int) ≤ 6) <;> cases ((c.prog.Funcs[i].Result.Kind.toNat : Int) == 0) <;> rfl, Option.bind_some]
 exact znj hi rfl hst hsf hfu hfp hbo hsz hpt big 0 [] [] [] _ (by omega) (zcy (by have := hfp _ (List.getElem_mem hi); omega)) rfl rfl rfl (fun v h => by cases h)
def kSt (c : Ck) (i : Nat) (s : zbj) : Er Unit :=
 eb (ck ((fo (zcZ c s.Name) == (i : Int)) && !(twc s.Fields)) 8) fun _ => ck (decide ((s.Fields.length : Int) ≥ 1) && decide ((s.Fields.length : Int) ≤ 8)) 9
theorem znE {c : Ck} {i : Nat} (hi : i < c.prog.Structs.length) (hst : c.prog.Structs.length ≤ 1000000000) (hsf : ∀ s ∈ c.prog.Structs, s.Fields.length ≤ 1000000000) :
  zdv c (i : Int) = tU (kSt c i c.prog.Structs[i]) := by
 unfold zdv kSt
 rw [zbQ hi, Option.bind_some, show zgN c.prog.Structs c.prog.Structs[i] = some (fo (zcZ c c.prog.Structs[i].Name)) from ixB (l := c.prog.Structs) (p := fun v : zbj => z9 v.Name c.prog.Structs[i].Name) (by omega) fun _ _ => rfl, Option.bind_some, zjC (hsf _ (List.getElem_mem hi))]
 rw [show ((if (fo (zcZ c c.prog.Structs[i].Name) == (i : Int)) = true then (some (twc c.prog.Structs[i].Fields)).bind fun c22 => some (!c22) else some false)) = some ((fo (zcZ c c.prog.Structs[i].Name) == (i : Int)) && !(twc c.prog.Structs[i].Fields)) from by cases (fo (zcZ c c.prog.Structs[i].Name) == (i : Int)) <;> rfl, Option.bind_some]
 by_cases hb : ((fo (zcZ c c.prog.Structs[i].Name) == (i : Int)) && !(twc c.prog.Structs[i].Fields)) = true
 ·rw [zbS hb, ckT hb]
  show ((if (decide ((c.prog.Structs[i].Fields.length : Int) ≥ 1)) = true then some (decide ((c.prog.Structs[i].Fields.length : Int) ≤ 8)) else some false)).bind _ = _
  rw [show ((if (decide ((c.prog.Structs[i].Fields.length : Int) ≥ 1)) = true then some (decide ((c.prog.Structs[i].Fields.length : Int) ≤ 8)) else some false)) = some (decide ((c.prog.Structs[i].Fields.length : Int) ≥ 1) && decide ((c.prog.Structs[i].Fields.length : Int) ≤ 8)) from by cases decide ((c.prog.Structs[i].Fields.length : Int) ≥ 1) <;> rfl, Option.bind_some]
  by_cases h2 : (decide ((c.prog.Structs[i].Fields.length : Int) ≥ 1) && decide ((c.prog.Structs[i].Fields.length : Int) ≤ 8)) = true
  ·rw [zbS h2]
   show _ = tU (ck _ 9)
   rw [ckT h2]
   rfl
  ·rw [zb2 h2]
   show _ = tU (ck _ 9)
   rw [ckF h2]
   rfl
 ·rw [zb2 hb, ckF hb]
  rfl
def Nz {α : Type} (r : Er α) : Prop := ∀ e, r = .error e → e = 8 ∨ e = 9 ∨ e = 10
theorem zbx {α : Type} (a : α) : Nz (.ok a : Er α) := fun e h => by cases h
theorem zV {α β : Type} {r : Er α} {f : α → Er β} (h : Nz r) (hf : ∀ a, Nz (f a)) : Nz (eb r f) := by
 cases r with
 | error e => exact fun e' h' => h e' (by injection h' with h'; rw [h'])
 | ok a => exact hf a
theorem zbU {b : Bool} {e : Int} (h : e = 8 ∨ e = 9 ∨ e = 10) : Nz (ck b e) := by
 unfold ck
 split
 ·exact zbx _
 ·exact fun e' h' => by injection h' with h'; rw [← h']; exact h
theorem zeS {α : Type} {e : Int} (h : e = 8 ∨ e = 9 ∨ e = 10) : Nz (.error e : Er α) := fun e' h' => by injection h' with h'; rw [← h']; exact h
theorem zh3 (c : Ck) (nm : BA) : Nz (fnd c nm) := by
 unfold fnd
 split
 ·exact zeS (.inl rfl)
 split
 ·exact zbx _
 ·exact zeS (.inl rfl)
theorem zjA (c : Ck) (k : Nat) (nm : BA) : Nz (zez c k nm) := by
 unfold zez
 split
 ·exact zeS (.inl rfl)
 ·exact zbx _
theorem zis {r : Er Vks} (h : Nz r) (want : List UInt8) : Nz (vw r want) := zV h fun _ => zV (zbU (.inr (.inl rfl))) fun _ => zbx _
theorem znk {c : Ck} {kd : UInt8} {nu : Int} {nm fd op : BA} {r : Er Vks} (h : Nz r) : Nz (kx c kd nu nm fd op r) := by
 unfold kx
 split
 ·exact zbx _
 split
 ·exact zbx _
 split
 ·refine zV (zh3 c nm) fun k => ?_
  split
  ·exact zV (zbU (.inr (.inl rfl))) fun _ => zbx _
  split
  ·exact zV (zbU (.inr (.inl rfl))) fun _ => zV (zjA c k fd) fun _ => zbx _
  ·exact zV (zbU (.inr (.inl rfl))) fun _ => zV (zis h _) fun _ => zbx _
 split
 ·exact zV (zis h _) fun _ => zV (zbU (.inr (.inl rfl))) fun _ => zbx _
 ·exact zV h fun _ => zV (zbU (.inr (.inl rfl))) fun _ => zbx _
mutual
theorem zlV (c : Ck) : ∀ x : zc, Nz (kE c x)
 | ⟨_, _, _, _, _, ks⟩ => znk (zh9 c ks)
theorem zh9 (c : Ck) : ∀ l : List zc, Nz (kEs c l)
 | [] => zbx _
 | x :: l => zV (zlV c x) fun _ => zV (zh9 c l) fun _ => zbx _
end
theorem zcM (c : Ck) (l : List zc) (want : List UInt8) : Nz (kvs c l want) := zis (zh9 c l) want
theorem zmC {c : Ck} {p : Int} {kd : UInt8} {nm : BA} {ty : zk} {ks : List zc} : Nz (kva c p kd nm ty ks) := by
 refine zV (zbU (.inl rfl)) fun _ => ?_
 split
 ·exact zV (zbU (.inr (.inl rfl))) fun _ => zV (zcM _ _ _) fun _ => zbx _
 split
 ·exact zV (zcM _ _ _) fun _ => zbx _
 ·exact zV (zcM _ _ _) fun _ => zbx _
theorem zmI {c : Ck} {p : Int} {kd : UInt8} {nm fd : BA} {ks : List zc} : Nz (kas c p kd nm fd ks) := by
 refine zV (zh3 c nm) fun k => ?_
 split
 ·exact zV (zbU (.inr (.inl rfl))) fun _ => zV (zcM _ _ _) fun _ => zbx _
 split
 ·exact zV (zbU (.inr (.inl rfl))) fun _ => zV (zcM _ _ _) fun _ => zbx _
 split
 ·exact zV (zbU (.inr (.inl rfl))) fun _ => zV (zcM _ _ _) fun _ => zbx _
 split
 ·exact zV (zbU (.inr (.inl rfl))) fun _ => zV (zjA _ _ _) fun _ => zV (zcM _ _ _) fun _ => zbx _
 ·exact zbx _
theorem zmp {c : Ck} {p : Int} {kd : UInt8} {nm ca : BA} {ks : List zc} : Nz (kca c p kd nm ca ks) := by
 refine zV ?_ fun v => ?_
 ·unfold kcv
  split
  ·exact zV (zh3 c nm) fun _ => zV (zbU (.inr (.inl rfl))) fun _ => zbx _
  ·exact zbx _
 split
 ·exact zeS (.inl rfl)
 split
 ·exact zeS (.inl rfl)
 ·exact zV (zcM _ _ _) fun _ => zV (zbU (.inr (.inl rfl))) fun _ => zbx _
theorem zmq {c : Ck} {p : Int} {kd : UInt8} {nm fd ca : BA} {ty : zk} {ks : List zc} {B E : Bl} (hB : ∀ d, Nz (B d)) (hE : ∀ d, Nz (E d)) : Nz (ksm c p kd nm fd ca ty ks B E) := by
 unfold ksm
 split
 ·exact zmC
 split
 ·exact zmI
 split
 ·exact zmp
 split
 ·exact zV (zcM _ _ _) fun _ => zV (hB _) fun _ => zV (hE _) fun _ => zbx _
 split
 ·exact zV (zcM _ _ _) fun _ => zV (hB _) fun _ => zbx _
 split
 ·exact zV (zcM _ _ _) fun _ => zbx _
 split
 ·exact zV (zcM _ _ _) fun _ => zbx _
 ·exact zV (zcM _ _ _) fun _ => zeS (.inr (.inl rfl))
mutual
theorem zlj : ∀ (s : Stm) (c : Ck), Nz (kS s c)
 | ⟨kd, ln, nm, fd, ca, ty, ks, b, e⟩, c => by
  show Nz (ksm (zbq c ln) (c.tree.Points.length : Int) kd nm fd ca ty ks (fun d => eb (kSs b d) fun r => .ok (r.1, zbW r.2 d.scope.length)) (fun d => eb (kSs e d) fun r => .ok (r.1, zbW r.2 d.scope.length)))
  exact zmq (fun d => zV (zgf b d) fun _ => zbx _) (fun d => zV (zgf e d) fun _ => zbx _)
theorem zgf : ∀ (l : List Stm) (c : Ck), Nz (kSs l c)
 | [], c => zbx _
 | s :: l, c => zV (zlj s c) fun r => zV (zgf l r.2) fun _ => zbx _
end
theorem zmP (l : List Stm) (c : Ck) : Nz (kL l c) := zV (zgf l c) fun _ => zbx _
theorem zkb (c : Ck) : ∀ (l : List zfW) (vs : List zG) (sc : List Int) (ns : List BA) (f : Bool), Nz (kPs c l vs sc ns f)
 | [], _, _, _, _ => zbx _
 | x :: l, _, _, _, _ => zV (zbU (.inl rfl)) fun _ => zkb c l _ _ _ _
theorem zlm (c : Ck) (i : Nat) (d : zB) : Nz (kBd c i d) :=
 zV (zbU (.inl rfl)) fun _ => zV (zkb _ _ _ _ _ _) fun _ => zV (zbU (.inl rfl)) fun _ => zV (zbU (.inr (.inl rfl))) fun _ => zV (zmP _ _) fun _ => zV (zbU (.inr (.inr rfl))) fun _ => zbx _
theorem zmM (c : Ck) (i : Nat) (s : zbj) : Nz (kSt c i s) := zV (zbU (.inl rfl)) fun _ => zbU (.inr (.inl rfl))
end Go.Proofs.Ytakcaekikfcbpaa
