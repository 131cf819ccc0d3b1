import Derived.Test.YtakcaekikfcbpaaP_13c
import Derived.KernelRfl
namespace Go.Proofs.Ytakcaekikfcbpaa
open Go.Ab Go.RowKit
set_option linter.unusedVariables false
set_option linter.unusedSimpArgs false
mutual
def rS : Stm → Bool
 | ⟨kd, _, _, _, _, _, _, b, e⟩ => ((kd.toNat : Int) == 10) || (((kd.toNat : Int) == 6) && (rL b && rL e))
def rL : List Stm → Bool
 | [] => false
 | s :: l => match l with
  | [] => rS s
  | _ :: _ => rL l
end
theorem zog (s : Stm) : rS s = (((s.Kind.toNat : Int) == 10) || (((s.Kind.toNat : Int) == 6) && (rL s.Body && rL s.Else))) := by cases s; rfl
theorem zl7 : ∀ (l : List Stm) (h : l ≠ []), rL l = rS (l.getLast h)
 | [], h => absurd rfl h
 | [s], _ => rfl
 | s :: t :: l, h => zl7 (t :: l) (by simp)
theorem ziK : ∀ (n : Nat) (l : List Stm), zx l < n → zx l ≤ 1000000000 → zff n l = some (rL l)
 | 0, l, h, _ => by omega
 | n + 1, [], h, _ => rfl
 | n + 1, a :: l, h, hl => by
  show zf9 (zff n) (a :: l) = _
  unfold zf9
  have hlen := zgb (a :: l)
  have hne : a :: l ≠ [] := by simp
  have hlen2 : (a :: l).length = l.length + 1 := rfl
  rw [if_neg (by rw [hlen2]; simp; omega), hlen2, show IntKind.i64.wrap (((l.length + 1 : Nat) : Int) - 1) = ((l.length : Nat) : Int) from by rw [zi9 (by omega)]; omega, zbx (by rw [hlen2]; omega), Option.bind_some, zl7 _ hne, List.getLast_eq_getElem]
  have hx : (a :: l)[(a :: l).length - 1] = (a :: l)[l.length] := rfl
  rw [hx]
  have hm : (a :: l)[l.length] ∈ a :: l := List.getElem_mem _
  generalize (a :: l)[l.length] = s at hm
  have hz := zgA hm
  have he := zfq s
  rw [zog]
  by_cases h10 : ((s.Kind.toNat : Int) == 10) = true
  ·rw [if_pos h10, h10]
   rfl
  rw [if_neg h10]
  rw [Bool.not_eq_true] at h10
  rw [h10, Bool.false_or]
  by_cases h6 : ((s.Kind.toNat : Int) == 6) = true
  ·rw [if_pos h6, h6, ziK n s.Body (by omega) (by omega), ziK n s.Else (by omega) (by omega), Option.bind_some, Option.bind_some]
   cases rL s.Body <;> rfl
  ·rw [if_neg h6]
   rw [Bool.not_eq_true] at h6
   rw [h6]
   rfl
theorem zqy {l : List Stm} (h : zx l ≤ 1000000000) : zgO l = some (rL l) := ziK big l (zbF (by omega)) h
def twL (pre : List BA) : List BA → Bool
 | [] => false
 | x :: l => pre.any (fun y => zG x y) || twL (pre ++ [x]) l
theorem zph {l : List BA} (hl : l.length ≤ 1000000000) : ∀ n k, k ≤ l.length → l.length - k < n → zeY l n (k : Int) = some (twL (l.take k) (l.drop k)) := by
 intro n
 induction n with
 | zero => intro k _ h; omega
 | succ n ih =>
  intro k hk hn
  show zfQ (zeY l n) l (k : Int) = _
  unfold zfQ
  by_cases h : k < l.length
  ·rw [if_pos (zbB (by omega)), zbx h, Option.bind_some, show (0 : Int) = ((0 : Nat) : Int) from rfl, zmd (by omega) hk, Option.bind_some, List.drop_zero, znr (by simp; omega), Option.bind_some, zbW (by omega), ih (k + 1) (by omega) (by omega), List.drop_eq_getElem_cons h, List.take_succ_eq_append_getElem h]
   show _ = some ((l.take k).any (fun y => zG l[k] y) || twL (l.take k ++ [l[k]]) (l.drop (k + 1)))
   cases (l.take k).any (fun y => zG l[k] y) <;> rfl
  ·rw [if_neg (by simp; omega), List.drop_of_length_le (by omega)]
   rfl
def twc (l : List BA) : Bool := twL [] l
theorem zkE {l : List BA} (hl : l.length ≤ 1000000000) : zgf l = some (twc l) := zph hl big 0 (by omega) (zbF (by omega))
def kPs (c : Ck) : List zcU → List zC → List Int → List BA → Bool → Er (List zC × List Int × Bool)
 | [], vs, sc, _, fine => .ok (vs, sc, fine)
 | x :: l, vs, sc, ns, fine => eb (ck (knw c x.Type_ && !(twc (ns ++ [x.Name]))) 8) fun _ => kPs c l (vs ++ [⟨x.Name, x.Type_, 1, []⟩]) (sc ++ [(sc.length : Int)]) (ns ++ [x.Name]) (fine && sca x.Type_)
def zb8 (c : Ck) (i : Int) (vs : List zC) (sc : List Int) : Ck := ⟨c.prog, c.tree, i, vs, sc⟩
def zgi (c : Ck) (b : zL) : Ck := ⟨c.prog, ⟨c.tree.Bodies ++ [b], c.tree.Main, c.tree.Points⟩, c.fn, c.vars, c.scope⟩
def kBd (c : Ck) (i : Nat) (d : zH) : Er Ck :=
 eb (ck (fo (zcr c d.Name) == (i : Int)) 8) fun _ =>
 eb (kPs c d.Params [] [] [] (decide ((d.Params.length : Int) ≤ 6) && (((d.Result.Kind.toNat : Int) == 0) || sca d.Result))) fun v =>
 eb (ck (knw c d.Result) 8) fun _ => eb (ck v.2.2 9) fun _ =>
 eb (kL d.Body (zb8 c i v.1 v.2.1)) fun r =>
 eb (ck (!((d.Result.Kind.toNat : Int) != 0) || rL d.Body) 10) fun _ =>
 .ok (zgi r.2 ⟨d.Name, (d.Params.length : Int), ((d.Result.Kind.toNat : Int) != 0), r.2.vars, r.1⟩)
def RB (G : Option (Except (Value × Ck) Ck)) (r : Er Ck) : Prop := match r with
 | .error e => ∃ c', G = some (.error (pe e, c'))
 | .ok x => G = some (.ok x)
theorem zhG {G : Option (Except (Value × Ck) Ck)} {b : Bool} {e : Int} {f : Unit → Er Ck} (he : ¬ b = true → ∃ c', G = some (.error (pe e, c'))) (ho : b = true → RB G (f ())) : RB G (eb (ck b e) f) := by
 by_cases hb : b = true
 ·rw [ckT hb]
  exact ho hb
 ·rw [ckF hb]
  exact he hb
theorem zo8 {c : Ck} {i : Nat} {d : zH} (hi : i < c.prog.Funcs.length) (hd : c.prog.Funcs[i] = d) (hst : c.prog.Structs.length ≤ 1000000000) (hsf : ∀ s ∈ c.prog.Structs, s.Fields.length ≤ 1000000000)
  (hfu : c.prog.Funcs.length ≤ 1000000000) (hfp : ∀ d ∈ c.prog.Funcs, d.Params.length ≤ 100000000) (hbo : c.tree.Bodies.length ≤ 1000000000) (hsz : zx d.Body ≤ 100000000) (hpt : c.tree.Points.length + 2 * zx d.Body ≤ 1000000000) :
  ∀ (n k : Nat) (vs : List zC) (sc : List Int) (ns : List BA) (fine : Bool), k ≤ d.Params.length → d.Params.length - k < n → vs.length = k → sc.length = k → ns.length = k → (∀ v ∈ vs, v.Fields = []) →
   RB (zfd c (i : Int) d n c.tree.Bodies c.tree.Points vs sc ns fine (k : Int))
    (eb (kPs c (d.Params.drop k) vs sc ns fine) fun v => eb (ck (knw c d.Result) 8) fun _ => eb (ck v.2.2 9) fun _ => eb (kL d.Body (zb8 c i v.1 v.2.1)) fun r =>
     eb (ck (!((d.Result.Kind.toNat : Int) != 0) || rL d.Body) 10) fun _ => .ok (zgi r.2 ⟨d.Name, (d.Params.length : Int), ((d.Result.Kind.toNat : Int) != 0), r.2.vars, r.1⟩)) := by
 have hdm : d ∈ c.prog.Funcs := hd ▸ List.getElem_mem hi
 have hdp := hfp d hdm
 intro n
 induction n with
 | zero => intro k _ _ _ _ _ h; omega
 | succ n ih =>
  intro k vs sc ns fine hk hn hv hs hns hvf
  show RB (zgl (zfd c (i : Int) d n) c (i : Int) d c.tree.Bodies c.tree.Points vs sc ns fine (k : Int)) _
  unfold zgl
  have kn : ∀ t, zdb (zb8 c (i : Int) vs sc) t = some (knw c t) := fun t => zk4 (c := zb8 c (i : Int) vs sc) (by show c.prog.Structs.length ≤ _; omega)
  by_cases h : k < d.Params.length
  ·rw [if_pos (zbB (by omega)), zbx h, Option.bind_some, zcq (by omega), Option.bind_some, List.drop_eq_getElem_cons h]
   show RB ((zdb (zb8 c (i : Int) vs sc) d.Params[k].Type_).bind _) (eb (eb (ck (knw c d.Params[k].Type_ && !(twc (ns ++ [d.Params[k].Name]))) 8) _) _)
   rw [kn, Option.bind_some, zkE (by simp; omega)]
   rw [show ((if knw c d.Params[k].Type_ = true then (some (twc (ns ++ [d.Params[k].Name]))).bind fun c471 => some (!c471) else some false)) = some (knw c d.Params[k].Type_ && !(twc (ns ++ [d.Params[k].Name]))) from by cases knw c d.Params[k].Type_ <;> rfl]
   rw [Option.bind_some]
   by_cases hb : (knw c d.Params[k].Type_ && !(twc (ns ++ [d.Params[k].Name]))) = true
   ·rw [zb2 hb, ckT hb]
    show RB (((if fine = true then (zc1 d.Params[k].Type_).bind fun c488 => some c488 else some false)).bind _) (eb (kPs c (d.Params.drop (k + 1)) (vs ++ [⟨d.Params[k].Name, d.Params[k].Type_, 1, []⟩]) (sc ++ [(sc.length : Int)]) (ns ++ [d.Params[k].Name]) (fine && sca d.Params[k].Type_)) _)
    rw [show ((if fine = true then (zc1 d.Params[k].Type_).bind fun c488 => some c488 else some false)) = some (fine && sca d.Params[k].Type_) from by cases fine <;> rfl]
    rw [Option.bind_some, zcq (by show vs.length + 1 ≤ _; omega), Option.bind_some, zcq (by omega), Option.bind_some, zbW (by omega), hs]
    exact ih (k + 1) (vs ++ [⟨d.Params[k].Name, d.Params[k].Type_, 1, []⟩]) (sc ++ [(k : Int)]) (ns ++ [d.Params[k].Name]) (fine && sca d.Params[k].Type_) (by omega) (by omega) (by simp [hv]) (by simp [hs]) (by simp [hns]) (fun v hm => by
     rw [List.mem_append, List.mem_singleton] at hm
     cases hm with
     | inl hm => exact hvf v hm
     | inr hm => rw [hm])
   ·rw [zce hb, ckF hb]
    exact ⟨_, rfl⟩
  ·rw [if_neg (by simp; omega), List.drop_of_length_le (by omega)]
   show RB ((zdb (zb8 c (i : Int) vs sc) d.Result).bind _) (eb (ck (knw c d.Result) 8) _)
   rw [kn, Option.bind_some]
   refine zhG (fun hb => ⟨_, by rw [zce hb]; rfl⟩) fun hb => ?_
   rw [zb2 hb]
   refine zhG (fun hb => ⟨zb8 c (i : Int) vs sc, by rw [show zby fine 9 = _ from zce hb]; rfl⟩) fun hb => ?_
   rw [show zby fine 9 = _ from zb2 hb]
   have hB : Bs (2 * zx d.Body) (zb8 c (i : Int) vs sc) := ⟨hpt, by show vs.length + _ ≤ _; omega, by show sc.length + _ ≤ _; omega, fun k => by
    unfold vf zb8
    dsimp only
    cases e : vs[k]? with
    | none => exact Nat.zero_le _
    | some v =>
     obtain ⟨hk, rfl⟩ := List.getElem?_eq_some_iff.1 e
     dsimp only
     rw [hvf _ (List.getElem_mem hk)]
     exact Nat.zero_le _, hst, hsf, hfu, fun d hd => by have := hfp d hd; omega, by show (zt c.prog.Funcs (i : Int)).isSome = true; rw [zbx hi]; rfl⟩
   have hL := znp hsz hB
   show RB (zJ (zgr (zb8 c (i : Int) vs sc) d.Body) _ _) (eb (kL d.Body (zb8 c (i : Int) vs sc)) _)
   cases e : kL d.Body (zb8 c (i : Int) vs sc) with
   | error e' =>
    rw [e] at hL
    obtain ⟨c', h1, _⟩ := hL
    exact ⟨c', by rw [h1]; rfl⟩
   | ok r =>
    rw [e] at hL
    rw [show zgr (zb8 c (i : Int) vs sc) d.Body = some (.ok (r.1, r.2)) from hL]
    have g := zhl e
    show RB (((if (!((d.Result.Kind.toNat : Int) != 0)) = true then some true else (zgO d.Body).bind fun c606 => some c606)).bind _) (eb (ck (!((d.Result.Kind.toNat : Int) != 0) || rL d.Body) 10) _)
    rw [zqy (by omega), show ((if (!((d.Result.Kind.toNat : Int) != 0)) = true then some true else (some (rL d.Body)).bind fun c606 => some c606)) = some (!((d.Result.Kind.toNat : Int) != 0) || rL d.Body) from by cases (!((d.Result.Kind.toNat : Int) != 0)) <;> rfl, Option.bind_some]
    refine zhG (fun hb => ⟨r.2, by rw [zce hb]; rfl⟩) fun hb => ?_
    rw [zb2 hb]
    show RB ((room (r.2.tree.Bodies.length + 1)).bind _) _
    rw [zcq (by rw [g.bod]; show c.tree.Bodies.length + 1 ≤ _; omega)]
    rfl
theorem zos {c : Ck} {i : Nat} (hi : i < c.prog.Funcs.length) (hst : c.prog.Structs.length ≤ 1000000000) (hsf : ∀ s ∈ c.prog.Structs, s.Fields.length ≤ 1000000000)
  (hfu : c.prog.Funcs.length ≤ 1000000000) (hfp : ∀ d ∈ c.prog.Funcs, d.Params.length ≤ 100000000) (hbo : c.tree.Bodies.length ≤ 1000000000) (hsz : zx c.prog.Funcs[i].Body ≤ 100000000) (hpt : c.tree.Points.length + 2 * zx c.prog.Funcs[i].Body ≤ 1000000000) :
  RB (zdD c (i : Int)) (kBd c i c.prog.Funcs[i]) := by
 unfold zdD kBd
 rw [zbx hi, Option.bind_some, zln (by omega), Option.bind_some]
 refine zhG (fun hb => ⟨_, by rw [zce hb]; rfl⟩) fun hb => ?_
 rw [zb2 hb]
 show RB (((if (decide ((c.prog.Funcs[i].Params.length : Int) ≤ 6)) = true then (if ((c.prog.Funcs[i].Result.Kind.toNat : Int) == 0) = true then some true else (zc1 c.prog.Funcs[i].Result).bind fun c33 => some c33) else some false)).bind _) _
 rw [show ((if (decide ((c.prog.Funcs[i].Params.length : Int) ≤ 6)) = true then (if ((c.prog.Funcs[i].Result.Kind.toNat : Int) == 0) = true then some true else (zc1 c.prog.Funcs[i].Result).bind fun c33 => some c33) else some false)) = some (decide ((c.prog.Funcs[i].Params.length : Int) ≤ 6) && (((c.prog.Funcs[i].Result.Kind.toNat : Int) == 0) || sca c.prog.Funcs[i].Result)) from by
  cases decide ((c.prog.Funcs[i].Params.length : Int) ≤ 6) <;> cases ((c.prog.Funcs[i].Result.Kind.toNat : Int) == 0) <;> rfl, Option.bind_some]
 exact zo8 hi rfl hst hsf hfu hfp hbo hsz hpt big 0 [] [] [] _ (by omega) (zbF (by have := hfp _ (List.getElem_mem hi); omega)) rfl rfl rfl (fun v h => by cases h)
def kSt (c : Ck) (i : Nat) (s : zbi) : Er Unit :=
 eb (ck ((fo (zcC c s.Name) == (i : Int)) && !(twc s.Fields)) 8) fun _ => ck (decide ((s.Fields.length : Int) ≥ 1) && decide ((s.Fields.length : Int) ≤ 8)) 9
theorem zmJ {c : Ck} {i : Nat} (hi : i < c.prog.Structs.length) (hst : c.prog.Structs.length ≤ 1000000000) (hsf : ∀ s ∈ c.prog.Structs, s.Fields.length ≤ 1000000000) :
  zdz c (i : Int) = tU (kSt c i c.prog.Structs[i]) := by
 unfold zdz kSt
 rw [zbx hi, Option.bind_some, show zgJ c.prog.Structs c.prog.Structs[i] = some (fo (zcC c c.prog.Structs[i].Name)) from ixB (l := c.prog.Structs) (p := fun v : zbi => zG v.Name c.prog.Structs[i].Name) (by omega) fun _ _ => rfl, Option.bind_some, zkE (hsf _ (List.getElem_mem hi))]
 rw [show ((if (fo (zcC c c.prog.Structs[i].Name) == (i : Int)) = true then (some (twc c.prog.Structs[i].Fields)).bind fun c22 => some (!c22) else some false)) = some ((fo (zcC c c.prog.Structs[i].Name) == (i : Int)) && !(twc c.prog.Structs[i].Fields)) from by cases (fo (zcC c c.prog.Structs[i].Name) == (i : Int)) <;> rfl, Option.bind_some]
 by_cases hb : ((fo (zcC c c.prog.Structs[i].Name) == (i : Int)) && !(twc c.prog.Structs[i].Fields)) = true
 ·rw [zb2 hb, ckT hb]
  show ((if (decide ((c.prog.Structs[i].Fields.length : Int) ≥ 1)) = true then some (decide ((c.prog.Structs[i].Fields.length : Int) ≤ 8)) else some false)).bind _ = _
  rw [show ((if (decide ((c.prog.Structs[i].Fields.length : Int) ≥ 1)) = true then some (decide ((c.prog.Structs[i].Fields.length : Int) ≤ 8)) else some false)) = some (decide ((c.prog.Structs[i].Fields.length : Int) ≥ 1) && decide ((c.prog.Structs[i].Fields.length : Int) ≤ 8)) from by cases decide ((c.prog.Structs[i].Fields.length : Int) ≥ 1) <;> rfl, Option.bind_some]
  by_cases h2 : (decide ((c.prog.Structs[i].Fields.length : Int) ≥ 1) && decide ((c.prog.Structs[i].Fields.length : Int) ≤ 8)) = true
  ·rw [zb2 h2]
   show _ = tU (ck _ 9)
   rw [ckT h2]
   rfl
  ·rw [zce h2]
   show _ = tU (ck _ 9)
   rw [ckF h2]
   rfl
 ·rw [zce hb, ckF hb]
  rfl
def Nz {α : Type} (r : Er α) : Prop := ∀ e, r = .error e → e = 8 ∨ e = 9 ∨ e = 10
theorem zbw {α : Type} (a : α) : Nz (.ok a : Er α) := fun e h => by cases h
theorem zbd {α β : Type} {r : Er α} {f : α → Er β} (h : Nz r) (hf : ∀ a, Nz (f a)) : Nz (eb r f) := by
 cases r with
 | error e => exact fun e' h' => h e' (by injection h' with h'; rw [h'])
 | ok a => exact hf a
theorem zb3 {b : Bool} {e : Int} (h : e = 8 ∨ e = 9 ∨ e = 10) : Nz (ck b e) := by
 unfold ck
 split
 ·exact zbw _
 ·exact fun e' h' => by injection h' with h'; rw [← h']; exact h
theorem zeM {α : Type} {e : Int} (h : e = 8 ∨ e = 9 ∨ e = 10) : Nz (.error e : Er α) := fun e' h' => by injection h' with h'; rw [← h']; exact h
theorem zjO (c : Ck) (nm : BA) : Nz (fnd c nm) := by
 unfold fnd
 split
 ·exact zeM (.inl rfl)
 split
 ·exact zbw _
 ·exact zeM (.inl rfl)
theorem zkZ (c : Ck) (k : Nat) (nm : BA) : Nz (zdH c k nm) := by
 unfold zdH
 split
 ·exact zeM (.inl rfl)
 ·exact zbw _
theorem zjb {r : Er Vks} (h : Nz r) (want : List UInt8) : Nz (vw r want) := zbd h fun _ => zbd (zb3 (.inr (.inl rfl))) fun _ => zbw _
theorem zov {c : Ck} {kd : UInt8} {nu : Int} {nm fd op : BA} {r : Er Vks} (h : Nz r) : Nz (kx c kd nu nm fd op r) := by
 unfold kx
 split
 ·exact zbw _
 split
 ·exact zbw _
 split
 ·refine zbd (zjO c nm) fun k => ?_
  split
  ·exact zbd (zb3 (.inr (.inl rfl))) fun _ => zbw _
  split
  ·exact zbd (zb3 (.inr (.inl rfl))) fun _ => zbd (zkZ c k fd) fun _ => zbw _
  ·exact zbd (zb3 (.inr (.inl rfl))) fun _ => zbd (zjb h _) fun _ => zbw _
 split
 ·exact zbd (zjb h _) fun _ => zbd (zb3 (.inr (.inl rfl))) fun _ => zbw _
 ·exact zbd h fun _ => zbd (zb3 (.inr (.inl rfl))) fun _ => zbw _
mutual
theorem zny (c : Ck) : ∀ x : zc, Nz (kE c x)
 | ⟨_, _, _, _, _, ks⟩ => zov (zja c ks)
theorem zja (c : Ck) : ∀ l : List zc, Nz (kEs c l)
 | [] => zbw _
 | x :: l => zbd (zny c x) fun _ => zbd (zja c l) fun _ => zbw _
end
theorem zcR (c : Ck) (l : List zc) (want : List UInt8) : Nz (kvs c l want) := zjb (zja c l) want
theorem zo3 {c : Ck} {p : Int} {kd : UInt8} {nm : BA} {ty : zD} {ks : List zc} : Nz (kva c p kd nm ty ks) := by
 refine zbd (zb3 (.inl rfl)) fun _ => ?_
 split
 ·exact zbd (zb3 (.inr (.inl rfl))) fun _ => zbd (zcR _ _ _) fun _ => zbw _
 split
 ·exact zbd (zcR _ _ _) fun _ => zbw _
 ·exact zbd (zcR _ _ _) fun _ => zbw _
theorem zpL {c : Ck} {p : Int} {kd : UInt8} {nm fd : BA} {ks : List zc} : Nz (kas c p kd nm fd ks) := by
 refine zbd (zjO c nm) fun k => ?_
 split
 ·exact zbd (zb3 (.inr (.inl rfl))) fun _ => zbd (zcR _ _ _) fun _ => zbw _
 split
 ·exact zbd (zb3 (.inr (.inl rfl))) fun _ => zbd (zcR _ _ _) fun _ => zbw _
 split
 ·exact zbd (zb3 (.inr (.inl rfl))) fun _ => zbd (zcR _ _ _) fun _ => zbw _
 split
 ·exact zbd (zb3 (.inr (.inl rfl))) fun _ => zbd (zkZ _ _ _) fun _ => zbd (zcR _ _ _) fun _ => zbw _
 ·exact zbw _
theorem znT {c : Ck} {p : Int} {kd : UInt8} {nm ca : BA} {ks : List zc} : Nz (kca c p kd nm ca ks) := by
 refine zbd ?_ fun v => ?_
 ·unfold kcv
  split
  ·exact zbd (zjO c nm) fun _ => zbd (zb3 (.inr (.inl rfl))) fun _ => zbw _
  ·exact zbw _
 split
 ·exact zeM (.inl rfl)
 split
 ·exact zeM (.inl rfl)
 ·exact zbd (zcR _ _ _) fun _ => zbd (zb3 (.inr (.inl rfl))) fun _ => zbw _
theorem zpn {c : Ck} {p : Int} {kd : UInt8} {nm fd ca : BA} {ty : zD} {ks : List zc} {B E : Bl} (hB : ∀ d, Nz (B d)) (hE : ∀ d, Nz (E d)) : Nz (ksm c p kd nm fd ca ty ks B E) := by
 unfold ksm
 split
 ·exact zo3
 split
 ·exact zpL
 split
 ·exact znT
 split
 ·exact zbd (zcR _ _ _) fun _ => zbd (hB _) fun _ => zbd (hE _) fun _ => zbw _
 split
 ·exact zbd (zcR _ _ _) fun _ => zbd (hB _) fun _ => zbw _
 split
 ·exact zbd (zcR _ _ _) fun _ => zbw _
 split
 ·exact zbd (zcR _ _ _) fun _ => zbw _
 ·exact zbd (zcR _ _ _) fun _ => zeM (.inr (.inl rfl))
mutual
theorem zn0 : ∀ (s : Stm) (c : Ck), Nz (kS s c)
 | ⟨kd, ln, nm, fd, ca, ty, ks, b, e⟩, c => by
  show Nz (ksm (zbv c ln) (c.tree.Points.length : Int) kd nm fd ca ty ks (fun d => eb (kSs b d) fun r => .ok (r.1, zbM r.2 d.scope.length)) (fun d => eb (kSs e d) fun r => .ok (r.1, zbM r.2 d.scope.length)))
  exact zpn (fun d => zbd (zg8 b d) fun _ => zbw _) (fun d => zbd (zg8 e d) fun _ => zbw _)
theorem zg8 : ∀ (l : List Stm) (c : Ck), Nz (kSs l c)
 | [], c => zbw _
 | s :: l, c => zbd (zn0 s c) fun r => zbd (zg8 l r.2) fun _ => zbw _
end
theorem znt (l : List Stm) (c : Ck) : Nz (kL l c) := zbd (zg8 l c) fun _ => zbw _
theorem zlm (c : Ck) : ∀ (l : List zcU) (vs : List zC) (sc : List Int) (ns : List BA) (f : Bool), Nz (kPs c l vs sc ns f)
 | [], _, _, _, _ => zbw _
 | x :: l, _, _, _, _ => zbd (zb3 (.inl rfl)) fun _ => zlm c l _ _ _ _
theorem znX (c : Ck) (i : Nat) (d : zH) : Nz (kBd c i d) :=
 zbd (zb3 (.inl rfl)) fun _ => zbd (zlm _ _ _ _ _ _) fun _ => zbd (zb3 (.inl rfl)) fun _ => zbd (zb3 (.inr (.inl rfl))) fun _ => zbd (znt _ _) fun _ => zbd (zb3 (.inr (.inr rfl))) fun _ => zbw _
theorem zmW (c : Ck) (i : Nat) (s : zbi) : Nz (kSt c i s) := zbd (zb3 (.inl rfl)) fun _ => zb3 (.inr (.inl rfl))
end Go.Proofs.Ytakcaekikfcbpaa
