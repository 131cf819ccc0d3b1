import Derived.Test.YtakcaekikfcbpaaP_13c
import Derived.KernelRfl
namespace Go.Proofs.Ytakcaekikfcbpaa
open Go.Ab Go.RowKit
set_option linter.unusedVariables false
set_option linter.unusedSimpArgs false
mutual
def rS : Stm → Bool
 | ⟨kd, _, _, _, _, _, _, b, e⟩ => ((kd.toNat : Int) == 10) || (((kd.toNat : Int) == 6) && (rL b && rL e))
def rL : List Stm → Bool
 | [] => false
 | s :: l => match l with
  | [] => rS s
  | _ :: _ => rL l
end
theorem zpo (s : Stm) : rS s = (((s.Kind.toNat : Int) == 10) || (((s.Kind.toNat : Int) == 6) && (rL s.Body && rL s.Else))) := by cases s; rfl
theorem zkj : ∀ (l : List Stm) (h : l ≠ []), rL l = rS (l.getLast h)
 | [], h => absurd rfl h
 | [s], _ => rfl
 | s :: t :: l, h => zkj (t :: l) (by simp)
theorem zjH : ∀ (n : Nat) (l : List Stm), zu l < n → zu l ≤ 1000000000 → zfa n l = some (rL l)
 | 0, l, h, _ => by omega
 | n + 1, [], h, _ => rfl
 | n + 1, a :: l, h, hl => by
  show zgz (zfa n) (a :: l) = _
  unfold zgz
  have hlen := zff (a :: l)
  have hne : a :: l ≠ [] := by simp
  have hlen2 : (a :: l).length = l.length + 1 := rfl
  rw [if_neg (by rw [hlen2]; simp; omega), hlen2, show IntKind.i64.wrap (((l.length + 1 : Nat) : Int) - 1) = ((l.length : Nat) : Int) from by rw [zjn (by omega)]; omega, zbr (by rw [hlen2]; omega), Option.bind_some, zkj _ hne, List.getLast_eq_getElem]
  have hx : (a :: l)[(a :: l).length - 1] = (a :: l)[l.length] := rfl
  rw [hx]
  have hm : (a :: l)[l.length] ∈ a :: l := List.getElem_mem _
  generalize (a :: l)[l.length] = s at hm
  have hz := zhs hm
  have he := zeZ s
  rw [zpo]
  by_cases h10 : ((s.Kind.toNat : Int) == 10) = true
  ·rw [if_pos h10, h10]
   rfl
  rw [if_neg h10]
  rw [Bool.not_eq_true] at h10
  rw [h10, Bool.false_or]
  by_cases h6 : ((s.Kind.toNat : Int) == 6) = true
  ·rw [if_pos h6, h6, zjH n s.Body (by omega) (by omega), zjH n s.Else (by omega) (by omega), Option.bind_some, Option.bind_some]
   cases rL s.Body <;> rfl
  ·rw [if_neg h6]
   rw [Bool.not_eq_true] at h6
   rw [h6]
   rfl
theorem zpB {l : List Stm} (h : zu l ≤ 1000000000) : zg5 l = some (rL l) := zjH big l (zbA (by omega)) h
def twL (pre : List BA) : List BA → Bool
 | [] => false
 | x :: l => pre.any (fun y => zP x y) || twL (pre ++ [x]) l
theorem zp2 {l : List BA} (hl : l.length ≤ 1000000000) : ∀ n k, k ≤ l.length → l.length - k < n → zeW l n (k : Int) = some (twL (l.take k) (l.drop k)) := by
 intro n
 induction n with
 | zero => intro k _ h; omega
 | succ n ih =>
  intro k hk hn
  show zf9 (zeW l n) l (k : Int) = _
  unfold zf9
  by_cases h : k < l.length
  ·rw [if_pos (zbw (by omega)), zbr h, Option.bind_some, show (0 : Int) = ((0 : Nat) : Int) from rfl, zmi (by omega) hk, Option.bind_some, List.drop_zero, zmG (by simp; omega), Option.bind_some, zbU (by omega), ih (k + 1) (by omega) (by omega), List.drop_eq_getElem_cons h, List.take_succ_eq_append_getElem h]
   show _ = some ((l.take k).any (fun y => zP l[k] y) || twL (l.take k ++ [l[k]]) (l.drop (k + 1)))
   cases (l.take k).any (fun y => zP l[k] y) <;> rfl
  ·rw [if_neg (by simp; omega), List.drop_of_length_le (by omega)]
   rfl
def twc (l : List BA) : Bool := twL [] l
theorem zj5 {l : List BA} (hl : l.length ≤ 1000000000) : zgv l = some (twc l) := zp2 hl big 0 (by omega) (zbA (by omega))
def kPs (c : Ck) : List zbM → List zI → List Int → List BA → Bool → Er (List zI × List Int × Bool)
 | [], vs, sc, _, fine => .ok (vs, sc, fine)
 | x :: l, vs, sc, ns, fine => eb (ck (knw c x.Type_ && !(twc (ns ++ [x.Name]))) 8) fun _ => kPs c l (vs ++ [⟨x.Name, x.Type_, 1, []⟩]) (sc ++ [(sc.length : Int)]) (ns ++ [x.Name]) (fine && sca x.Type_)
def zca (c : Ck) (i : Int) (vs : List zI) (sc : List Int) : Ck := ⟨c.prog, c.tree, i, vs, sc⟩
def zf3 (c : Ck) (b : zM) : Ck := ⟨c.prog, ⟨c.tree.Bodies ++ [b], c.tree.Main, c.tree.Points⟩, c.fn, c.vars, c.scope⟩
def kBd (c : Ck) (i : Nat) (d : zG) : Er Ck :=
 eb (ck (fo (zb5 c d.Name) == (i : Int)) 8) fun _ =>
 eb (kPs c d.Params [] [] [] (decide ((d.Params.length : Int) ≤ 6) && (((d.Result.Kind.toNat : Int) == 0) || sca d.Result))) fun v =>
 eb (ck (knw c d.Result) 8) fun _ => eb (ck v.2.2 9) fun _ =>
 eb (kL d.Body (zca c i v.1 v.2.1)) fun r =>
 eb (ck (!((d.Result.Kind.toNat : Int) != 0) || rL d.Body) 10) fun _ =>
 .ok (zf3 r.2 ⟨d.Name, (d.Params.length : Int), ((d.Result.Kind.toNat : Int) != 0), r.2.vars, r.1⟩)
def RB (G : Option (Except (Value × Ck) Ck)) (r : Er Ck) : Prop := match r with
 | .error e => ∃ c', G = some (.error (pe e, c'))
 | .ok x => G = some (.ok x)
theorem zg4 {G : Option (Except (Value × Ck) Ck)} {b : Bool} {e : Int} {f : Unit → Er Ck} (he : ¬ b = true → ∃ c', G = some (.error (pe e, c'))) (ho : b = true → RB G (f ())) : RB G (eb (ck b e) f) := by
 by_cases hb : b = true
 ·rw [ckT hb]
  exact ho hb
 ·rw [ckF hb]
  exact he hb
theorem zpI {c : Ck} {i : Nat} {d : zG} (hi : i < c.prog.Funcs.length) (hd : c.prog.Funcs[i] = d) (hst : c.prog.Structs.length ≤ 1000000000) (hsf : ∀ s ∈ c.prog.Structs, s.Fields.length ≤ 1000000000)
  (hfu : c.prog.Funcs.length ≤ 1000000000) (hfp : ∀ d ∈ c.prog.Funcs, d.Params.length ≤ 100000000) (hbo : c.tree.Bodies.length ≤ 1000000000) (hsz : zu d.Body ≤ 100000000) (hpt : c.tree.Points.length + 2 * zu d.Body ≤ 1000000000) :
  ∀ (n k : Nat) (vs : List zI) (sc : List Int) (ns : List BA) (fine : Bool), k ≤ d.Params.length → d.Params.length - k < n → vs.length = k → sc.length = k → ns.length = k → (∀ v ∈ vs, v.Fields = []) →
   RB (zfb c (i : Int) d n c.tree.Bodies c.tree.Points vs sc ns fine (k : Int))
    (eb (kPs c (d.Params.drop k) vs sc ns fine) fun v => eb (ck (knw c d.Result) 8) fun _ => eb (ck v.2.2 9) fun _ => eb (kL d.Body (zca c i v.1 v.2.1)) fun r =>
     eb (ck (!((d.Result.Kind.toNat : Int) != 0) || rL d.Body) 10) fun _ => .ok (zf3 r.2 ⟨d.Name, (d.Params.length : Int), ((d.Result.Kind.toNat : Int) != 0), r.2.vars, r.1⟩)) := by
 have hdm : d ∈ c.prog.Funcs := hd ▸ List.getElem_mem hi
 have hdp := hfp d hdm
 intro n
 induction n with
 | zero => intro k _ _ _ _ _ h; omega
 | succ n ih =>
  intro k vs sc ns fine hk hn hv hs hns hvf
  show RB (zfD (zfb c (i : Int) d n) c (i : Int) d c.tree.Bodies c.tree.Points vs sc ns fine (k : Int)) _
  unfold zfD
  have kn : ∀ t, zc8 (zca c (i : Int) vs sc) t = some (knw c t) := fun t => zkx (c := zca c (i : Int) vs sc) (by show c.prog.Structs.length ≤ _; omega)
  by_cases h : k < d.Params.length
  ·rw [if_pos (zbw (by omega)), zbr h, Option.bind_some, zco (by omega), Option.bind_some, List.drop_eq_getElem_cons h]
   show RB ((zc8 (zca c (i : Int) vs sc) d.Params[k].Type_).bind _) (eb (eb (ck (knw c d.Params[k].Type_ && !(twc (ns ++ [d.Params[k].Name]))) 8) _) _)
   rw [kn, Option.bind_some, zj5 (by simp; omega)]
   rw [show ((if knw c d.Params[k].Type_ = true then (some (twc (ns ++ [d.Params[k].Name]))).bind fun c471 => some (!c471) else some false)) = some (knw c d.Params[k].Type_ && !(twc (ns ++ [d.Params[k].Name]))) from by cases knw c d.Params[k].Type_ <;> rfl]
   rw [Option.bind_some]
   by_cases hb : (knw c d.Params[k].Type_ && !(twc (ns ++ [d.Params[k].Name]))) = true
   ·rw [zb3 hb, ckT hb]
    show RB (((if fine = true then (zc3 d.Params[k].Type_).bind fun c488 => some c488 else some false)).bind _) (eb (kPs c (d.Params.drop (k + 1)) (vs ++ [⟨d.Params[k].Name, d.Params[k].Type_, 1, []⟩]) (sc ++ [(sc.length : Int)]) (ns ++ [d.Params[k].Name]) (fine && sca d.Params[k].Type_)) _)
    rw [show ((if fine = true then (zc3 d.Params[k].Type_).bind fun c488 => some c488 else some false)) = some (fine && sca d.Params[k].Type_) from by cases fine <;> rfl]
    rw [Option.bind_some, zco (by show vs.length + 1 ≤ _; omega), Option.bind_some, zco (by omega), Option.bind_some, zbU (by omega), hs]
    exact ih (k + 1) (vs ++ [⟨d.Params[k].Name, d.Params[k].Type_, 1, []⟩]) (sc ++ [(k : Int)]) (ns ++ [d.Params[k].Name]) (fine && sca d.Params[k].Type_) (by omega) (by omega) (by simp [hv]) (by simp [hs]) (by simp [hns]) (fun v hm => by
     rw [List.mem_append, List.mem_singleton] at hm
     cases hm with
     | inl hm => exact hvf v hm
     | inr hm => rw [hm])
   ·rw [zcd hb, ckF hb]
    exact ⟨_, rfl⟩
  ·rw [if_neg (by simp; omega), List.drop_of_length_le (by omega)]
   show RB ((zc8 (zca c (i : Int) vs sc) d.Result).bind _) (eb (ck (knw c d.Result) 8) _)
   rw [kn, Option.bind_some]
   refine zg4 (fun hb => ⟨_, by rw [zcd hb]; rfl⟩) fun hb => ?_
   rw [zb3 hb]
   refine zg4 (fun hb => ⟨zca c (i : Int) vs sc, by rw [show zbx fine 9 = _ from zcd hb]; rfl⟩) fun hb => ?_
   rw [show zbx fine 9 = _ from zb3 hb]
   have hB : Bs (2 * zu d.Body) (zca c (i : Int) vs sc) := ⟨hpt, by show vs.length + _ ≤ _; omega, by show sc.length + _ ≤ _; omega, fun k => by
    unfold vf zca
    dsimp only
    cases e : vs[k]? with
    | none => exact Nat.zero_le _
    | some v =>
     obtain ⟨hk, rfl⟩ := List.getElem?_eq_some_iff.1 e
     dsimp only
     rw [hvf _ (List.getElem_mem hk)]
     exact Nat.zero_le _, hst, hsf, hfu, fun d hd => by have := hfp d hd; omega, by show (zs c.prog.Funcs (i : Int)).isSome = true; rw [zbr hi]; rfl⟩
   have hL := zpL hsz hB
   show RB (zJ (zfK (zca c (i : Int) vs sc) d.Body) _ _) (eb (kL d.Body (zca c (i : Int) vs sc)) _)
   cases e : kL d.Body (zca c (i : Int) vs sc) with
   | error e' =>
    rw [e] at hL
    obtain ⟨c', h1, _⟩ := hL
    exact ⟨c', by rw [h1]; rfl⟩
   | ok r =>
    rw [e] at hL
    rw [show zfK (zca c (i : Int) vs sc) d.Body = some (.ok (r.1, r.2)) from hL]
    have g := zhH e
    show RB (((if (!((d.Result.Kind.toNat : Int) != 0)) = true then some true else (zg5 d.Body).bind fun c606 => some c606)).bind _) (eb (ck (!((d.Result.Kind.toNat : Int) != 0) || rL d.Body) 10) _)
    rw [zpB (by omega), show ((if (!((d.Result.Kind.toNat : Int) != 0)) = true then some true else (some (rL d.Body)).bind fun c606 => some c606)) = some (!((d.Result.Kind.toNat : Int) != 0) || rL d.Body) from by cases (!((d.Result.Kind.toNat : Int) != 0)) <;> rfl, Option.bind_some]
    refine zg4 (fun hb => ⟨r.2, by rw [zcd hb]; rfl⟩) fun hb => ?_
    rw [zb3 hb]
    show RB ((room (r.2.tree.Bodies.length + 1)).bind _) _
    rw [zco (by rw [g.bod]; show c.tree.Bodies.length + 1 ≤ _; omega)]
    rfl
theorem zp9 {c : Ck} {i : Nat} (hi : i < c.prog.Funcs.length) (hst : c.prog.Structs.length ≤ 1000000000) (hsf : ∀ s ∈ c.prog.Structs, s.Fields.length ≤ 1000000000)
  (hfu : c.prog.Funcs.length ≤ 1000000000) (hfp : ∀ d ∈ c.prog.Funcs, d.Params.length ≤ 100000000) (hbo : c.tree.Bodies.length ≤ 1000000000) (hsz : zu c.prog.Funcs[i].Body ≤ 100000000) (hpt : c.tree.Points.length + 2 * zu c.prog.Funcs[i].Body ≤ 1000000000) :
  RB (zdw c (i : Int)) (kBd c i c.prog.Funcs[i]) := by
 unfold zdw kBd
 rw [zbr hi, Option.bind_some, zj8 (by omega), Option.bind_some]
 refine zg4 (fun hb => ⟨_, by rw [zcd hb]; rfl⟩) fun hb => ?_
 rw [zb3 hb]
 show RB (((if (decide ((c.prog.Funcs[i].Params.length : Int) ≤ 6)) = true then (if ((c.prog.Funcs[i].Result.Kind.toNat : Int) == 0) = true then some true else (zc3 c.prog.Funcs[i].Result).bind fun c33 => some c33) else some false)).bind _) _
 rw [show ((if (decide ((c.prog.Funcs[i].Params.length : Int) ≤ 6)) = true then (if ((c.prog.Funcs[i].Result.Kind.toNat : Int) == 0) = true then some true else (zc3 c.prog.Funcs[i].Result).bind fun c33 => some c33) else some false)) = some (decide ((c.prog.Funcs[i].Params.length : Int) ≤ 6) && (((c.prog.Funcs[i].Result.Kind.toNat : Int) == 0) || sca c.prog.Funcs[i].Result)) from by
  cases decide ((c.prog.Funcs[i].Params.length : Int) ≤ 6) <;> cases ((c.prog.Funcs[i].Result.Kind.toNat : Int) == 0) <;> rfl, Option.bind_some]
 exact zpI hi rfl hst hsf hfu hfp hbo hsz hpt big 0 [] [] [] _ (by omega) (zbA (by have := hfp _ (List.getElem_mem hi); omega)) rfl rfl rfl (fun v h => by cases h)
def kSt (c : Ck) (i : Nat) (s : zbh) : Er Unit :=
 eb (ck ((fo (zcF c s.Name) == (i : Int)) && !(twc s.Fields)) 8) fun _ => ck (decide ((s.Fields.length : Int) ≥ 1) && decide ((s.Fields.length : Int) ≤ 8)) 9
theorem zok {c : Ck} {i : Nat} (hi : i < c.prog.Structs.length) (hst : c.prog.Structs.length ≤ 1000000000) (hsf : ∀ s ∈ c.prog.Structs, s.Fields.length ≤ 1000000000) :
  zdB c (i : Int) = tU (kSt c i c.prog.Structs[i]) := by
 unfold zdB kSt
 rw [zbr hi, Option.bind_some, show zgL c.prog.Structs c.prog.Structs[i] = some (fo (zcF c c.prog.Structs[i].Name)) from ixB (l := c.prog.Structs) (p := fun v : zbh => zP v.Name c.prog.Structs[i].Name) (by omega) fun _ _ => rfl, Option.bind_some, zj5 (hsf _ (List.getElem_mem hi))]
 rw [show ((if (fo (zcF c c.prog.Structs[i].Name) == (i : Int)) = true then (some (twc c.prog.Structs[i].Fields)).bind fun c22 => some (!c22) else some false)) = some ((fo (zcF c c.prog.Structs[i].Name) == (i : Int)) && !(twc c.prog.Structs[i].Fields)) from by cases (fo (zcF c c.prog.Structs[i].Name) == (i : Int)) <;> rfl, Option.bind_some]
 by_cases hb : ((fo (zcF c c.prog.Structs[i].Name) == (i : Int)) && !(twc c.prog.Structs[i].Fields)) = true
 ·rw [zb3 hb, ckT hb]
  show ((if (decide ((c.prog.Structs[i].Fields.length : Int) ≥ 1)) = true then some (decide ((c.prog.Structs[i].Fields.length : Int) ≤ 8)) else some false)).bind _ = _
  rw [show ((if (decide ((c.prog.Structs[i].Fields.length : Int) ≥ 1)) = true then some (decide ((c.prog.Structs[i].Fields.length : Int) ≤ 8)) else some false)) = some (decide ((c.prog.Structs[i].Fields.length : Int) ≥ 1) && decide ((c.prog.Structs[i].Fields.length : Int) ≤ 8)) from by cases decide ((c.prog.Structs[i].Fields.length : Int) ≥ 1) <;> rfl, Option.bind_some]
  by_cases h2 : (decide ((c.prog.Structs[i].Fields.length : Int) ≥ 1) && decide ((c.prog.Structs[i].Fields.length : Int) ≤ 8)) = true
  ·rw [zb3 h2]
   show _ = tU (ck _ 9)
   rw [ckT h2]
   rfl
  ·rw [zcd h2]
   show _ = tU (ck _ 9)
   rw [ckF h2]
   rfl
 ·rw [zcd hb, ckF hb]
  rfl
def Nz {α : Type} (r : Er α) : Prop := ∀ e, r = .error e → e = 8 ∨ e = 9 ∨ e = 10
theorem zby {α : Type} (a : α) : Nz (.ok a : Er α) := fun e h => by cases h
theorem zbf {α β : Type} {r : Er α} {f : α → Er β} (h : Nz r) (hf : ∀ a, Nz (f a)) : Nz (eb r f) := by
 cases r with
 | error e => exact fun e' h' => h e' (by injection h' with h'; rw [h'])
 | ok a => exact hf a
theorem zb7 {b : Bool} {e : Int} (h : e = 8 ∨ e = 9 ∨ e = 10) : Nz (ck b e) := by
 unfold ck
 split
 ·exact zby _
 ·exact fun e' h' => by injection h' with h'; rw [← h']; exact h
theorem zfw {α : Type} {e : Int} (h : e = 8 ∨ e = 9 ∨ e = 10) : Nz (.error e : Er α) := fun e' h' => by injection h' with h'; rw [← h']; exact h
theorem ziB (c : Ck) (nm : BA) : Nz (fnd c nm) := by
 unfold fnd
 split
 ·exact zfw (.inl rfl)
 split
 ·exact zby _
 ·exact zfw (.inl rfl)
theorem zkY (c : Ck) (k : Nat) (nm : BA) : Nz (zdG c k nm) := by
 unfold zdG
 split
 ·exact zfw (.inl rfl)
 ·exact zby _
theorem zjW {r : Er Vks} (h : Nz r) (want : List UInt8) : Nz (vw r want) := zbf h fun _ => zbf (zb7 (.inr (.inl rfl))) fun _ => zby _
theorem zpG {c : Ck} {kd : UInt8} {nu : Int} {nm fd op : BA} {r : Er Vks} (h : Nz r) : Nz (kx c kd nu nm fd op r) := by
 unfold kx
 split
 ·exact zby _
 split
 ·exact zby _
 split
 ·refine zbf (ziB c nm) fun k => ?_
  split
  ·exact zbf (zb7 (.inr (.inl rfl))) fun _ => zby _
  split
  ·exact zbf (zb7 (.inr (.inl rfl))) fun _ => zbf (zkY c k fd) fun _ => zby _
  ·exact zbf (zb7 (.inr (.inl rfl))) fun _ => zbf (zjW h _) fun _ => zby _
 split
 ·exact zbf (zjW h _) fun _ => zbf (zb7 (.inr (.inl rfl))) fun _ => zby _
 ·exact zbf h fun _ => zbf (zb7 (.inr (.inl rfl))) fun _ => zby _
mutual
theorem zo6 (c : Ck) : ∀ x : zc, Nz (kE c x)
 | ⟨_, _, _, _, _, ks⟩ => zpG (zjd c ks)
theorem zjd (c : Ck) : ∀ l : List zc, Nz (kEs c l)
 | [] => zby _
 | x :: l => zbf (zo6 c x) fun _ => zbf (zjd c l) fun _ => zby _
end
theorem zcX (c : Ck) (l : List zc) (want : List UInt8) : Nz (kvs c l want) := zjW (zjd c l) want
theorem zqE {c : Ck} {p : Int} {kd : UInt8} {nm : BA} {ty : zz} {ks : List zc} : Nz (kva c p kd nm ty ks) := by
 refine zbf (zb7 (.inl rfl)) fun _ => ?_
 split
 ·exact zbf (zb7 (.inr (.inl rfl))) fun _ => zbf (zcX _ _ _) fun _ => zby _
 split
 ·exact zbf (zcX _ _ _) fun _ => zby _
 ·exact zbf (zcX _ _ _) fun _ => zby _
theorem zoy {c : Ck} {p : Int} {kd : UInt8} {nm fd : BA} {ks : List zc} : Nz (kas c p kd nm fd ks) := by
 refine zbf (ziB c nm) fun k => ?_
 split
 ·exact zbf (zb7 (.inr (.inl rfl))) fun _ => zbf (zcX _ _ _) fun _ => zby _
 split
 ·exact zbf (zb7 (.inr (.inl rfl))) fun _ => zbf (zcX _ _ _) fun _ => zby _
 split
 ·exact zbf (zb7 (.inr (.inl rfl))) fun _ => zbf (zcX _ _ _) fun _ => zby _
 split
 ·exact zbf (zb7 (.inr (.inl rfl))) fun _ => zbf (zkY _ _ _) fun _ => zbf (zcX _ _ _) fun _ => zby _
 ·exact zby _
theorem znv {c : Ck} {p : Int} {kd : UInt8} {nm ca : BA} {ks : List zc} : Nz (kca c p kd nm ca ks) := by
 refine zbf ?_ fun v => ?_
 ·unfold kcv
  split
  ·exact zbf (ziB c nm) fun _ => zbf (zb7 (.inr (.inl rfl))) fun _ => zby _
  ·exact zby _
 split
 ·exact zfw (.inl rfl)
 split
 ·exact zfw (.inl rfl)
 ·exact zbf (zcX _ _ _) fun _ => zbf (zb7 (.inr (.inl rfl))) fun _ => zby _
theorem zoM {c : Ck} {p : Int} {kd : UInt8} {nm fd ca : BA} {ty : zz} {ks : List zc} {B E : Bl} (hB : ∀ d, Nz (B d)) (hE : ∀ d, Nz (E d)) : Nz (ksm c p kd nm fd ca ty ks B E) := by
 unfold ksm
 split
 ·exact zqE
 split
 ·exact zoy
 split
 ·exact znv
 split
 ·exact zbf (zcX _ _ _) fun _ => zbf (hB _) fun _ => zbf (hE _) fun _ => zby _
 split
 ·exact zbf (zcX _ _ _) fun _ => zbf (hB _) fun _ => zby _
 split
 ·exact zbf (zcX _ _ _) fun _ => zby _
 split
 ·exact zbf (zcX _ _ _) fun _ => zby _
 ·exact zbf (zcX _ _ _) fun _ => zfw (.inr (.inl rfl))
mutual
theorem zot : ∀ (s : Stm) (c : Ck), Nz (kS s c)
 | ⟨kd, ln, nm, fd, ca, ty, ks, b, e⟩, c => by
  show Nz (ksm (zbv c ln) (c.tree.Points.length : Int) kd nm fd ca ty ks (fun d => eb (kSs b d) fun r => .ok (r.1, zbK r.2 d.scope.length)) (fun d => eb (kSs e d) fun r => .ok (r.1, zbK r.2 d.scope.length)))
  exact zoM (fun d => zbf (zhz b d) fun _ => zby _) (fun d => zbf (zhz e d) fun _ => zby _)
theorem zhz : ∀ (l : List Stm) (c : Ck), Nz (kSs l c)
 | [], c => zby _
 | s :: l, c => zbf (zot s c) fun r => zbf (zhz l r.2) fun _ => zby _
end
theorem znI (l : List Stm) (c : Ck) : Nz (kL l c) := zbf (zhz l c) fun _ => zby _
theorem zkz (c : Ck) : ∀ (l : List zbM) (vs : List zI) (sc : List Int) (ns : List BA) (f : Bool), Nz (kPs c l vs sc ns f)
 | [], _, _, _, _ => zby _
 | x :: l, _, _, _, _ => zbf (zb7 (.inl rfl)) fun _ => zkz c l _ _ _ _
theorem zoE (c : Ck) (i : Nat) (d : zG) : Nz (kBd c i d) :=
 zbf (zb7 (.inl rfl)) fun _ => zbf (zkz _ _ _ _ _ _) fun _ => zbf (zb7 (.inl rfl)) fun _ => zbf (zb7 (.inr (.inl rfl))) fun _ => zbf (znI _ _) fun _ => zbf (zb7 (.inr (.inr rfl))) fun _ => zby _
theorem zo8 (c : Ck) (i : Nat) (s : zbh) : Nz (kSt c i s) := zbf (zb7 (.inl rfl)) fun _ => zb7 (.inr (.inl rfl))
end Go.Proofs.Ytakcaekikfcbpaa
