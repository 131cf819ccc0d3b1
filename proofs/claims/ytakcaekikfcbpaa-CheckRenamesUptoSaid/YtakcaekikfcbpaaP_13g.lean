import Derived.Test.YtakcaekikfcbpaaP_13e
import Derived.KernelRfl
namespace Go.Proofs.Ytakcaekikfcbpaa
open Go.Ab Go.RowKit
set_option linter.unusedVariables false
set_option linter.unusedSimpArgs false
def szF : List zbh → Nat
 | [] => 0
 | s :: l => s.Fields.length + szF l
def szG : List zG → Nat
 | [] => 0
 | d :: l => d.Params.length + zu d.Body + szG l
def szP (p : zm) : Nat := p.Structs.length + p.Funcs.length + szF p.Structs + szG p.Funcs
def szK : List zc → Nat
 | [] => 0
 | e :: l => z3 e.Kids + szK l
theorem zlB : ∀ l : List zc, z3 l = l.length + szK l
 | [] => rfl
 | e :: l => by
  have := zlB l
  have := zgP e
  show szE e + z3 l = l.length + 1 + (z3 e.Kids + szK l)
  omega
def szT : List Stm → Nat
 | [] => 0
 | s :: l => z3 s.Kids + zu s.Body + zu s.Else + szT l
theorem zlc : ∀ l : List Stm, zu l = l.length + szT l
 | [] => rfl
 | e :: l => by
  have := zlc l
  have := ze5 e
  show szS e + zu l = l.length + 1 + (z3 e.Kids + zu e.Body + zu e.Else + szT l)
  omega
theorem zjS {l : List zc} {x : zc} (h : x ∈ l) : z3 x.Kids < z3 l := by
 have := zgG h
 have := zgP x
 omega
theorem zeG {l : List Stm} {x : Stm} (h : x ∈ l) : z3 x.Kids + zu x.Body + zu x.Else < zu l := by
 have := zhK h
 have := ze5 x
 omega
theorem zmO {R : List zc → Option Int} {l : List zc} (hl : l.length ≤ 1000000000) (hR : ∀ x ∈ l, R x.Kids = some (z3 x.Kids : Int)) : ∀ (n k m : Nat), k ≤ l.length → l.length - k < n → m + szK (l.drop k) ≤ 1000000000 → zey R l n (m : Int) (k : Int) = some ((m + szK (l.drop k) : Nat) : Int) := by
 intro n
 induction n with
 | zero => intro k m _ h; omega
 | succ n ih =>
  intro k m hk hn hm
  show zfU (zey R l n) R l (m : Int) (k : Int) = _
  unfold zfU
  by_cases h : k < l.length
  ·rw [List.drop_eq_getElem_cons h] at hm ⊢
   have hm : m + (z3 l[k].Kids + szK (l.drop (k + 1))) ≤ 1000000000 := hm
   rw [if_pos (zbx (by omega)), zbs h, Option.bind_some, hR _ (List.getElem_mem h), Option.bind_some, zdL (by omega), zbU (by omega), ih (k + 1) _ (by omega) (by omega) (by omega)]
   show _ = some ((m + (z3 l[k].Kids + szK (l.drop (k + 1))) : Nat) : Int)
   rw [Nat.add_assoc]
  ·rw [if_neg (by simp; omega), List.drop_of_length_le (by omega)]
   rfl
theorem zl4 : ∀ (n : Nat) (l : List zc), z3 l < n → z3 l ≤ 1000000000 → zdt n l = some ((z3 l : Nat) : Int)
 | 0, l, h, _ => by omega
 | n + 1, l, h, hl => by
  have hs := zlB l
  show zey (zdt n) l big (l.length : Int) 0 = _
  have := zmO (R := zdt n) (l := l) (by omega) (fun x hx => zl4 n x.Kids (by have := zjS hx; omega) (by have := zjS hx; omega)) big 0 l.length (by omega) (zbA (by omega)) (by rw [List.drop_zero]; omega)
  refine this.trans ?_
  rw [List.drop_zero, hs]
theorem zn3 {l : List zc} (h : z3 l ≤ 1000000000) : zii l = some ((z3 l : Nat) : Int) := zl4 big l (zbA (by omega)) h
theorem zoA {R : List Stm → Option Int} {l : List Stm} (hl : zu l ≤ 1000000000) (hR : ∀ x ∈ l, R x.Body = some (zu x.Body : Int) ∧ R x.Else = some (zu x.Else : Int)) : ∀ (n k m : Nat), k ≤ l.length → l.length - k < n → m + szT (l.drop k) ≤ 1000000000 → zeb R l n (m : Int) (k : Int) = some ((m + szT (l.drop k) : Nat) : Int) := by
 have hlen := zeH l
 intro n
 induction n with
 | zero => intro k m _ h; omega
 | succ n ih =>
  intro k m hk hn hm
  show zgw (zeb R l n) R l (m : Int) (k : Int) = _
  unfold zgw
  by_cases h : k < l.length
  ·have hx := zeG (List.getElem_mem h)
   rw [List.drop_eq_getElem_cons h] at hm ⊢
   have hm : m + (z3 l[k].Kids + zu l[k].Body + zu l[k].Else + szT (l.drop (k + 1))) ≤ 1000000000 := hm
   obtain ⟨h1, h2⟩ := hR _ (List.getElem_mem h)
   rw [if_pos (zbx (by omega)), zbs h]
   simp only [Option.bind_some]
   rw [zn3 (by omega), Option.bind_some, h1, Option.bind_some, h2, Option.bind_some, zdL (by omega), zdL (by omega), zdL (by omega), zbU (by omega), ih (k + 1) _ (by omega) (by omega) (by omega)]
   show _ = some ((m + (z3 l[k].Kids + zu l[k].Body + zu l[k].Else + szT (l.drop (k + 1))) : Nat) : Int)
   congr 2; omega
  ·rw [if_neg (by simp; omega), List.drop_of_length_le (by omega)]
   rfl
theorem zil : ∀ (n : Nat) (l : List Stm), zu l < n → zu l ≤ 1000000000 → zdk n l = some ((zu l : Nat) : Int)
 | 0, l, h, _ => by omega
 | n + 1, l, h, hl => by
  have hs := zlc l
  show zeb (zdk n) l big (l.length : Int) 0 = _
  have := zoA (R := zdk n) (l := l) hl (fun x hx => ⟨zil n x.Body (by have := zeG hx; omega) (by have := zeG hx; omega), zil n x.Else (by have := zeG hx; omega) (by have := zeG hx; omega)⟩) big 0 l.length (by omega) (zbA (by omega)) (by rw [List.drop_zero]; omega)
  refine this.trans ?_
  rw [List.drop_zero, hs]
theorem zpF {l : List Stm} (h : zu l ≤ 1000000000) : ziD l = some ((zu l : Nat) : Int) := zil big l (zbA (by omega)) h
theorem zkG {l : List zG} {d : zG} (h : d ∈ l) : d.Params.length + zu d.Body ≤ szG l := by
 induction l with
 | nil => cases h
 | cons e l ih =>
  show _ ≤ e.Params.length + zu e.Body + szG l
  cases h with
  | head => omega
  | tail _ h => have := ih h; omega
theorem zoY {l : List zbh} {d : zbh} (h : d ∈ l) : d.Fields.length ≤ szF l := by
 induction l with
 | nil => cases h
 | cons e l ih =>
  show _ ≤ e.Fields.length + szF l
  cases h with
  | head => omega
  | tail _ h => have := ih h; omega
theorem zj5 : ∀ l : List zG, szD l ≤ szG l
 | [] => Nat.le_refl _
 | d :: l => by
  have := zj5 l
  show zu d.Body + szD l ≤ d.Params.length + zu d.Body + szG l
  omega
theorem znu {p : zm} (hp : szP p ≤ 1000000000) : ∀ (n k m : Nat), k ≤ p.Funcs.length → p.Funcs.length - k < n → m + szG (p.Funcs.drop k) ≤ 1000000000 → zeU p n (m : Int) (k : Int) = some ((m + szG (p.Funcs.drop k) : Nat) : Int) := by
 unfold szP at hp
 intro n
 induction n with
 | zero => intro k m _ h; omega
 | succ n ih =>
  intro k m hk hn hm
  show zgC (zeU p n) p (m : Int) (k : Int) = _
  unfold zgC
  by_cases h : k < p.Funcs.length
  ·have hx := zkG (List.getElem_mem h)
   rw [List.drop_eq_getElem_cons h] at hm ⊢
   have hm : m + (p.Funcs[k].Params.length + zu p.Funcs[k].Body + szG (p.Funcs.drop (k + 1))) ≤ 1000000000 := hm
   rw [if_pos (zbx (by omega)), zbs h]
   simp only [Option.bind_some]
   rw [zpF (by omega), Option.bind_some, zdL (by omega), zdL (by omega), zbU (by omega), ih (k + 1) _ (by omega) (by omega) (by omega)]
   show _ = some ((m + (p.Funcs[k].Params.length + zu p.Funcs[k].Body + szG (p.Funcs.drop (k + 1))) : Nat) : Int)
   congr 2; omega
  ·rw [if_neg (by simp; omega), List.drop_of_length_le (by omega)]
   rfl
theorem zqb {p : zm} (hp : szP p ≤ 1000000000) : ∀ (n k m : Nat), k ≤ p.Structs.length → p.Structs.length - k < n → m + szF (p.Structs.drop k) + szG p.Funcs ≤ 1000000000 → zeS p n (m : Int) (k : Int) = some ((m + szF (p.Structs.drop k) + szG p.Funcs : Nat) : Int) := by
 have hp' := hp
 unfold szP at hp'
 intro n
 induction n with
 | zero => intro k m _ h; omega
 | succ n ih =>
  intro k m hk hn hm
  show zfX (zeS p n) p (m : Int) (k : Int) = _
  unfold zfX
  by_cases h : k < p.Structs.length
  ·rw [List.drop_eq_getElem_cons h] at hm ⊢
   have hm : m + (p.Structs[k].Fields.length + szF (p.Structs.drop (k + 1))) + szG p.Funcs ≤ 1000000000 := hm
   rw [if_pos (zbx (by omega)), zbs h, Option.bind_some, zdL (by omega), zbU (by omega), ih (k + 1) _ (by omega) (by omega) (by omega)]
   show _ = some ((m + (p.Structs[k].Fields.length + szF (p.Structs.drop (k + 1))) + szG p.Funcs : Nat) : Int)
   congr 2; omega
  ·rw [if_neg (by simp; omega), List.drop_of_length_le (by omega)]
   have := znu hp big 0 m (by omega) (zbA (by omega)) (by rw [List.drop_zero]; omega)
   rw [List.drop_zero] at this
   exact this
theorem znZ {p : zm} (hp : szP p ≤ 1000000000) : zfT p = some ((szP p : Nat) : Int) := by
 have hp' := hp
 unfold szP at hp'
 unfold zfT
 rw [zdL (by omega)]
 have := zqb hp big 0 (p.Structs.length + p.Funcs.length) (by omega) (zbA (by omega)) (by rw [List.drop_zero]; omega)
 rw [List.drop_zero] at this
 exact this
theorem zmd {p : zm} (hp : szP p ≤ 100000) : Bp p := by
 unfold szP at hp
 have := zj5 p.Funcs
 exact ⟨by omega, fun s hs => by have := zoY hs; omega, by omega, fun d hd => by have := zkG hd; omega, by omega⟩
mutual
def szV : zj → Nat
 | ⟨_, _, _, _, ks⟩ => 1 + zbO ks
def zbO : List zj → Nat
 | [] => 0
 | e :: l => szV e + zbO l
end
mutual
def szA : zh → Nat
 | ⟨_, _, _, _, _, ks, b, e⟩ => 1 + zbO ks + zbE b + zbE e
def zbE : List zh → Nat
 | [] => 0
 | e :: l => szA e + zbE l
end
theorem zis {r : Er Vks} {want : List UInt8} {l : List zj} (h : vw r want = .ok l) : ∃ w, r = .ok w ∧ w.1 = l := by
 obtain ⟨w, h1, h⟩ := zt h
 obtain ⟨_, _, h⟩ := zt h
 injection h with h
 exact ⟨w, h1, h⟩
theorem zny {c : Ck} {kd : UInt8} {nu : Int} {nm fd op : BA} {r : Er Vks} {n : Nat} {v : Vk} (hr : ∀ w, r = .ok w → zbO w.1 ≤ n) (h : kx c kd nu nm fd op r = .ok v) : szV v.1 ≤ 1 + n := by
 unfold kx at h
 split at h
 ·injection h with h
  subst h
  exact Nat.le_add_right 1 n
 split at h
 ·injection h with h
  subst h
  exact Nat.le_add_right 1 n
 split at h
 ·obtain ⟨k, _, h⟩ := zt h
  split at h
  ·obtain ⟨_, _, h⟩ := zt h
   injection h with h
   subst h
   exact Nat.le_add_right 1 n
  split at h
  ·obtain ⟨_, _, h⟩ := zt h
   obtain ⟨_, _, h⟩ := zt h
   injection h with h
   subst h
   exact Nat.le_add_right 1 n
  ·obtain ⟨_, _, h⟩ := zt h
   obtain ⟨l, h1, h⟩ := zt h
   injection h with h
   subst h
   obtain ⟨w, h2, rfl⟩ := zis h1
   exact Nat.add_le_add_left (hr w h2) 1
 split at h
 ·obtain ⟨l, h1, h⟩ := zt h
  obtain ⟨_, _, h⟩ := zt h
  injection h with h
  subst h
  obtain ⟨w, h2, rfl⟩ := zis h1
  exact Nat.add_le_add_left (hr w h2) 1
 ·obtain ⟨w, h1, h⟩ := zt h
  obtain ⟨_, _, h⟩ := zt h
  injection h with h
  subst h
  exact Nat.add_le_add_left (hr w h1) 1
mutual
theorem zmW : ∀ (x : zc) {c : Ck} {v : Vk}, kE c x = .ok v → szV v.1 ≤ szE x
 | ⟨_, _, _, _, _, ks⟩, c, v, h => zny (fun w hw => zjL ks hw) h
theorem zjL : ∀ (l : List zc) {c : Ck} {w : Vks}, kEs c l = .ok w → zbO w.1 ≤ z3 l
 | [], c, w, h => by
  injection h with h
  subst h
  exact Nat.le_refl _
 | x :: l, c, w, h => by
  obtain ⟨v, h1, h⟩ := zt h
  obtain ⟨w', h2, h⟩ := zt h
  injection h with h
  subst h
  exact Nat.add_le_add (zmW x h1) (zjL l h2)
end
theorem zdi {l : List zc} {c : Ck} {want : List UInt8} {v : List zj} (h : kvs c l want = .ok v) : zbO v ≤ z3 l := by
 obtain ⟨w, h1, rfl⟩ := zis h
 exact zjL l h1
theorem zpy {c : Ck} {p : Int} {kd : UInt8} {nm : BA} {ty : zy} {ks : List zc} {r : At3} (h : kva c p kd nm ty ks = .ok r) : szA r.1 ≤ 1 + z3 ks := by
 unfold kva at h
 obtain ⟨_, _, h⟩ := zt h
 split at h
 ·obtain ⟨_, _, h⟩ := zt h
  obtain ⟨_, _, h⟩ := zt h
  injection h with h
  subst h
  exact Nat.le_add_right 1 _
 ·split at h
  ·obtain ⟨_, _, h⟩ := zt h
   injection h with h
   subst h
   exact Nat.le_add_right 1 _
  ·obtain ⟨_, h1, h⟩ := zt h
   injection h with h
   subst h
   exact Nat.add_le_add_left (zdi h1) 1
theorem zms {c : Ck} {p : Int} {kd : UInt8} {nm fd : BA} {ks : List zc} {r : At3} (h : kas c p kd nm fd ks = .ok r) : szA r.1 ≤ 1 + z3 ks := by
 unfold kas at h
 obtain ⟨_, _, h⟩ := zt h
 split at h
 ·obtain ⟨_, _, h⟩ := zt h
  obtain ⟨_, h1, h⟩ := zt h
  injection h with h
  subst h
  exact Nat.add_le_add_left (zdi h1) 1
 split at h
 ·obtain ⟨_, _, h⟩ := zt h
  obtain ⟨_, h1, h⟩ := zt h
  injection h with h
  subst h
  exact Nat.add_le_add_left (zdi h1) 1
 split at h
 ·obtain ⟨_, _, h⟩ := zt h
  obtain ⟨_, h1, h⟩ := zt h
  injection h with h
  subst h
  exact Nat.add_le_add_left (zdi h1) 1
 split at h
 ·obtain ⟨_, _, h⟩ := zt h
  obtain ⟨_, _, h⟩ := zt h
  obtain ⟨_, h1, h⟩ := zt h
  injection h with h
  subst h
  exact Nat.add_le_add_left (zdi h1) 1
 injection h with h
 subst h
 exact Nat.le_add_right 1 _
theorem zpu {c : Ck} {p : Int} {kd : UInt8} {nm ca : BA} {ks : List zc} {r : At3} (h : kca c p kd nm ca ks = .ok r) : szA r.1 ≤ 1 + z3 ks := by
 unfold kca at h
 obtain ⟨_, _, h⟩ := zt h
 split at h
 ·cases h
 split at h
 ·cases h
 obtain ⟨_, h1, h⟩ := zt h
 obtain ⟨_, _, h⟩ := zt h
 injection h with h
 subst h
 exact Nat.add_le_add_left (zdi h1) 1
theorem zmB {c : Ck} {p : Int} {kd : UInt8} {nm fd ca : BA} {ty : zy} {ks : List zc} {B E : Bl} {nb ne : Nat} {r : At3}
  (hB : ∀ {d : Ck} {q : List zh × Ck}, B d = .ok q → zbE q.1 ≤ nb) (hE : ∀ {d : Ck} {q : List zh × Ck}, E d = .ok q → zbE q.1 ≤ ne)
  (h : ksm c p kd nm fd ca ty ks B E = .ok r) : szA r.1 ≤ 1 + z3 ks + nb + ne := by
 unfold ksm at h
 split at h
 ·have := zpy h; omega
 split at h
 ·have := zms h; omega
 split at h
 ·have := zpu h; omega
 split at h
 ·obtain ⟨l, h0, h⟩ := zt h
  obtain ⟨b, h1, h⟩ := zt h
  obtain ⟨e, h2, h⟩ := zt h
  injection h with h
  subst h
  have := zdi h0
  have := hB h1
  have := hE h2
  show 1 + zbO l + zbE b.1 + zbE e.1 ≤ _
  omega
 split at h
 ·obtain ⟨l, h0, h⟩ := zt h
  obtain ⟨b, h1, h⟩ := zt h
  injection h with h
  subst h
  have := zdi h0
  have := hB h1
  show 1 + zbO l + zbE b.1 + 0 ≤ _
  omega
 split at h
 ·obtain ⟨l, h0, h⟩ := zt h
  injection h with h
  subst h
  have := zdi h0
  show 1 + zbO l + 0 + 0 ≤ _
  omega
 split at h
 ·obtain ⟨l, h0, h⟩ := zt h
  injection h with h
  subst h
  have := zdi h0
  show 1 + zbO l + 0 + 0 ≤ _
  omega
 obtain ⟨_, _, h⟩ := zt h
 cases h
mutual
theorem zqz : ∀ (s : Stm) {c : Ck} {r : At3}, kS s c = .ok r → szA r.1 ≤ szS s
 | ⟨kd, ln, nm, fd, ca, ty, ks, b, e⟩, c, r, h => by
  have hB : ∀ {d : Ck} {q : List zh × Ck}, (eb (kSs b d) fun r => .ok (r.1, zbL r.2 d.scope.length)) = .ok q → zbE q.1 ≤ zu b := fun {d q} hq => by
   obtain ⟨x, h1, h2⟩ := zt hq
   injection h2 with h2
   subst h2
   have h3 := zhb b h1
   exact h3
  have hE : ∀ {d : Ck} {q : List zh × Ck}, (eb (kSs e d) fun r => .ok (r.1, zbL r.2 d.scope.length)) = .ok q → zbE q.1 ≤ zu e := fun {d q} hq => by
   obtain ⟨x, h1, h2⟩ := zt hq
   injection h2 with h2
   subst h2
   have h3 := zhb e h1
   exact h3
  exact zmB (B := fun d => eb (kSs b d) fun r => .ok (r.1, zbL r.2 d.scope.length)) (E := fun d => eb (kSs e d) fun r => .ok (r.1, zbL r.2 d.scope.length)) hB hE h
theorem zhb : ∀ (l : List Stm) {c : Ck} {r : List zh × Ck}, kSs l c = .ok r → zbE r.1 ≤ zu l
 | [], c, r, h => by
  injection h with h
  subst h
  exact Nat.le_refl _
 | s :: l, c, r, h => by
  obtain ⟨x, h1, h⟩ := zt h
  obtain ⟨y, h2, h⟩ := zt h
  injection h with h
  subst h
  exact Nat.add_le_add (zqz s h1) (zhb l h2)
end
theorem zmD {l : List Stm} {c : Ck} {r : List zh × Ck} (h : kL l c = .ok r) : zbE r.1 ≤ zu l := by
 obtain ⟨x, h1, h2⟩ := zt h
 injection h2 with h2
 subst h2
 have h3 := zhb l h1
 exact h3
end Go.Proofs.Ytakcaekikfcbpaa
