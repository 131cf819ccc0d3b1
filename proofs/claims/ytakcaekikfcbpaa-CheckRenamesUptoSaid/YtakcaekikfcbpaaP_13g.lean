import Derived.Test.YtakcaekikfcbpaaP_13e
import Derived.KernelRfl
namespace Go.Proofs.Ytakcaekikfcbpaa
open Go.Ab Go.RowKit
set_option linter.unusedVariables false
set_option linter.unusedSimpArgs false
def szF : List zbh → Nat
 | [] => 0
 | s :: l => s.Fields.length + szF l
def szG : List zG → Nat
 | [] => 0
 | d :: l => d.Params.length + zu d.Body + szG l
def szP (p : zm) : Nat := p.Structs.length + p.Funcs.length + szF p.Structs + szG p.Funcs
def szK : List zc → Nat
 | [] => 0
 | e :: l => zZ e.Kids + szK l
theorem zkS : ∀ l : List zc, zZ l = l.length + szK l
 | [] => rfl
 | e :: l => by
  have := zkS l
  have := zhx e
  show szE e + zZ l = l.length + 1 + (zZ e.Kids + szK l)
  omega
def szT : List Stm → Nat
 | [] => 0
 | s :: l => zZ s.Kids + zu s.Body + zu s.Else + szT l
theorem zjY : ∀ l : List Stm, zu l = l.length + szT l
 | [] => rfl
 | e :: l => by
  have := zjY l
  have := zeZ e
  show szS e + zu l = l.length + 1 + (zZ e.Kids + zu e.Body + zu e.Else + szT l)
  omega
theorem zje {l : List zc} {x : zc} (h : x ∈ l) : zZ x.Kids < zZ l := by
 have := zgy h
 have := zhx x
 omega
theorem ze0 {l : List Stm} {x : Stm} (h : x ∈ l) : zZ x.Kids + zu x.Body + zu x.Else < zu l := by
 have := zhs h
 have := zeZ x
 omega
theorem zom {R : List zc → Option Int} {l : List zc} (hl : l.length ≤ 1000000000) (hR : ∀ x ∈ l, R x.Kids = some (zZ x.Kids : Int)) : ∀ (n k m : Nat), k ≤ l.length → l.length - k < n → m + szK (l.drop k) ≤ 1000000000 → zeq R l n (m : Int) (k : Int) = some ((m + szK (l.drop k) : Nat) : Int) := by
 intro n
 induction n with
 | zero => intro k m _ h; omega
 | succ n ih =>
  intro k m hk hn hm
  show zfC (zeq R l n) R l (m : Int) (k : Int) = _
  unfold zfC
  by_cases h : k < l.length
  ·rw [List.drop_eq_getElem_cons h] at hm ⊢
   have hm : m + (zZ l[k].Kids + szK (l.drop (k + 1))) ≤ 1000000000 := hm
   rw [if_pos (zbw (by omega)), zbr h, Option.bind_some, hR _ (List.getElem_mem h), Option.bind_some, zd4 (by omega), zbU (by omega), ih (k + 1) _ (by omega) (by omega) (by omega)]
   show _ = some ((m + (zZ l[k].Kids + szK (l.drop (k + 1))) : Nat) : Int)
   rw [Nat.add_assoc]
  ·rw [if_neg (by simp; omega), List.drop_of_length_le (by omega)]
   rfl
theorem zl5 : ∀ (n : Nat) (l : List zc), zZ l < n → zZ l ≤ 1000000000 → zdu n l = some ((zZ l : Nat) : Int)
 | 0, l, h, _ => by omega
 | n + 1, l, h, hl => by
  have hs := zkS l
  show zeq (zdu n) l big (l.length : Int) 0 = _
  have := zom (R := zdu n) (l := l) (by omega) (fun x hx => zl5 n x.Kids (by have := zje hx; omega) (by have := zje hx; omega)) big 0 l.length (by omega) (zbA (by omega)) (by rw [List.drop_zero]; omega)
  refine this.trans ?_
  rw [List.drop_zero, hs]
theorem zp0 {l : List zc} (h : zZ l ≤ 1000000000) : zi1 l = some ((zZ l : Nat) : Int) := zl5 big l (zbA (by omega)) h
theorem znH {R : List Stm → Option Int} {l : List Stm} (hl : zu l ≤ 1000000000) (hR : ∀ x ∈ l, R x.Body = some (zu x.Body : Int) ∧ R x.Else = some (zu x.Else : Int)) : ∀ (n k m : Nat), k ≤ l.length → l.length - k < n → m + szT (l.drop k) ≤ 1000000000 → zed R l n (m : Int) (k : Int) = some ((m + szT (l.drop k) : Nat) : Int) := by
 have hlen := zff l
 intro n
 induction n with
 | zero => intro k m _ h; omega
 | succ n ih =>
  intro k m hk hn hm
  show zgB (zed R l n) R l (m : Int) (k : Int) = _
  unfold zgB
  by_cases h : k < l.length
  ·have hx := ze0 (List.getElem_mem h)
   rw [List.drop_eq_getElem_cons h] at hm ⊢
   have hm : m + (zZ l[k].Kids + zu l[k].Body + zu l[k].Else + szT (l.drop (k + 1))) ≤ 1000000000 := hm
   obtain ⟨h1, h2⟩ := hR _ (List.getElem_mem h)
   rw [if_pos (zbw (by omega)), zbr h]
   simp only [Option.bind_some]
   rw [zp0 (by omega), Option.bind_some, h1, Option.bind_some, h2, Option.bind_some, zd4 (by omega), zd4 (by omega), zd4 (by omega), zbU (by omega), ih (k + 1) _ (by omega) (by omega) (by omega)]
   show _ = some ((m + (zZ l[k].Kids + zu l[k].Body + zu l[k].Else + szT (l.drop (k + 1))) : Nat) : Int)
   congr 2; omega
  ·rw [if_neg (by simp; omega), List.drop_of_length_le (by omega)]
   rfl
theorem zi7 : ∀ (n : Nat) (l : List Stm), zu l < n → zu l ≤ 1000000000 → zdm n l = some ((zu l : Nat) : Int)
 | 0, l, h, _ => by omega
 | n + 1, l, h, hl => by
  have hs := zjY l
  show zed (zdm n) l big (l.length : Int) 0 = _
  have := znH (R := zdm n) (l := l) hl (fun x hx => ⟨zi7 n x.Body (by have := ze0 hx; omega) (by have := ze0 hx; omega), zi7 n x.Else (by have := ze0 hx; omega) (by have := ze0 hx; omega)⟩) big 0 l.length (by omega) (zbA (by omega)) (by rw [List.drop_zero]; omega)
  refine this.trans ?_
  rw [List.drop_zero, hs]
theorem zpJ {l : List Stm} (h : zu l ≤ 1000000000) : zjq l = some ((zu l : Nat) : Int) := zi7 big l (zbA (by omega)) h
theorem zko {l : List zG} {d : zG} (h : d ∈ l) : d.Params.length + zu d.Body ≤ szG l := by
 induction l with
 | nil => cases h
 | cons e l ih =>
  show _ ≤ e.Params.length + zu e.Body + szG l
  cases h with
  | head => omega
  | tail _ h => have := ih h; omega
theorem zne {l : List zbh} {d : zbh} (h : d ∈ l) : d.Fields.length ≤ szF l := by
 induction l with
 | nil => cases h
 | cons e l ih =>
  show _ ≤ e.Fields.length + szF l
  cases h with
  | head => omega
  | tail _ h => have := ih h; omega
theorem zls : ∀ l : List zG, szD l ≤ szG l
 | [] => Nat.le_refl _
 | d :: l => by
  have := zls l
  show zu d.Body + szD l ≤ d.Params.length + zu d.Body + szG l
  omega
theorem zpj {p : zm} (hp : szP p ≤ 1000000000) : ∀ (n k m : Nat), k ≤ p.Funcs.length → p.Funcs.length - k < n → m + szG (p.Funcs.drop k) ≤ 1000000000 → zft p n (m : Int) (k : Int) = some ((m + szG (p.Funcs.drop k) : Nat) : Int) := by
 unfold szP at hp
 intro n
 induction n with
 | zero => intro k m _ h; omega
 | succ n ih =>
  intro k m hk hn hm
  show zfH (zft p n) p (m : Int) (k : Int) = _
  unfold zfH
  by_cases h : k < p.Funcs.length
  ·have hx := zko (List.getElem_mem h)
   rw [List.drop_eq_getElem_cons h] at hm ⊢
   have hm : m + (p.Funcs[k].Params.length + zu p.Funcs[k].Body + szG (p.Funcs.drop (k + 1))) ≤ 1000000000 := hm
   rw [if_pos (zbw (by omega)), zbr h]
   simp only [Option.bind_some]
   rw [zpJ (by omega), Option.bind_some, zd4 (by omega), zd4 (by omega), zbU (by omega), ih (k + 1) _ (by omega) (by omega) (by omega)]
   show _ = some ((m + (p.Funcs[k].Params.length + zu p.Funcs[k].Body + szG (p.Funcs.drop (k + 1))) : Nat) : Int)
   congr 2; omega
  ·rw [if_neg (by simp; omega), List.drop_of_length_le (by omega)]
   rfl
theorem zqh {p : zm} (hp : szP p ≤ 1000000000) : ∀ (n k m : Nat), k ≤ p.Structs.length → p.Structs.length - k < n → m + szF (p.Structs.drop k) + szG p.Funcs ≤ 1000000000 → zfB p n (m : Int) (k : Int) = some ((m + szF (p.Structs.drop k) + szG p.Funcs : Nat) : Int) := by
 have hp' := hp
 unfold szP at hp'
 intro n
 induction n with
 | zero => intro k m _ h; omega
 | succ n ih =>
  intro k m hk hn hm
  show zgG (zfB p n) p (m : Int) (k : Int) = _
  unfold zgG
  by_cases h : k < p.Structs.length
  ·rw [List.drop_eq_getElem_cons h] at hm ⊢
   have hm : m + (p.Structs[k].Fields.length + szF (p.Structs.drop (k + 1))) + szG p.Funcs ≤ 1000000000 := hm
   rw [if_pos (zbw (by omega)), zbr h, Option.bind_some, zd4 (by omega), zbU (by omega), ih (k + 1) _ (by omega) (by omega) (by omega)]
   show _ = some ((m + (p.Structs[k].Fields.length + szF (p.Structs.drop (k + 1))) + szG p.Funcs : Nat) : Int)
   congr 2; omega
  ·rw [if_neg (by simp; omega), List.drop_of_length_le (by omega)]
   have := zpj hp big 0 m (by omega) (zbA (by omega)) (by rw [List.drop_zero]; omega)
   rw [List.drop_zero] at this
   exact this
theorem zou {p : zm} (hp : szP p ≤ 1000000000) : zf2 p = some ((szP p : Nat) : Int) := by
 have hp' := hp
 unfold szP at hp'
 unfold zf2
 rw [zd4 (by omega)]
 have := zqh hp big 0 (p.Structs.length + p.Funcs.length) (by omega) (zbA (by omega)) (by rw [List.drop_zero]; omega)
 rw [List.drop_zero] at this
 exact this
theorem zln {p : zm} (hp : szP p ≤ 100000) : Bp p := by
 unfold szP at hp
 have := zls p.Funcs
 exact ⟨by omega, fun s hs => by have := zne hs; omega, by omega, fun d hd => by have := zko hd; omega, by omega⟩
mutual
def szV : zj → Nat
 | ⟨_, _, _, _, ks⟩ => 1 + zbO ks
def zbO : List zj → Nat
 | [] => 0
 | e :: l => szV e + zbO l
end
mutual
def szA : zh → Nat
 | ⟨_, _, _, _, _, ks, b, e⟩ => 1 + zbO ks + zbE b + zbE e
def zbE : List zh → Nat
 | [] => 0
 | e :: l => szA e + zbE l
end
theorem zjB {r : Er Vks} {want : List UInt8} {l : List zj} (h : vw r want = .ok l) : ∃ w, r = .ok w ∧ w.1 = l := by
 obtain ⟨w, h1, h⟩ := zt h
 obtain ⟨_, _, h⟩ := zt h
 injection h with h
 exact ⟨w, h1, h⟩
theorem zqg {c : Ck} {kd : UInt8} {nu : Int} {nm fd op : BA} {r : Er Vks} {n : Nat} {v : Vk} (hr : ∀ w, r = .ok w → zbO w.1 ≤ n) (h : kx c kd nu nm fd op r = .ok v) : szV v.1 ≤ 1 + n := by
 unfold kx at h
 split at h
 ·injection h with h
  subst h
  exact Nat.le_add_right 1 n
 split at h
 ·injection h with h
  subst h
  exact Nat.le_add_right 1 n
 split at h
 ·obtain ⟨k, _, h⟩ := zt h
  split at h
  ·obtain ⟨_, _, h⟩ := zt h
   injection h with h
   subst h
   exact Nat.le_add_right 1 n
  split at h
  ·obtain ⟨_, _, h⟩ := zt h
   obtain ⟨_, _, h⟩ := zt h
   injection h with h
   subst h
   exact Nat.le_add_right 1 n
  ·obtain ⟨_, _, h⟩ := zt h
   obtain ⟨l, h1, h⟩ := zt h
   injection h with h
   subst h
   obtain ⟨w, h2, rfl⟩ := zjB h1
   exact Nat.add_le_add_left (hr w h2) 1
 split at h
 ·obtain ⟨l, h1, h⟩ := zt h
  obtain ⟨_, _, h⟩ := zt h
  injection h with h
  subst h
  obtain ⟨w, h2, rfl⟩ := zjB h1
  exact Nat.add_le_add_left (hr w h2) 1
 ·obtain ⟨w, h1, h⟩ := zt h
  obtain ⟨_, _, h⟩ := zt h
  injection h with h
  subst h
  exact Nat.add_le_add_left (hr w h1) 1
mutual
theorem zm6 : ∀ (x : zc) {c : Ck} {v : Vk}, kE c x = .ok v → szV v.1 ≤ szE x
 | ⟨_, _, _, _, _, ks⟩, c, v, h => zqg (fun w hw => ziS ks hw) h
theorem ziS : ∀ (l : List zc) {c : Ck} {w : Vks}, kEs c l = .ok w → zbO w.1 ≤ zZ l
 | [], c, w, h => by
  injection h with h
  subst h
  exact Nat.le_refl _
 | x :: l, c, w, h => by
  obtain ⟨v, h1, h⟩ := zt h
  obtain ⟨w', h2, h⟩ := zt h
  injection h with h
  subst h
  exact Nat.add_le_add (zm6 x h1) (ziS l h2)
end
theorem zdv {l : List zc} {c : Ck} {want : List UInt8} {v : List zj} (h : kvs c l want = .ok v) : zbO v ≤ zZ l := by
 obtain ⟨w, h1, rfl⟩ := zjB h
 exact ziS l h1
theorem zqi {c : Ck} {p : Int} {kd : UInt8} {nm : BA} {ty : zz} {ks : List zc} {r : At3} (h : kva c p kd nm ty ks = .ok r) : szA r.1 ≤ 1 + zZ ks := by
 unfold kva at h
 obtain ⟨_, _, h⟩ := zt h
 split at h
 ·obtain ⟨_, _, h⟩ := zt h
  obtain ⟨_, _, h⟩ := zt h
  injection h with h
  subst h
  exact Nat.le_add_right 1 _
 ·split at h
  ·obtain ⟨_, _, h⟩ := zt h
   injection h with h
   subst h
   exact Nat.le_add_right 1 _
  ·obtain ⟨_, h1, h⟩ := zt h
   injection h with h
   subst h
   exact Nat.add_le_add_left (zdv h1) 1
theorem zol {c : Ck} {p : Int} {kd : UInt8} {nm fd : BA} {ks : List zc} {r : At3} (h : kas c p kd nm fd ks = .ok r) : szA r.1 ≤ 1 + zZ ks := by
 unfold kas at h
 obtain ⟨_, _, h⟩ := zt h
 split at h
 ·obtain ⟨_, _, h⟩ := zt h
  obtain ⟨_, h1, h⟩ := zt h
  injection h with h
  subst h
  exact Nat.add_le_add_left (zdv h1) 1
 split at h
 ·obtain ⟨_, _, h⟩ := zt h
  obtain ⟨_, h1, h⟩ := zt h
  injection h with h
  subst h
  exact Nat.add_le_add_left (zdv h1) 1
 split at h
 ·obtain ⟨_, _, h⟩ := zt h
  obtain ⟨_, h1, h⟩ := zt h
  injection h with h
  subst h
  exact Nat.add_le_add_left (zdv h1) 1
 split at h
 ·obtain ⟨_, _, h⟩ := zt h
  obtain ⟨_, _, h⟩ := zt h
  obtain ⟨_, h1, h⟩ := zt h
  injection h with h
  subst h
  exact Nat.add_le_add_left (zdv h1) 1
 injection h with h
 subst h
 exact Nat.le_add_right 1 _
theorem znS {c : Ck} {p : Int} {kd : UInt8} {nm ca : BA} {ks : List zc} {r : At3} (h : kca c p kd nm ca ks = .ok r) : szA r.1 ≤ 1 + zZ ks := by
 unfold kca at h
 obtain ⟨_, _, h⟩ := zt h
 split at h
 ·cases h
 split at h
 ·cases h
 obtain ⟨_, h1, h⟩ := zt h
 obtain ⟨_, _, h⟩ := zt h
 injection h with h
 subst h
 exact Nat.add_le_add_left (zdv h1) 1
theorem zp3 {c : Ck} {p : Int} {kd : UInt8} {nm fd ca : BA} {ty : zz} {ks : List zc} {B E : Bl} {nb ne : Nat} {r : At3}
  (hB : ∀ {d : Ck} {q : List zh × Ck}, B d = .ok q → zbE q.1 ≤ nb) (hE : ∀ {d : Ck} {q : List zh × Ck}, E d = .ok q → zbE q.1 ≤ ne)
  (h : ksm c p kd nm fd ca ty ks B E = .ok r) : szA r.1 ≤ 1 + zZ ks + nb + ne := by
 unfold ksm at h
 split at h
 ·have := zqi h; omega
 split at h
 ·have := zol h; omega
 split at h
 ·have := znS h; omega
 split at h
 ·obtain ⟨l, h0, h⟩ := zt h
  obtain ⟨b, h1, h⟩ := zt h
  obtain ⟨e, h2, h⟩ := zt h
  injection h with h
  subst h
  have := zdv h0
  have := hB h1
  have := hE h2
  show 1 + zbO l + zbE b.1 + zbE e.1 ≤ _
  omega
 split at h
 ·obtain ⟨l, h0, h⟩ := zt h
  obtain ⟨b, h1, h⟩ := zt h
  injection h with h
  subst h
  have := zdv h0
  have := hB h1
  show 1 + zbO l + zbE b.1 + 0 ≤ _
  omega
 split at h
 ·obtain ⟨l, h0, h⟩ := zt h
  injection h with h
  subst h
  have := zdv h0
  show 1 + zbO l + 0 + 0 ≤ _
  omega
 split at h
 ·obtain ⟨l, h0, h⟩ := zt h
  injection h with h
  subst h
  have := zdv h0
  show 1 + zbO l + 0 + 0 ≤ _
  omega
 obtain ⟨_, _, h⟩ := zt h
 cases h
mutual
theorem zpx : ∀ (s : Stm) {c : Ck} {r : At3}, kS s c = .ok r → szA r.1 ≤ szS s
 | ⟨kd, ln, nm, fd, ca, ty, ks, b, e⟩, c, r, h => by
  have hB : ∀ {d : Ck} {q : List zh × Ck}, (eb (kSs b d) fun r => .ok (r.1, zbK r.2 d.scope.length)) = .ok q → zbE q.1 ≤ zu b := fun {d q} hq => by
   obtain ⟨x, h1, h2⟩ := zt hq
   injection h2 with h2
   subst h2
   have h3 := zgI b h1
   exact h3
  have hE : ∀ {d : Ck} {q : List zh × Ck}, (eb (kSs e d) fun r => .ok (r.1, zbK r.2 d.scope.length)) = .ok q → zbE q.1 ≤ zu e := fun {d q} hq => by
   obtain ⟨x, h1, h2⟩ := zt hq
   injection h2 with h2
   subst h2
   have h3 := zgI e h1
   exact h3
  exact zp3 (B := fun d => eb (kSs b d) fun r => .ok (r.1, zbK r.2 d.scope.length)) (E := fun d => eb (kSs e d) fun r => .ok (r.1, zbK r.2 d.scope.length)) hB hE h
theorem zgI : ∀ (l : List Stm) {c : Ck} {r : List zh × Ck}, kSs l c = .ok r → zbE r.1 ≤ zu l
 | [], c, r, h => by
  injection h with h
  subst h
  exact Nat.le_refl _
 | s :: l, c, r, h => by
  obtain ⟨x, h1, h⟩ := zt h
  obtain ⟨y, h2, h⟩ := zt h
  injection h with h
  subst h
  exact Nat.add_le_add (zpx s h1) (zgI l h2)
end
theorem zoL {l : List Stm} {c : Ck} {r : List zh × Ck} (h : kL l c = .ok r) : zbE r.1 ≤ zu l := by
 obtain ⟨x, h1, h2⟩ := zt h
 injection h2 with h2
 subst h2
 have h3 := zgI l h1
 exact h3
end Go.Proofs.Ytakcaekikfcbpaa
