import Derived.Test.YtakcaekikfcbpaaP_13e
import Derived.KernelRfl
namespace Go.Proofs.Ytakcaekikfcbpaa
open Go.Ab Go.RowKit
set_option linter.unusedVariables false
set_option linter.unusedSimpArgs false
def szF : List zbi → Nat
 | [] => 0
 | s :: l => s.Fields.length + szF l
def szG : List zH → Nat
 | [] => 0
 | d :: l => d.Params.length + zx d.Body + szG l
def szP (p : zm) : Nat := p.Structs.length + p.Funcs.length + szF p.Structs + szG p.Funcs
def szK : List zc → Nat
 | [] => 0
 | e :: l => zbg e.Kids + szK l
theorem zj2 : ∀ l : List zc, zbg l = l.length + szK l
 | [] => rfl
 | e :: l => by
  have := zj2 l
  have := zg6 e
  show szE e + zbg l = l.length + 1 + (zbg e.Kids + szK l)
  omega
def szT : List Stm → Nat
 | [] => 0
 | s :: l => zbg s.Kids + zx s.Body + zx s.Else + szT l
theorem zk5 : ∀ l : List Stm, zx l = l.length + szT l
 | [] => rfl
 | e :: l => by
  have := zk5 l
  have := zfq e
  show szS e + zx l = l.length + 1 + (zbg e.Kids + zx e.Body + zx e.Else + szT l)
  omega
theorem zk3 {l : List zc} {x : zc} (h : x ∈ l) : zbg x.Kids < zbg l := by
 have := zgx h
 have := zg6 x
 omega
theorem zdI {l : List Stm} {x : Stm} (h : x ∈ l) : zbg x.Kids + zx x.Body + zx x.Else < zx l := by
 have := zgA h
 have := zfq x
 omega
theorem zni {R : List zc → Option Int} {l : List zc} (hl : l.length ≤ 1000000000) (hR : ∀ x ∈ l, R x.Kids = some (zbg x.Kids : Int)) : ∀ (n k m : Nat), k ≤ l.length → l.length - k < n → m + szK (l.drop k) ≤ 1000000000 → zez R l n (m : Int) (k : Int) = some ((m + szK (l.drop k) : Nat) : Int) := by
 intro n
 induction n with
 | zero => intro k m _ h; omega
 | succ n ih =>
  intro k m hk hn hm
  show zgj (zez R l n) R l (m : Int) (k : Int) = _
  unfold zgj
  by_cases h : k < l.length
  ·rw [List.drop_eq_getElem_cons h] at hm ⊢
   have hm : m + (zbg l[k].Kids + szK (l.drop (k + 1))) ≤ 1000000000 := hm
   rw [if_pos (zbB (by omega)), zbx h, Option.bind_some, hR _ (List.getElem_mem h), Option.bind_some, zdC (by omega), zbW (by omega), ih (k + 1) _ (by omega) (by omega) (by omega)]
   show _ = some ((m + (zbg l[k].Kids + szK (l.drop (k + 1))) : Nat) : Int)
   rw [Nat.add_assoc]
  ·rw [if_neg (by simp; omega), List.drop_of_length_le (by omega)]
   rfl
theorem zky : ∀ (n : Nat) (l : List zc), zbg l < n → zbg l ≤ 1000000000 → zdu n l = some ((zbg l : Nat) : Int)
 | 0, l, h, _ => by omega
 | n + 1, l, h, hl => by
  have hs := zj2 l
  show zez (zdu n) l big (l.length : Int) 0 = _
  have := zni (R := zdu n) (l := l) (by omega) (fun x hx => zky n x.Kids (by have := zk3 hx; omega) (by have := zk3 hx; omega)) big 0 l.length (by omega) (zbF (by omega)) (by rw [List.drop_zero]; omega)
  refine this.trans ?_
  rw [List.drop_zero, hs]
theorem znq {l : List zc} (h : zbg l ≤ 1000000000) : zjn l = some ((zbg l : Nat) : Int) := zky big l (zbF (by omega)) h
theorem zmx {R : List Stm → Option Int} {l : List Stm} (hl : zx l ≤ 1000000000) (hR : ∀ x ∈ l, R x.Body = some (zx x.Body : Int) ∧ R x.Else = some (zx x.Else : Int)) : ∀ (n k m : Nat), k ≤ l.length → l.length - k < n → m + szT (l.drop k) ≤ 1000000000 → zea R l n (m : Int) (k : Int) = some ((m + szT (l.drop k) : Nat) : Int) := by
 have hlen := zgb l
 intro n
 induction n with
 | zero => intro k m _ h; omega
 | succ n ih =>
  intro k m hk hn hm
  show zfE (zea R l n) R l (m : Int) (k : Int) = _
  unfold zfE
  by_cases h : k < l.length
  ·have hx := zdI (List.getElem_mem h)
   rw [List.drop_eq_getElem_cons h] at hm ⊢
   have hm : m + (zbg l[k].Kids + zx l[k].Body + zx l[k].Else + szT (l.drop (k + 1))) ≤ 1000000000 := hm
   obtain ⟨h1, h2⟩ := hR _ (List.getElem_mem h)
   rw [if_pos (zbB (by omega)), zbx h]
   simp only [Option.bind_some]
   rw [znq (by omega), Option.bind_some, h1, Option.bind_some, h2, Option.bind_some, zdC (by omega), zdC (by omega), zdC (by omega), zbW (by omega), ih (k + 1) _ (by omega) (by omega) (by omega)]
   show _ = some ((m + (zbg l[k].Kids + zx l[k].Body + zx l[k].Else + szT (l.drop (k + 1))) : Nat) : Int)
   congr 2; omega
  ·rw [if_neg (by simp; omega), List.drop_of_length_le (by omega)]
   rfl
theorem zjE : ∀ (n : Nat) (l : List Stm), zx l < n → zx l ≤ 1000000000 → zdr n l = some ((zx l : Nat) : Int)
 | 0, l, h, _ => by omega
 | n + 1, l, h, hl => by
  have hs := zk5 l
  show zea (zdr n) l big (l.length : Int) 0 = _
  have := zmx (R := zdr n) (l := l) hl (fun x hx => ⟨zjE n x.Body (by have := zdI hx; omega) (by have := zdI hx; omega), zjE n x.Else (by have := zdI hx; omega) (by have := zdI hx; omega)⟩) big 0 l.length (by omega) (zbF (by omega)) (by rw [List.drop_zero]; omega)
  refine this.trans ?_
  rw [List.drop_zero, hs]
theorem zpl {l : List Stm} (h : zx l ≤ 1000000000) : zig l = some ((zx l : Nat) : Int) := zjE big l (zbF (by omega)) h
theorem zmi {l : List zH} {d : zH} (h : d ∈ l) : d.Params.length + zx d.Body ≤ szG l := by
 induction l with
 | nil => cases h
 | cons e l ih =>
  show _ ≤ e.Params.length + zx e.Body + szG l
  cases h with
  | head => omega
  | tail _ h => have := ih h; omega
theorem zoG {l : List zbi} {d : zbi} (h : d ∈ l) : d.Fields.length ≤ szF l := by
 induction l with
 | nil => cases h
 | cons e l ih =>
  show _ ≤ e.Fields.length + szF l
  cases h with
  | head => omega
  | tail _ h => have := ih h; omega
theorem zkH : ∀ l : List zH, szD l ≤ szG l
 | [] => Nat.le_refl _
 | d :: l => by
  have := zkH l
  show zx d.Body + szD l ≤ d.Params.length + zx d.Body + szG l
  omega
theorem zmP {p : zm} (hp : szP p ≤ 1000000000) : ∀ (n k m : Nat), k ≤ p.Funcs.length → p.Funcs.length - k < n → m + szG (p.Funcs.drop k) ≤ 1000000000 → zeT p n (m : Int) (k : Int) = some ((m + szG (p.Funcs.drop k) : Nat) : Int) := by
 unfold szP at hp
 intro n
 induction n with
 | zero => intro k m _ h; omega
 | succ n ih =>
  intro k m hk hn hm
  show zfJ (zeT p n) p (m : Int) (k : Int) = _
  unfold zfJ
  by_cases h : k < p.Funcs.length
  ·have hx := zmi (List.getElem_mem h)
   rw [List.drop_eq_getElem_cons h] at hm ⊢
   have hm : m + (p.Funcs[k].Params.length + zx p.Funcs[k].Body + szG (p.Funcs.drop (k + 1))) ≤ 1000000000 := hm
   rw [if_pos (zbB (by omega)), zbx h]
   simp only [Option.bind_some]
   rw [zpl (by omega), Option.bind_some, zdC (by omega), zdC (by omega), zbW (by omega), ih (k + 1) _ (by omega) (by omega) (by omega)]
   show _ = some ((m + (p.Funcs[k].Params.length + zx p.Funcs[k].Body + szG (p.Funcs.drop (k + 1))) : Nat) : Int)
   congr 2; omega
  ·rw [if_neg (by simp; omega), List.drop_of_length_le (by omega)]
   rfl
theorem zpO {p : zm} (hp : szP p ≤ 1000000000) : ∀ (n k m : Nat), k ≤ p.Structs.length → p.Structs.length - k < n → m + szF (p.Structs.drop k) + szG p.Funcs ≤ 1000000000 → ze6 p n (m : Int) (k : Int) = some ((m + szF (p.Structs.drop k) + szG p.Funcs : Nat) : Int) := by
 have hp' := hp
 unfold szP at hp'
 intro n
 induction n with
 | zero => intro k m _ h; omega
 | succ n ih =>
  intro k m hk hn hm
  show zf2 (ze6 p n) p (m : Int) (k : Int) = _
  unfold zf2
  by_cases h : k < p.Structs.length
  ·rw [List.drop_eq_getElem_cons h] at hm ⊢
   have hm : m + (p.Structs[k].Fields.length + szF (p.Structs.drop (k + 1))) + szG p.Funcs ≤ 1000000000 := hm
   rw [if_pos (zbB (by omega)), zbx h, Option.bind_some, zdC (by omega), zbW (by omega), ih (k + 1) _ (by omega) (by omega) (by omega)]
   show _ = some ((m + (p.Structs[k].Fields.length + szF (p.Structs.drop (k + 1))) + szG p.Funcs : Nat) : Int)
   congr 2; omega
  ·rw [if_neg (by simp; omega), List.drop_of_length_le (by omega)]
   have := zmP hp big 0 m (by omega) (zbF (by omega)) (by rw [List.drop_zero]; omega)
   rw [List.drop_zero] at this
   exact this
theorem zka {p : zm} (hp : szP p ≤ 1000000000) : zeL p = some ((szP p : Nat) : Int) := by
 have hp' := hp
 unfold szP at hp'
 unfold zeL
 rw [zdC (by omega)]
 have := zpO hp big 0 (p.Structs.length + p.Funcs.length) (by omega) (zbF (by omega)) (by rw [List.drop_zero]; omega)
 rw [List.drop_zero] at this
 exact this
theorem zhJ {p : zm} (hp : szP p ≤ 100000) : Bp p := by
 unfold szP at hp
 have := zkH p.Funcs
 exact ⟨by omega, fun s hs => by have := zoG hs; omega, by omega, fun d hd => by have := zmi hd; omega, by omega⟩
mutual
def szV : zi → Nat
 | ⟨_, _, _, _, ks⟩ => 1 + zbO ks
def zbO : List zi → Nat
 | [] => 0
 | e :: l => szV e + zbO l
end
mutual
def szA : zh → Nat
 | ⟨_, _, _, _, _, ks, b, e⟩ => 1 + zbO ks + zbE b + zbE e
def zbE : List zh → Nat
 | [] => 0
 | e :: l => szA e + zbE l
end
theorem zh7 {r : Er Vks} {want : List UInt8} {l : List zi} (h : vw r want = .ok l) : ∃ w, r = .ok w ∧ w.1 = l := by
 obtain ⟨w, h1, h⟩ := zs h
 obtain ⟨_, _, h⟩ := zs h
 injection h with h
 exact ⟨w, h1, h⟩
theorem zpR {c : Ck} {kd : UInt8} {nu : Int} {nm fd op : BA} {r : Er Vks} {n : Nat} {v : Vk} (hr : ∀ w, r = .ok w → zbO w.1 ≤ n) (h : kx c kd nu nm fd op r = .ok v) : szV v.1 ≤ 1 + n := by
 unfold kx at h
 split at h
 ·injection h with h
  subst h
  exact Nat.le_add_right 1 n
 split at h
 ·injection h with h
  subst h
  exact Nat.le_add_right 1 n
 split at h
 ·obtain ⟨k, _, h⟩ := zs h
  split at h
  ·obtain ⟨_, _, h⟩ := zs h
   injection h with h
   subst h
   exact Nat.le_add_right 1 n
  split at h
  ·obtain ⟨_, _, h⟩ := zs h
   obtain ⟨_, _, h⟩ := zs h
   injection h with h
   subst h
   exact Nat.le_add_right 1 n
  ·obtain ⟨_, _, h⟩ := zs h
   obtain ⟨l, h1, h⟩ := zs h
   injection h with h
   subst h
   obtain ⟨w, h2, rfl⟩ := zh7 h1
   exact Nat.add_le_add_left (hr w h2) 1
 split at h
 ·obtain ⟨l, h1, h⟩ := zs h
  obtain ⟨_, _, h⟩ := zs h
  injection h with h
  subst h
  obtain ⟨w, h2, rfl⟩ := zh7 h1
  exact Nat.add_le_add_left (hr w h2) 1
 ·obtain ⟨w, h1, h⟩ := zs h
  obtain ⟨_, _, h⟩ := zs h
  injection h with h
  subst h
  exact Nat.add_le_add_left (hr w h1) 1
mutual
theorem zmT : ∀ (x : zc) {c : Ck} {v : Vk}, kE c x = .ok v → szV v.1 ≤ szE x
 | ⟨_, _, _, _, _, ks⟩, c, v, h => zpR (fun w hw => zjd ks hw) h
theorem zjd : ∀ (l : List zc) {c : Ck} {w : Vks}, kEs c l = .ok w → zbO w.1 ≤ zbg l
 | [], c, w, h => by
  injection h with h
  subst h
  exact Nat.le_refl _
 | x :: l, c, w, h => by
  obtain ⟨v, h1, h⟩ := zs h
  obtain ⟨w', h2, h⟩ := zs h
  injection h with h
  subst h
  exact Nat.add_le_add (zmT x h1) (zjd l h2)
end
theorem zdl {l : List zc} {c : Ck} {want : List UInt8} {v : List zi} (h : kvs c l want = .ok v) : zbO v ≤ zbg l := by
 obtain ⟨w, h1, rfl⟩ := zh7 h
 exact zjd l h1
theorem zpx {c : Ck} {p : Int} {kd : UInt8} {nm : BA} {ty : zD} {ks : List zc} {r : At3} (h : kva c p kd nm ty ks = .ok r) : szA r.1 ≤ 1 + zbg ks := by
 unfold kva at h
 obtain ⟨_, _, h⟩ := zs h
 split at h
 ·obtain ⟨_, _, h⟩ := zs h
  obtain ⟨_, _, h⟩ := zs h
  injection h with h
  subst h
  exact Nat.le_add_right 1 _
 ·split at h
  ·obtain ⟨_, _, h⟩ := zs h
   injection h with h
   subst h
   exact Nat.le_add_right 1 _
  ·obtain ⟨_, h1, h⟩ := zs h
   injection h with h
   subst h
   exact Nat.add_le_add_left (zdl h1) 1
theorem zn1 {c : Ck} {p : Int} {kd : UInt8} {nm fd : BA} {ks : List zc} {r : At3} (h : kas c p kd nm fd ks = .ok r) : szA r.1 ≤ 1 + zbg ks := by
 unfold kas at h
 obtain ⟨_, _, h⟩ := zs h
 split at h
 ·obtain ⟨_, _, h⟩ := zs h
  obtain ⟨_, h1, h⟩ := zs h
  injection h with h
  subst h
  exact Nat.add_le_add_left (zdl h1) 1
 split at h
 ·obtain ⟨_, _, h⟩ := zs h
  obtain ⟨_, h1, h⟩ := zs h
  injection h with h
  subst h
  exact Nat.add_le_add_left (zdl h1) 1
 split at h
 ·obtain ⟨_, _, h⟩ := zs h
  obtain ⟨_, h1, h⟩ := zs h
  injection h with h
  subst h
  exact Nat.add_le_add_left (zdl h1) 1
 split at h
 ·obtain ⟨_, _, h⟩ := zs h
  obtain ⟨_, _, h⟩ := zs h
  obtain ⟨_, h1, h⟩ := zs h
  injection h with h
  subst h
  exact Nat.add_le_add_left (zdl h1) 1
 injection h with h
 subst h
 exact Nat.le_add_right 1 _
theorem zon {c : Ck} {p : Int} {kd : UInt8} {nm ca : BA} {ks : List zc} {r : At3} (h : kca c p kd nm ca ks = .ok r) : szA r.1 ≤ 1 + zbg ks := by
 unfold kca at h
 obtain ⟨_, _, h⟩ := zs h
 split at h
 ·cases h
 split at h
 ·cases h
 obtain ⟨_, h1, h⟩ := zs h
 obtain ⟨_, _, h⟩ := zs h
 injection h with h
 subst h
 exact Nat.add_le_add_left (zdl h1) 1
theorem zqk {c : Ck} {p : Int} {kd : UInt8} {nm fd ca : BA} {ty : zD} {ks : List zc} {B E : Bl} {nb ne : Nat} {r : At3}
  (hB : ∀ {d : Ck} {q : List zh × Ck}, B d = .ok q → zbE q.1 ≤ nb) (hE : ∀ {d : Ck} {q : List zh × Ck}, E d = .ok q → zbE q.1 ≤ ne)
  (h : ksm c p kd nm fd ca ty ks B E = .ok r) : szA r.1 ≤ 1 + zbg ks + nb + ne := by
 unfold ksm at h
 split at h
 ·have := zpx h; omega
 split at h
 ·have := zn1 h; omega
 split at h
 ·have := zon h; omega
 split at h
 ·obtain ⟨l, h0, h⟩ := zs h
  obtain ⟨b, h1, h⟩ := zs h
  obtain ⟨e, h2, h⟩ := zs h
  injection h with h
  subst h
  have := zdl h0
  have := hB h1
  have := hE h2
  show 1 + zbO l + zbE b.1 + zbE e.1 ≤ _
  omega
 split at h
 ·obtain ⟨l, h0, h⟩ := zs h
  obtain ⟨b, h1, h⟩ := zs h
  injection h with h
  subst h
  have := zdl h0
  have := hB h1
  show 1 + zbO l + zbE b.1 + 0 ≤ _
  omega
 split at h
 ·obtain ⟨l, h0, h⟩ := zs h
  injection h with h
  subst h
  have := zdl h0
  show 1 + zbO l + 0 + 0 ≤ _
  omega
 split at h
 ·obtain ⟨l, h0, h⟩ := zs h
  injection h with h
  subst h
  have := zdl h0
  show 1 + zbO l + 0 + 0 ≤ _
  omega
 obtain ⟨_, _, h⟩ := zs h
 cases h
mutual
theorem zo9 : ∀ (s : Stm) {c : Ck} {r : At3}, kS s c = .ok r → szA r.1 ≤ szS s
 | ⟨kd, ln, nm, fd, ca, ty, ks, b, e⟩, c, r, h => by
  have hB : ∀ {d : Ck} {q : List zh × Ck}, (eb (kSs b d) fun r => .ok (r.1, zbM r.2 d.scope.length)) = .ok q → zbE q.1 ≤ zx b := fun {d q} hq => by
   obtain ⟨x, h1, h2⟩ := zs hq
   injection h2 with h2
   subst h2
   have h3 := zhB b h1
   exact h3
  have hE : ∀ {d : Ck} {q : List zh × Ck}, (eb (kSs e d) fun r => .ok (r.1, zbM r.2 d.scope.length)) = .ok q → zbE q.1 ≤ zx e := fun {d q} hq => by
   obtain ⟨x, h1, h2⟩ := zs hq
   injection h2 with h2
   subst h2
   have h3 := zhB e h1
   exact h3
  exact zqk (B := fun d => eb (kSs b d) fun r => .ok (r.1, zbM r.2 d.scope.length)) (E := fun d => eb (kSs e d) fun r => .ok (r.1, zbM r.2 d.scope.length)) hB hE h
theorem zhB : ∀ (l : List Stm) {c : Ck} {r : List zh × Ck}, kSs l c = .ok r → zbE r.1 ≤ zx l
 | [], c, r, h => by
  injection h with h
  subst h
  exact Nat.le_refl _
 | s :: l, c, r, h => by
  obtain ⟨x, h1, h⟩ := zs h
  obtain ⟨y, h2, h⟩ := zs h
  injection h with h
  subst h
  exact Nat.add_le_add (zo9 s h1) (zhB l h2)
end
theorem zqi {l : List Stm} {c : Ck} {r : List zh × Ck} (h : kL l c = .ok r) : zbE r.1 ≤ zx l := by
 obtain ⟨x, h1, h2⟩ := zs h
 injection h2 with h2
 subst h2
 have h3 := zhB l h1
 exact h3
end Go.Proofs.Ytakcaekikfcbpaa
