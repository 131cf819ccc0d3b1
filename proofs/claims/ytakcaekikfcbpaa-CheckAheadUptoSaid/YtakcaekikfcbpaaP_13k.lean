import Derived.Test.YtakcaekikfcbpaaP_13j
import Derived.KernelRfl
namespace Go.Proofs.Ytakcaekikfcbpaa
open Go.Ab Go.RowKit
set_option linter.unusedVariables false
set_option linter.unusedSimpArgs false
mutual
def gE : zc → Nat
 | ⟨_, _, nm, _, _, ks⟩ => 1 + nm.size + gEs ks
def gEs : List zc → Nat
 | [] => 0
 | x :: l => gE x + gEs l
end
mutual
def gS : Stm → Nat
 | ⟨_, _, nm, _, _, _, ks, b, e⟩ => 1 + nm.size + gEs ks + gSs b + gSs e
def gSs : List Stm → Nat
 | [] => 0
 | x :: l => gS x + gSs l
end
def gPs : List zcU → Nat
 | [] => 0
 | x :: l => 1 + x.Name.size + gPs l
def gDs : List zH → Nat
 | [] => 0
 | d :: l => 1 + gPs d.Params + gSs d.Body + gDs l
def gP (p : zm) : Nat := p.Structs.length + szF p.Structs + gDs p.Funcs
mutual
theorem znU : ∀ x : zc, szE x ≤ gE x
 | ⟨_, _, nm, _, _, ks⟩ => by
  have := zji ks
  show 1 + zbg ks ≤ 1 + nm.size + gEs ks
  omega
theorem zji : ∀ x : List zc, zbg x ≤ gEs x
 | [] => Nat.le_refl _
 | x :: l => Nat.add_le_add (znU x) (zji l)
end
mutual
theorem znb : ∀ x : Stm, szS x ≤ gS x
 | ⟨_, _, nm, _, _, _, ks, b, e⟩ => by
  have := zji ks
  have := zhp b
  have := zhp e
  show 1 + zbg ks + zx b + zx e ≤ 1 + nm.size + gEs ks + gSs b + gSs e
  omega
theorem zhp : ∀ x : List Stm, zx x ≤ gSs x
 | [] => Nat.le_refl _
 | x :: l => Nat.add_le_add (znb x) (zhp l)
end
theorem zlr : ∀ l : List zcU, l.length ≤ gPs l
 | [] => Nat.le_refl _
 | x :: l => by
  have := zlr l
  show l.length + 1 ≤ 1 + x.Name.size + gPs l
  omega
theorem zle : ∀ l : List zH, l.length + szG l ≤ gDs l
 | [] => Nat.le_refl _
 | d :: l => by
  have := zle l
  have := zlr d.Params
  have := zhp d.Body
  show (l.length + 1) + (d.Params.length + zx d.Body + szG l) ≤ 1 + gPs d.Params + gSs d.Body + gDs l
  omega
theorem szP_w (p : zm) : szP p ≤ gP p := by
 have := zle p.Funcs
 unfold szP gP
 omega
end Go.Proofs.Ytakcaekikfcbpaa
