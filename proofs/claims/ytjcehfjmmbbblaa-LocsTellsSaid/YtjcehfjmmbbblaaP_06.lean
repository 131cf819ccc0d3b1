import Derived.Test.YtjcehfjmmbbblaaP_02
import Derived.KernelRfl
namespace Go.Proofs.Ytjcehfjmmbbblaa
open Go.Ab Go.RowKit
set_option linter.unusedVariables false
set_option linter.unusedSimpArgs false
abbrev Lc := zd
def kd (x : Lc) : Int := x.Kind.toNat
def okd (x : Lc) : Bool := decide (kd x = 1 ∨ (kd x = 2 ∧ 0 ≤ x.N ∧ x.N < 16) ∨ kd x = 3 ∨ ((kd x = 4 ∨ kd x = 5 ∨ kd x = 6) ∧ x.N = 0))
def tkn (x : Lc) : Nat := if kd x = 4 ∨ kd x = 6 then 1 else if kd x = 5 then 2 else 0
def rtL : Nat → List Lc → Option Nat
 | d, [] => some d
 | d, x :: l => if okd x = true ∧ tkn x ≤ d ∧ d + 1 - tkn x ≤ 8 then rtL (d + 1 - tkn x) l else none
def fin (l : List Lc) (d : Nat) : Bool := decide (l.length ≤ 16 ∧ (l.length = 0 ∨ d = 1))
def Rt (l : List Lc) : Bool := match rtL 0 l with
 | none => false
 | some d => fin l d
end Go.Proofs.Ytjcehfjmmbbblaa
