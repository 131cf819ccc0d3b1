import Derived.Test.YtjcehfjmmbbblaaAd
namespace Go.Proofs.Ytjcehfjmmbbblaa
open Go.Ab Go.RowKit
set_option linter.unusedVariables false
set_option linter.unusedSimpArgs false
def zh6 (x : Nat) : List UInt8 := if x > 127 then UInt8.ofNat (x % 128 + 128) :: zh6 (x / 128) else [UInt8.ofNat x]
termination_by x
decreasing_by omega
def zgW (x : Int) : List UInt8 := if x > 63 ∨ x < -64 then UInt8.ofNat ((x % 128).toNat + 128) :: zgW (x / 128) else [UInt8.ofNat (x % 128).toNat]
termination_by x.natAbs
decreasing_by omega
def dig : Nat → List UInt8 → Option (Nat × Nat)
 | 0, _ => none
 | _ + 1, [] => none
 | n + 1, b :: r => if b.toNat < 128 then some (b.toNat, 1) else (dig n r).map fun p => (b.toNat % 128 + 128 * p.1, p.2 + 1)
def zeE (l : List UInt8) : Nat := match dig 10 l with
 | none => 0
 | some p => p.1 % 18446744073709551616
def zct (l : List UInt8) : Nat := match dig 10 l with
 | none => 0
 | some p => p.2
def rdU (l : List UInt8) (at_ : Int) : Nat × Int × Int :=
 if at_ < 0 ∨ (l.length : Int) < at_ then (0, 0, 1) else
 let r := l.drop at_.toNat
 if zct r = 0 ∨ zh6 (zeE r) ≠ r.take (zct r) then (0, 0, 5) else (zeE r, at_ + zct r, 0)
def sgn (x n : Nat) : Int := if n < 10 then (if x < 2 ^ (7 * n - 1) then x else (x : Int) - 2 ^ (7 * n)) else IntKind.i64.wrap x
def rdS (l : List UInt8) (at_ : Int) : Int × Int × Int :=
 if at_ < 0 ∨ (l.length : Int) < at_ then (0, 0, 1) else
 let r := l.drop at_.toNat
 if zct r = 0 ∨ zgW (sgn (zeE r) (zct r)) ≠ r.take (zct r) then (0, 0, 5) else (sgn (zeE r) (zct r), at_ + zct r, 0)
end Go.Proofs.Ytjcehfjmmbbblaa
