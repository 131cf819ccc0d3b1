import Derived.Test.YtckcngkkofemjaaGreatP_09f
namespace Go.Proofs.YtckcngkkofemjaaGreat
open Go.Ab Go.RowKit
set_option linter.unusedVariables false
set_option linter.unusedSimpArgs false
abbrev LV (n : Nat) (b : List UInt8) (a : Int) (f : Bool) (st : Pl) (acc : List Vr) (c : Int) := zfU n b a f st.Name st.From st.To st.Vars st.Spans acc c
theorem zll (n : Nat) (b : List UInt8) (a : Int) (f : Bool) (st : Pl) (acc : List Vr) (c : Int) : LV (n + 1) b a f st acc c = if (decide (c > 0) && (!f)) = true then (zdS ⟨b, a, f⟩ st).bind fun q => (room (acc.length + 1)).bind fun _ => LV n q.2.1.b q.2.1.at_ q.2.1.failed q.2.2 (acc ++ [q.1]) (IntKind.i64.wrap (c - 1)) else some (acc, ⟨b, a, f⟩, st) := rfl
theorem zpn {b : List UInt8} (hb : b.length ≤ 100000000000) (a : Int) (f : Bool) (st : Pl) (h0 : 0 ≤ a) (h1 : a ≤ b.length) (hsz : st.Spans.length ≤ 100) :
  ∃ l q st', zfI ⟨b, a, f⟩ 64 st = some (l, q, st') ∧ q.b = b ∧ 0 ≤ q.at_ ∧ q.at_ ≤ b.length ∧ (q.failed = true ∨ (f = false ∧ q.failed = false ∧ (l.length : Int) ≤ 64 ∧ ∃ (e : List UInt8) (i : Nat), Ch R11 st l st' e ∧ a = i ∧ zbA b i (zS l.length ++ e) ∧ q.at_ = ((i + (zS l.length ++ e).length : Nat) : Int))) :=
 zko (sz := fun st => st.Spans.length) hb (by omega) (zn7 hb) (L := LV) zll a f st h0 h1 hsz
end Go.Proofs.YtckcngkkofemjaaGreat
