import Derived.Test.YtckcngkkofemjaaAd
import Derived.Test.YtckcngkkofemjaaF
import Derived.Test.YtckcngkkofemjaaPL
import Derived.Test.YtckcngkkofemjaaP_02
import Derived.Test.YtckcngkkofemjaaP_01
import Derived.Test.YtckcngkkofemjaaP_06
import Derived.Test.YtckcngkkofemjaaP_06b
import Derived.Test.YtckcngkkofemjaaP_06c
import Derived.Test.YtckcngkkofemjaaP_07
import Derived.Test.YtckcngkkofemjaaP_07b
import Derived.Test.YtckcngkkofemjaaP_09
import Derived.Test.YtckcngkkofemjaaP_09c
import Derived.Test.YtckcngkkofemjaaP_09d
import Derived.Test.YtckcngkkofemjaaP_09e
import Derived.Test.YtckcngkkofemjaaP_09f
namespace Go.Proofs.Ytckcngkkofemjaa
open Go.Ab Go.RowKit
set_option linter.unusedVariables false
set_option linter.unusedSimpArgs false
abbrev LV (n : Nat) (b : List UInt8) (a : Int) (f : Bool) (st : Pl) (acc : List Vr) (c : Int) := zcs n b a f st.Name st.From st.To st.Vars st.Spans acc c
theorem LV_eq (n : Nat) (b : List UInt8) (a : Int) (f : Bool) (st : Pl) (acc : List Vr) (c : Int) : LV (n + 1) b a f st acc c = if (decide (c > 0) && (!f)) = true then (zS ⟨b, a, f⟩ st).bind fun q => (room (acc.length + 1)).bind fun _ => LV n q.2.1.b q.2.1.at_ q.2.1.failed q.2.2 (acc ++ [q.1]) (IntKind.i64.wrap (c - 1)) else some (acc, ⟨b, a, f⟩, st) := rfl
theorem vars_S {b : List UInt8} (hb : b.length ≤ 100000000000) (a : Int) (f : Bool) (st : Pl) (h0 : 0 ≤ a) (h1 : a ≤ b.length) (hsz : st.Spans.length ≤ 100) :
    ∃ l q st', zcl ⟨b, a, f⟩ 64 st = some (l, q, st') ∧ q.b = b ∧ 0 ≤ q.at_ ∧ q.at_ ≤ b.length ∧ (q.failed = true ∨ (f = false ∧ q.failed = false ∧ (l.length : Int) ≤ 64 ∧ ∃ (e : List UInt8) (i : Nat), Ch R11 st l st' e ∧ a = i ∧ LiesL b i (encU l.length ++ e) ∧ q.at_ = ((i + (encU l.length ++ e).length : Nat) : Int))) :=
  lstR_S (sz := fun st => st.Spans.length) hb (by omega) (g11_S hb) (L := LV) LV_eq a f st h0 h1 hsz
theorem vars_P (p r : List UInt8) (st st' : Pl) (l : List Vr) (e : List UInt8) (hc : Ch R11 st l st' e) (hl : (l.length : Int) ≤ 64) (hsz : st.Spans.length ≤ 100) (hlen : (p ++ (encU l.length ++ e) ++ r).length ≤ 100000000000) :
    zcl ⟨p ++ (encU l.length ++ e) ++ r, (p.length : Int), false⟩ 64 st = some (l, ⟨p ++ (encU l.length ++ e) ++ r, ((p ++ (encU l.length ++ e)).length : Nat), false⟩, st') :=
  lstR_P (sz := fun st => st.Spans.length) (by omega) g11_P (L := LV) LV_eq p r st st' l e hc hl hsz hlen
end Go.Proofs.Ytckcngkkofemjaa
