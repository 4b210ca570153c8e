/- Amendments in the words of objects: the laws' helpers on them. Conditions: the ranges named. -/
import Derived.Test.YtnnphhhjkhoglaaGreatDoorAmd
namespace Go.Proofs.YtnnphhhjkhoglaaGreatDoor
open Go.RowKit
set_option linter.unusedVariables false
/-- A copy of an amendment. -/
def ToA (w : World) (a : Amd) (e : Ending) (w' : World) : Prop := ∃ (A : Option Addr) (c : Nat), e = .returned (.agg #[.int .i64 a.k, .int .i64 a.p, .int .i64 a.n, .slice A a.ws.length c]) ∧ OwS w.heap.size w'.heap.size w' A c a.ws ∧ Below w.heap.size w w'
section
variable {B B' lo hi : Nat} {w : World} {A A' : Option Addr} {c c' : Nat} {a : Amd}
end
end Go.Proofs.YtnnphhhjkhoglaaGreatDoor
