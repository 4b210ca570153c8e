/- DoConflict, in the program and in the reference, in the words of objects. Conditions: the ranges named. -/
import Derived.Test.YtnnphhhjkhoglaaGreatDoorDo
namespace Go.Proofs.YtnnphhhjkhoglaaGreatDoor
open Go.RowKit
set_option linter.unusedVariables false

section
variable {B' B1 : Nat} {w : World} {A B : Option Addr} {c d : Nat} {a b : Amd}
end
end Go.Proofs.YtnnphhhjkhoglaaGreatDoor
