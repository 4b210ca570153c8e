/- Whether an amendment can be made, and whether two conflict, in the program and in the reference. Conditions: the ranges named. -/
import Derived.Test.YtnnphhhjkhoglaaGreatDoorFits
namespace Go.Proofs.YtnnphhhjkhoglaaGreatDoor
open Go.RowKit
set_option linter.unusedVariables false

/-! ### Whether an amendment fits -/
def canB (ss : List ByteArray) (a : Amd) : Bool := wordsB ss 0 20 && vldA a && fitsB ss a
def fitsR (ss : List ByteArray) (a : Amd) : Value := .tuple #[.bool (canB ss a), .bool (wordsB ss 0 20 && vldA a)]
end Go.Proofs.YtnnphhhjkhoglaaGreatDoor
