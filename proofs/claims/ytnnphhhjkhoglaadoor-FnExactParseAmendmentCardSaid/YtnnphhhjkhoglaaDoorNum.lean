/- Small functions on numbers, of the program and of the reference. Conditions: none. -/
import Derived.Test.YtnnphhhjkhoglaaDoorProg
import Derived.Test.YtnnphhhjkhoglaaDoorCell
import Derived.Test.YtnnphhhjkhoglaaDoorWord
namespace Go.Proofs.YtnnphhhjkhoglaaDoor
open Go.RowKit
set_option linter.unusedVariables false

/-- The number of a member. -/
def memB (x : Int) : Bool := inB x 1 99
end Go.Proofs.YtnnphhhjkhoglaaDoor
